/-
  Slices of structs inside of arguments, opened.
-/
import Derived.Test.YtmlhipckgmbpfaaGreatLift
namespace Go.Proofs.YtmlhipckgmbpfaaGreat
open Go.RowKit Go.ChangeShapes Go.WideShapes Go.ChangeAt Go.Deep
set_option linter.unusedVariables false

section
variable {H : Type} {enc : TypeId × Value → H} {W : World}

theorem weightsAll_mem {P : Program} {e : TypeId} {n : Nat} : ∀ (l : List (DataW H)) (d : DataW H), d ∈ l → n ∈ d.weights P e → n ∈ DataW.weightsAll P e l
  | d' :: r, d, hd, hn => by
    unfold DataW.weightsAll
    rcases List.mem_cons.1 hd with rfl | hd
    · exact List.mem_append_left _ hn
    · exact List.mem_append_right _ (weightsAll_mem r d hd hn)

/-- does a value fit into memory? -/
def FitsD (P : Program) (t : TypeId) (d : DataW H) : Prop := ∀ n ∈ d.weights P t, n ≤ reachBytes

theorem rows_in {α : Type} [Inhabited α] {cells : α → List Value} {s : Nat} {t e : TypeId} {P : Program} {fuel : Nat} {c : Value} {x : DataW H × List MemPlace} (Q : α → Prop)
    (ht : P.underlying t = some (.slice e)) (hce : P.cellsOf e = s) (hs : 0 < s) (hbe : 8 ≤ P.bytesOf e) (hsz : FitsD P t x.1)
    (helem : ∀ n cs x, DataW.trod enc P W 0 (fun _ => true) true n e cs = some x → FitsD P e x.1 → (∀ z ∈ x.2, z.block < W.heap.size) → ∃ y : α, cs = cells y ∧ Q y)
    (h : DataW.trod enc P W 0 (fun _ => true) true fuel t [c] = some x) (hlt : ∀ z ∈ x.2, z.block < W.heap.size) :
    ∃ (a : Option Addr) (xs : List α) (cap : Nat), c = .slice a xs.length cap ∧ Rows cells s W a cap xs ∧ ∀ y ∈ xs, Q y := by
  rcases open_slice ht h with ⟨hc, _⟩ | ⟨a, len, cap, m, n, D, Pl, hc, hb, hl, hm, hmm, hx, hel⟩
  · simp at hc
    subst hc
    exact ⟨none, [], 0, rfl, ⟨by simp, by simp, by simp, fun _ => rfl, fun h => absurd rfl h⟩, by simp⟩
  · simp at hc
    subst hc
    simp only [if_true] at hmm
    subst hmm
    subst hx
    have hlen : len ≤ 17592186044416 := by
      have := hsz ((((List.range len).map D).length + ((List.range (m - len)).map fun j => D (len + j)).length) * P.bytesOf e) (by simp [DataW.weights, ht])
      simp at this
      have h3 : len * 8 ≤ (len + (m - len)) * P.bytesOf e := Nat.mul_le_mul (by omega) hbe
      have h4 : reachBytes = 140737488351232 := by decide
      omega
    have key : ∀ i, i < len → ∃ y : α, W.cells? 0 (a.add (i * s)) s = some (cells y) ∧ Q y := by
      intro i hi
      obtain ⟨cs', h1, h2⟩ := hel i (by omega)
      rw [hce] at h1
      obtain ⟨y, rfl, hq⟩ := helem n cs' _ h2 (fun n hn => hsz n (by
        show n ∈ DataW.weights P t (.slice _ _)
        unfold DataW.weights
        rw [ht]
        exact List.mem_cons_of_mem _ (List.mem_append_left _ (weightsAll_mem _ (D i) (List.mem_map.2 ⟨i, by simpa using hi, rfl⟩) hn)))) (fun z hz => hlt z (by
        simp only [List.mem_append, List.mem_flatMap]
        exact Or.inr ⟨i, by simp; omega, hz⟩))
      exact ⟨y, h1, hq⟩
    obtain ⟨F, hF⟩ := choose_lt key
    refine ⟨some a, (List.range len).map F, m, by simp, ⟨by simpa using hl, by simpa [maxLen] using hm, by simpa using hlen, (fun h => by cases h), fun hne => ?_⟩, ?_⟩
    · have h0 : 0 < len := by
        rcases Nat.eq_zero_or_pos len with h0 | h0
        · subst h0; exact absurd rfl hne
        · exact h0
      obtain ⟨b, off, spot⟩ := a
      have hspot : spot = none := by
        have h1 := (hF 0 h0).1
        obtain ⟨_, hlen, hc⟩ := World.cells?_some h1
        have hc0 := hc 0 (by omega)
        rw [List.getElem?_eq_getElem (by omega)] at hc0
        have := World.cell?_spot hc0
        simpa [Addr.add] using this
      subst hspot
      refine ⟨b, off, rfl, ?_, ?_⟩
      · exact hlt (.cell b off) (by
          simp only [List.mem_append]
          exact Or.inl (MemPlace.mem_row.2 ⟨0, Nat.mul_pos (by omega) (by rw [hce]; exact hs), by simp⟩))
      · intro k hk j u hu
        have hk' : k < len := by simpa using hk
        obtain ⟨_, hlen, hc⟩ := World.cells?_some (hF k hk').1
        simp only [List.getElem_map, List.getElem_range] at hu
        have hj : j < s := by
          rcases Nat.lt_or_ge j s with h' | h'
          · exact h'
          · rw [List.getElem?_eq_none (by omega)] at hu; cases hu
        have := hc j hj
        rw [hu] at this
        rw [← this, add_add]
        unfold Addr.add
        split
        · rename_i hz
          have : k * s = 0 ∧ j = 0 := by omega
          simp [this.1, this.2]
        · simp [Nat.add_assoc]
    · intro y hy
      obtain ⟨i, hi, rfl⟩ := List.mem_map.1 hy
      exact (hF i (by simpa using hi)).2

end
end Go.Proofs.YtmlhipckgmbpfaaGreat
