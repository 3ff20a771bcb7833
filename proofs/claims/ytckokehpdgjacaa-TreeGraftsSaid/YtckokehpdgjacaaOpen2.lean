/-
  Nodes opened whole: with their classes and their attributes.
-/
import Derived.Test.YtckokehpdgjacaaOpen
import Derived.Test.YtckokehpdgjacaaTree6
namespace Go.Proofs.Ytckokehpdgjacaa
open Go.RowKit Go.ChangeShapes Go.WideShapes Go.ChangeAt Go.Deep
set_option linter.unusedVariables false

instance : Inhabited AttrV := ⟨⟨⟨#[]⟩, ⟨#[]⟩⟩⟩
instance : Inhabited ByteArray := ⟨⟨#[]⟩⟩

section
variable {H : Type} {enc : TypeId × Value → H} {W : World}

theorem weightsAll_mem {P : Program} {e : TypeId} {n : Nat} : ∀ (l : List (DataW H)) (d : DataW H), d ∈ l → n ∈ d.weights P e → n ∈ DataW.weightsAll P e l
  | d' :: r, d, hd, hn => by
    unfold DataW.weightsAll
    rcases List.mem_cons.1 hd with rfl | hd
    · exact List.mem_append_left _ hn
    · exact List.mem_append_right _ (weightsAll_mem r d hd hn)

/-- does a value fit into memory? -/
def FitsD (P : Program) (t : TypeId) (d : DataW H) : Prop := ∀ n ∈ d.weights P t, n ≤ reachBytes

theorem rows_in {α : Type} [Inhabited α] {cells : α → List Value} {s : Nat} {t e : TypeId} {P : Program} {fuel : Nat} {c : Value} {x : DataW H × List MemPlace} (Q : α → Prop)
    (ht : P.underlying t = some (.slice e)) (hce : P.cellsOf e = s) (hs : 0 < s) (hbe : 8 ≤ P.bytesOf e) (hsz : FitsD P t x.1)
    (helem : ∀ n cs x, DataW.trod enc P W 0 (fun _ => true) true n e cs = some x → FitsD P e x.1 → (∀ z ∈ x.2, z.block < W.heap.size) → ∃ y : α, cs = cells y ∧ Q y)
    (h : DataW.trod enc P W 0 (fun _ => true) true fuel t [c] = some x) (hlt : ∀ z ∈ x.2, z.block < W.heap.size) :
    ∃ (a : Option Addr) (xs : List α) (cap : Nat), c = .slice a xs.length cap ∧ Rows cells s W a cap xs ∧ ∀ y ∈ xs, Q y := by
  rcases open_slice ht h with ⟨hc, _⟩ | ⟨a, len, cap, m, n, D, Pl, hc, hb, hl, hm, hmm, hx, hel⟩
  · simp at hc
    subst hc
    exact ⟨none, [], 0, rfl, ⟨by simp, by simp, by simp, fun _ => rfl, fun h => absurd rfl h⟩, by simp⟩
  · simp at hc
    subst hc
    simp only [if_true] at hmm
    subst hmm
    subst hx
    have hlen : len ≤ 17592186044416 := by
      have := hsz ((((List.range len).map D).length + ((List.range (m - len)).map fun j => D (len + j)).length) * P.bytesOf e) (by simp [DataW.weights, ht])
      simp at this
      have h3 : len * 8 ≤ (len + (m - len)) * P.bytesOf e := Nat.mul_le_mul (by omega) hbe
      have h4 : reachBytes = 140737488351232 := by decide
      omega
    have key : ∀ i, i < len → ∃ y : α, W.cells? 0 (a.add (i * s)) s = some (cells y) ∧ Q y := by
      intro i hi
      obtain ⟨cs', h1, h2⟩ := hel i (by omega)
      rw [hce] at h1
      obtain ⟨y, rfl, hq⟩ := helem n cs' _ h2 (fun n hn => hsz n (by
        show n ∈ DataW.weights P t (.slice _ _)
        unfold DataW.weights
        rw [ht]
        exact List.mem_cons_of_mem _ (List.mem_append_left _ (weightsAll_mem _ (D i) (List.mem_map.2 ⟨i, by simpa using hi, rfl⟩) hn)))) (fun z hz => hlt z (by
        simp only [List.mem_append, List.mem_flatMap]
        exact Or.inr ⟨i, by simp; omega, hz⟩))
      exact ⟨y, h1, hq⟩
    obtain ⟨F, hF⟩ := choose_lt key
    refine ⟨some a, (List.range len).map F, m, by simp, ⟨by simpa using hl, by simpa [maxLen] using hm, by simpa using hlen, (fun h => by cases h), fun hne => ?_⟩, ?_⟩
    · have h0 : 0 < len := by
        rcases Nat.eq_zero_or_pos len with h0 | h0
        · subst h0; exact absurd rfl hne
        · exact h0
      obtain ⟨b, off, spot⟩ := a
      have hspot : spot = none := by
        have h1 := (hF 0 h0).1
        obtain ⟨_, hlen, hc⟩ := World.cells?_some h1
        have hc0 := hc 0 (by omega)
        rw [List.getElem?_eq_getElem (by omega)] at hc0
        have := World.cell?_spot hc0
        simpa [Addr.add] using this
      subst hspot
      refine ⟨b, off, rfl, ?_, ?_⟩
      · exact hlt (.cell b off) (by
          simp only [List.mem_append]
          exact Or.inl (MemPlace.mem_row.2 ⟨0, Nat.mul_pos (by omega) (by rw [hce]; exact hs), by simp⟩))
      · intro k hk j u hu
        have hk' : k < len := by simpa using hk
        obtain ⟨_, hlen, hc⟩ := World.cells?_some (hF k hk').1
        simp only [List.getElem_map, List.getElem_range] at hu
        have hj : j < s := by
          rcases Nat.lt_or_ge j s with h' | h'
          · exact h'
          · rw [List.getElem?_eq_none (by omega)] at hu; cases hu
        have := hc j hj
        rw [hu] at this
        rw [← this, add_add]
        unfold Addr.add
        split
        · rename_i hz
          have : k * s = 0 ∧ j = 0 := by omega
          simp [this.1, this.2]
        · simp [Nat.add_assoc]
    · intro y hy
      obtain ⟨i, hi, rfl⟩ := List.mem_map.1 hy
      exact (hF i (by simpa using hi)).2

theorem cAttr_ : Try.prog.cellsOf 92 = 2 := by kernel_rfl
theorem bStr_ : Try.prog.bytesOf 9 = 16 := by kernel_rfl
theorem bAttr_ : Try.prog.bytesOf 92 = 32 := by kernel_rfl

theorem elem_str {n : Nat} {cs : List Value} {x : DataW H × List MemPlace} (h : DataW.trod enc Try.prog W 0 (fun _ => true) true n 9 cs = some x) :
    ∃ y : ByteArray, cs = cStr y ∧ y.size ≤ maxLen := by
  obtain ⟨s, e, _, w⟩ := DataW.trod_string Try.underlying9 h
  exact ⟨s, e, w⟩

theorem elem_attr {n : Nat} {cs : List Value} {x : DataW H × List MemPlace} (h : DataW.trod enc Try.prog W 0 (fun _ => true) true n 92 cs = some x) :
    ∃ y : AttrV, cs = y.cells ∧ y.name.size ≤ maxLen ∧ y.value.size ≤ maxLen := by
  obtain ⟨xs, m, _, hx, hl, hlen, hf⟩ := DataW.trod_struct Try.underlying92 h
  rw [cAttr_] at hl
  match cs, hl with
  | [c0, c1], _ =>
    have hlen2 : xs.length = 2 := hlen
    match xs, hlen2 with
    | [x0, x1], _ =>
      have f0 : DataW.trod enc Try.prog W 0 (fun _ => true) true m 9 (List.take (Try.prog.cellsOf 9) (List.drop 0 [c0, c1])) = some x0 := hf 0 _ rfl
      rw [cStr_] at f0
      have f1 : DataW.trod enc Try.prog W 0 (fun _ => true) true m 9 (List.take (Try.prog.cellsOf 9) (List.drop 1 [c0, c1])) = some x1 := hf 1 _ rfl
      rw [cStr_] at f1
      obtain ⟨n0, e0, _, w0⟩ := DataW.trod_string Try.underlying9 f0
      obtain ⟨n1, e1, _, w1⟩ := DataW.trod_string Try.underlying9 f1
      simp at e0 e1
      exact ⟨⟨n0, n1⟩, by rw [e0, e1]; rfl, w0, w1⟩

theorem elem_nodeX {n : Nat} {cs : List Value} {x : DataW H × List MemPlace} (h : DataW.trod enc Try.prog W 0 (fun _ => true) true n 54 cs = some x) (hsz : FitsD Try.prog 54 x.1) (hz : ∀ z ∈ x.2, z.block < W.heap.size) :
    ∃ y : NodeV, cs = y.cells ∧ ∃ C A, NodeX W y C A := by
  obtain ⟨xs, m, _, hx, hl, hlen, hf⟩ := DataW.trod_struct Try.underlying54 h
  rw [cNode_] at hl
  match cs, hl with
  | [c0, c1, c2, c3, c4, c5], _ =>
    have hlen6 : xs.length = 6 := hlen
    match xs, hlen6 with
    | [x0, x1, x2, x3, x4, x5], _ =>
      have f0 : DataW.trod enc Try.prog W 0 (fun _ => true) true m 3 (List.take (Try.prog.cellsOf 3) (List.drop 0 [c0, c1, c2, c3, c4, c5])) = some x0 := hf 0 _ rfl
      rw [cInt_] at f0
      have f1 : DataW.trod enc Try.prog W 0 (fun _ => true) true m 9 (List.take (Try.prog.cellsOf 9) (List.drop 1 [c0, c1, c2, c3, c4, c5])) = some x1 := hf 1 _ rfl
      rw [cStr_] at f1
      have f2 : DataW.trod enc Try.prog W 0 (fun _ => true) true m 9 (List.take (Try.prog.cellsOf 9) (List.drop 2 [c0, c1, c2, c3, c4, c5])) = some x2 := hf 2 _ rfl
      rw [cStr_] at f2
      have f3 : DataW.trod enc Try.prog W 0 (fun _ => true) true m 51 (List.take (Try.prog.cellsOf 51) (List.drop 3 [c0, c1, c2, c3, c4, c5])) = some x3 := hf 3 _ rfl
      rw [cStrs_] at f3
      have f4 : DataW.trod enc Try.prog W 0 (fun _ => true) true m 52 (List.take (Try.prog.cellsOf 52) (List.drop 4 [c0, c1, c2, c3, c4, c5])) = some x4 := hf 4 _ rfl
      rw [cAttrs_] at f4
      have f5 : DataW.trod enc Try.prog W 0 (fun _ => true) true m 9 (List.take (Try.prog.cellsOf 9) (List.drop 5 [c0, c1, c2, c3, c4, c5])) = some x5 := hf 5 _ rfl
      rw [cStr_] at f5
      obtain ⟨n0, e0, _, w0⟩ := DataW.trod_int Try.underlying3 f0
      obtain ⟨n1, e1, _, w1⟩ := DataW.trod_string Try.underlying9 f1
      obtain ⟨n2, e2, _, w2⟩ := DataW.trod_string Try.underlying9 f2
      obtain ⟨n5, e5, _, w5⟩ := DataW.trod_string Try.underlying9 f5
      simp at e0 e1 e2 e5
      subst hx
      have hz3 : ∀ z ∈ x3.2, z.block < W.heap.size := fun z h => hz z (by simp [h])
      have hz4 : ∀ z ∈ x4.2, z.block < W.heap.size := fun z h => hz z (by simp [h])
      have hs3 : FitsD Try.prog 51 x3.1 := fun n hn => hsz n (by
        show n ∈ DataW.weights Try.prog 54 (.agg _)
        unfold DataW.weights
        rw [Try.underlying54]
        exact DataW.weights_mem_each (j := 3) (t := 51) (d := x3.1) rfl rfl n hn)
      have hs4 : FitsD Try.prog 52 x4.1 := fun n hn => hsz n (by
        show n ∈ DataW.weights Try.prog 54 (.agg _)
        unfold DataW.weights
        rw [Try.underlying54]
        exact DataW.weights_mem_each (j := 4) (t := 52) (d := x4.1) rfl rfl n hn)
      have f3' : DataW.trod enc Try.prog W 0 (fun _ => true) true m 51 [c3] = some x3 := f3
      have f4' : DataW.trod enc Try.prog W 0 (fun _ => true) true m 52 [c4] = some x4 := f4
      obtain ⟨a3, C, cap3, E3, R3, Q3⟩ := rows_in (cells := cStr) (fun y : ByteArray => y.size ≤ maxLen) Try.underlying51 cStr_ (by omega) (by rw [bStr_]; omega) hs3 (fun n cs x hx _ _ => elem_str hx) f3' hz3
      obtain ⟨a4, A, cap4, E4, R4, Q4⟩ := rows_in (cells := AttrV.cells) (fun y : AttrV => y.name.size ≤ maxLen ∧ y.value.size ≤ maxLen) Try.underlying52 cAttr_ (by omega) (by rw [bAttr_]; omega) hs4 (fun n cs x hx _ _ => elem_attr hx) f4' hz4
      exact ⟨⟨n0, n1, n2, c3, c4, n5⟩, by rw [e0, e1, e2, e5]; rfl, C, A, w1, w2, w5, ⟨a3, cap3, E3, R3⟩, ⟨a4, cap4, E4, R4⟩, Q3, Q4⟩

theorem open_nodesX {r : Reach} {b : Nat} {v : Value} {d : DataW H} {p : List MemPlace} (hv : Value.okWide Try.prog W r b 22 v) (h : DataW.Trod enc Try.prog W 0 (fun _ => true) true 22 v d p) (hlt : ∀ x ∈ p, x.block < W.heap.size) (hsz : FitsD Try.prog 22 d) :
    ∃ (a : Option Addr) (cap : Nat) (l : List NodeV) (C : Nat → List ByteArray) (A : Nat → List AttrV), v = .slice a l.length cap ∧ RNodes W a cap l ∧ NodesX W l C A := by
  obtain ⟨fuel, hf⟩ := h
  obtain ⟨a0, len, cap0, rfl⟩ := okWide_slice Try.underlying22 hv
  have hv1 : (Value.slice a0 len cap0).cells.toList = [.slice a0 len cap0] := rfl
  rw [hv1] at hf
  obtain ⟨a, l, cap, E, R, Q⟩ := rows_in (cells := NodeV.cells) (fun y : NodeV => ∃ C A, NodeX W y C A) Try.underlying22 cNode_ (by omega) (by rw [bNode_]; omega) hsz (fun n cs x hx hs hz => elem_nodeX hx hs hz) hf hlt
  have key : ∀ i, i < l.length → ∃ x : List ByteArray × List AttrV, ∀ h : i < l.length, NodeX W l[i] x.1 x.2 := fun i hi => by
    obtain ⟨C, A, h⟩ := Q l[i] (List.getElem_mem hi)
    exact ⟨(C, A), fun _ => h⟩
  obtain ⟨F, hF⟩ := choose_lt key
  exact ⟨a, cap, l, fun k => (F k).1, fun k => (F k).2, E, R, ⟨fun k hk => hF k hk hk⟩⟩
end

end Go.Proofs.Ytckokehpdgjacaa
