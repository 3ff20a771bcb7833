/-
  Loops that search: they end at the first that fits.
-/
import Derived.Test.YtmlhipckgmbpfaaGreatSyUse
import Derived.Test.YtmlhipckgmbpfaaGreatNamePlain
namespace Go.Proofs.YtmlhipckgmbpfaaGreat
open Go Go.RowKit Pl Sy
set_option linter.unusedVariables false
set_option linter.unusedSimpArgs false

theorem getD_at {α : Type} (pre l : List α) (x z : α) (i : Int) (hi : i = pre.length) : (pre ++ x :: l).getD i.toNat z = x := by
  subst hi
  simp
/-- a search: a loop that ends at the first that fits -/
theorem Sy.scan {α : Type} {P : Program} {body : Code} (xs : List α) (g : α → Bool) (d : α) (F E : Int → Fr) (M : Mem)
    (step : ∀ (k : Int) (n : Nat) (G : Ex → Fr → Mem → Prop), 0 ≤ k → k ≤ xs.length → (k < xs.length → g (xs.getD k.toNat d) = false → LoopTo P body n (F (k + 1)) M G) → (k < xs.length → g (xs.getD k.toNat d) = true → G .ret (E k) M) → (k = xs.length → G (.exit 0) (F k) M) → LoopTo P body (n + 1) (F k) M G) :
    LoopTo P body (xs.length + 1) (F 0) M fun ex F' M' => M' = M ∧ ((0 ≤ idxF g xs 0 ∧ ex = .ret ∧ F' = E (idxF g xs 0)) ∨ (idxF g xs 0 = -1 ∧ ex = .exit 0 ∧ F' = F xs.length)) := by
  have key : ∀ (l pre : List α) (k : Int), xs = pre ++ l → k = pre.length → LoopTo P body (l.length + 1) (F k) M fun ex F' M' => M' = M ∧ ((0 ≤ idxF g l pre.length ∧ ex = .ret ∧ F' = E (idxF g l pre.length)) ∨ (idxF g l pre.length = -1 ∧ ex = .exit 0 ∧ F' = F xs.length)) := by
    intro l
    induction l with
    | nil =>
      intro pre k h hk
      have hl : xs.length = pre.length := by rw [h]; simp
      refine step k _ _ (by omega) (by omega) (fun h1 _ => by omega) (fun h1 _ => by omega) (fun h1 => ⟨rfl, .inr ⟨rfl, rfl, by rw [h1]⟩⟩)
    | cons x l ih =>
      intro pre k h hk
      have hl : xs.length = pre.length + l.length + 1 := by rw [h]; simp; omega
      have hg : xs.getD k.toNat d = x := by rw [h]; exact getD_at _ _ _ _ _ hk
      refine step k _ _ (by omega) (by omega) (fun h1 h2 => ?_) (fun h1 h2 => ⟨rfl, .inl ?_⟩) (fun h1 => by omega)
      · rw [hg] at h2
        have e : idxF g (x :: l) pre.length = idxF g l (pre ++ [x]).length := by
          show (if g x then _ else _) = _
          rw [if_neg (by rw [h2]; simp)]
          simp
        rw [e]
        exact ih (pre ++ [x]) (k + 1) (by rw [h]; simp) (by simp; omega)
      · rw [hg] at h2
        have e : idxF g (x :: l) pre.length = (pre.length : Int) := by
          show (if g x then _ else _) = _
          rw [if_pos h2]
        rw [e, hk]
        exact ⟨by omega, rfl, rfl⟩
  exact key xs [] 0 rfl rfl
/-- the first place below n that fits; -1: none -/
def idxN (g : Nat → Bool) (n : Nat) : Int := idxF g (List.range n) 0
def anyN (g : Nat → Bool) (n : Nat) : Bool := (List.range n).any g
theorem anyN_idx (g : Nat → Bool) (n : Nat) : leI 0 (idxN g n) = anyN g n := by rw [leI_eq]; exact idxF_any g _ 0
theorem idxF_lt {α : Type} (g : α → Bool) : ∀ (xs : List α) (n : Nat), idxF g xs n < n + xs.length
  | [], n => by show (-1 : Int) < _; simp; omega
  | x :: xs, n => by
    show (if g x then _ else _) < _
    have := idxF_lt g xs (n + 1)
    simp only [List.length_cons]
    split <;> omega
theorem Sy.scanN {P : Program} {body : Code} (m : Nat) (g : Nat → Bool) (F E : Int → Fr) (M : Mem)
    (step : ∀ (k : Int) (n : Nat) (G : Ex → Fr → Mem → Prop), 0 ≤ k → k ≤ m → (k < m → g k.toNat = false → LoopTo P body n (F (k + 1)) M G) → (k < m → g k.toNat = true → G .ret (E k) M) → (k = m → G (.exit 0) (F k) M) → LoopTo P body (n + 1) (F k) M G) :
    LoopTo P body (m + 1) (F 0) M fun ex F' M' => M' = M ∧ ((0 ≤ idxN g m ∧ ex = .ret ∧ F' = E (idxN g m)) ∨ (idxN g m = -1 ∧ ex = .exit 0 ∧ F' = F m)) := by
  have h := scan (P := P) (body := body) (List.range m) g 0 F E M fun k n G h0 h1 c1 c2 c3 => by
    simp only [List.length_range] at h1 c1 c2 c3
    have e : k < m → (List.range m).getD k.toNat 0 = k.toNat := fun h => by
      rw [List.getD_eq_getElem?_getD, List.getElem?_eq_getElem (by simp; omega)]
      simp
    exact step k n G h0 h1 (fun a b => c1 a (by rw [e a]; exact b)) (fun a b => c2 a (by rw [e a]; exact b)) c3
  simp only [List.length_range] at h
  exact h
theorem getD_mem {α : Type} (xs : List α) (k : Int) (d : α) (h0 : 0 ≤ k) (h1 : k < xs.length) : xs.getD k.toNat d ∈ xs := by
  rw [List.getD_eq_getElem?_getD, List.getElem?_eq_getElem (by omega)]
  exact List.getElem_mem _
end Go.Proofs.YtmlhipckgmbpfaaGreat
