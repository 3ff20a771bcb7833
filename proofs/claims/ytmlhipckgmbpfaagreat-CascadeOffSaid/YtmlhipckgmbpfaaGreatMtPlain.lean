/-
  Which elements selectors pick: plain laws.
-/
import Derived.Test.YtmlhipckgmbpfaaGreatOpenP
import Derived.Test.YtmlhipckgmbpfaaGreatTreePlain
namespace Go.Proofs.YtmlhipckgmbpfaaGreat
namespace Pl
set_option linter.unusedVariables false

/-- do parts, the last one first, pick a node? -/
def picksR (part : Nat → PartV → Bool) (ar : Nat → Int → List Nat) : List PartV → Nat → Bool
  | [], _ => false
  | [p], i => part i p
  | p :: q :: r, i => part i p && (ar i p.comb).any (picksR part ar (q :: r))

theorem picksR_cons (part : Nat → PartV → Bool) (ar : Nat → Int → List Nat) (p : PartV) (r : List PartV) (i : Nat) :
    picksR part ar (p :: r) i = (part i p && (r.isEmpty || (ar i p.comb).any (picksR part ar r))) := by
  cases r with
  | nil => simp [picksR]
  | cons q r => simp [picksR]

/-- with one more part ahead no more is picked -/
theorem picksR_longer (part : Nat → PartV → Bool) (ar : Nat → Int → List Nat) (x : PartV) : ∀ (l : List PartV) (i : Nat), l ≠ [] → picksR part ar (l ++ [x]) i = true → picksR part ar l i = true
  | [], i, h, _ => absurd rfl h
  | [p], i, _, h => by
    simp only [List.cons_append, List.nil_append, picksR, Bool.and_eq_true] at h ⊢
    exact h.1
  | p :: q :: r, i, _, h => by
    simp only [List.cons_append, picksR, Bool.and_eq_true, List.any_eq_true] at h ⊢
    obtain ⟨h1, k, hk, h2⟩ := h
    exact ⟨h1, k, hk, picksR_longer part ar x (q :: r) k (by simp) (by simpa using h2)⟩
/-- a last part that fits less picks no more -/
theorem picksR_narrower (part : Nat → PartV → Bool) (ar : Nat → Int → List Nat) (x y : PartV) (hc : x.comb = y.comb) (hp : ∀ i, part i x = true → part i y = true) (l : List PartV) (i : Nat) (h : picksR part ar (x :: l) i = true) : picksR part ar (y :: l) i = true := by
  rw [picksR_cons] at h ⊢
  simp only [Bool.and_eq_true] at h ⊢
  exact ⟨hp i h.1, by rw [← hc]; exact h.2⟩
/-- a combinator that looks at more picks more -/
theorem picksR_wider (part : Nat → PartV → Bool) (ar : Nat → Int → List Nat) (x y : PartV) (hp : ∀ i, part i x = part i y) (ha : ∀ i k, k ∈ ar i x.comb → k ∈ ar i y.comb) (r : List PartV) : ∀ (l : List PartV) (i : Nat), picksR part ar (l ++ x :: r) i = true → picksR part ar (l ++ y :: r) i = true
  | [], i, h => by
    simp only [List.nil_append] at h ⊢
    rw [picksR_cons] at h ⊢
    simp only [Bool.and_eq_true, Bool.or_eq_true, List.any_eq_true] at h ⊢
    refine ⟨by rw [← hp]; exact h.1, ?_⟩
    rcases h.2 with h2 | ⟨k, hk, h2⟩
    · exact .inl h2
    · exact .inr ⟨k, ha i k hk, h2⟩
  | p :: l, i, h => by
    simp only [List.cons_append] at h ⊢
    rw [picksR_cons] at h ⊢
    simp only [Bool.and_eq_true, Bool.or_eq_true, List.any_eq_true] at h ⊢
    refine ⟨h.1, ?_⟩
    rcases h.2 with h2 | ⟨k, hk, h2⟩
    · exact .inl (by simp at h2)
    · exact .inr ⟨k, hk, picksR_wider part ar x y hp ha r l k h2⟩

/-- the siblings ahead, below a place, the nearest first: of the parent q -/
def aheadF (p : Nat → Int) (t : Nat → Bool) (q : Int) : Nat → List Nat
  | 0 => []
  | k + 1 => if q < (k : Int) then (if t k = true ∧ up p k = q then k :: aheadF p t q k else aheadF p t q k) else []
def aheadV (p : Nat → Int) (t : Nat → Bool) (i : Nat) : List Nat := if 0 ≤ up p i then aheadF p t (up p i) i else []
def parentV (p : Nat → Int) (i : Nat) : List Nat := if 0 ≤ up p i then [(up p i).toNat] else []
/-- what a combinator looks at -/
def aroundV (p : Nat → Int) (t : Nat → Bool) (i : Nat) (c : Int) : List Nat :=
  if c = 1 then ups p i else if c = 2 then parentV p i else if c = 3 then (aheadV p t i).take 1 else if c = 4 then aheadV p t i else []
theorem aheadF_lt (p : Nat → Int) (t : Nat → Bool) (q : Int) : ∀ (m k : Nat), k ∈ aheadF p t q m → k < m
  | 0, k, h => by simp [aheadF] at h
  | m + 1, k, h => by
    simp only [aheadF] at h
    split at h
    · split at h
      · simp only [List.mem_cons] at h
        rcases h with rfl | h
        · omega
        · have := aheadF_lt p t q m k h; omega
      · have := aheadF_lt p t q m k h; omega
    · simp at h
theorem upsF_lt (p : Nat → Int) : ∀ (f i k : Nat), k ∈ upsF p f i → k < i
  | 0, i, k, h => by simp [upsF] at h
  | f + 1, i, k, h => by
    have hu := up_lt p i
    simp only [upsF] at h
    split at h
    · simp only [List.mem_cons] at h
      rcases h with rfl | h
      · omega
      · have := upsF_lt p f _ k h; omega
    · simp at h
theorem aroundV_lt (p : Nat → Int) (t : Nat → Bool) (i : Nat) (c : Int) : ∀ k, k ∈ aroundV p t i c → k < i := by
  intro k h
  have hu := up_lt p i
  unfold aroundV at h
  split at h
  · exact upsF_lt p _ _ _ h
  · split at h
    · unfold parentV at h
      split at h
      · simp at h; omega
      · simp at h
    · split at h
      · have h1 := List.mem_of_mem_take h
        unfold aheadV at h1
        split at h1
        · exact aheadF_lt p t _ _ _ h1
        · simp at h1
      · split at h
        · unfold aheadV at h
          split at h
          · exact aheadF_lt p t _ _ _ h
          · simp at h
        · simp at h
theorem around_child (p : Nat → Int) (t : Nat → Bool) (i k : Nat) (h : k ∈ aroundV p t i 2) : k ∈ aroundV p t i 1 := by
  simp only [aroundV, if_true, show ¬ ((2 : Int) = 1) by omega, if_false] at h ⊢
  unfold parentV at h
  split at h
  · rename_i h0
    have hl := up_lt p i
    simp at h
    subst h
    unfold ups
    match i, h0, hl with
    | 0, h0, hl => simp at hl; omega
    | i + 1, h0, hl => rw [upsF, if_pos h0]; simp
  · simp at h
theorem around_next (p : Nat → Int) (t : Nat → Bool) (i k : Nat) (h : k ∈ aroundV p t i 3) : k ∈ aroundV p t i 4 := by
  simp only [aroundV, if_true, show ¬ ((3 : Int) = 1) by omega, show ¬ ((3 : Int) = 2) by omega, show ¬ ((4 : Int) = 1) by omega, show ¬ ((4 : Int) = 2) by omega, show ¬ ((4 : Int) = 3) by omega, if_false] at h ⊢
  exact List.mem_of_mem_take h
end Pl
end Go.Proofs.YtmlhipckgmbpfaaGreat
