/-
  Pieces of tokens behind a semicolon, in plain Lean.
-/
import Derived.Test.YtjljlcflmcjapaaDeclRef1
namespace Go.Proofs.Ytjljlcflmcjapaa
open Go Go.RowKit Pl
set_option linter.unusedVariables false
set_option linter.unusedSimpArgs false

/-- what is closed ahead of the end is closed there with more behind -/
theorem runs_app (K K' : List Int) : ∀ (m k : Nat) (st : List Int), K.length - k ≤ m → runs K k st < K.length → runs (K ++ K') k st = runs K k st := by
  intro m
  induction m with
  | zero => intro k st h1 h2; rw [runs_end st (by omega)] at h2; omega
  | succ m ih =>
    intro k st h1 h2
    by_cases hk : k < K.length
    · have hk' : k < (K ++ K').length := by rw [List.length_append]; omega
      have hg : (K ++ K')[k] = K[k] := List.getElem_append_left hk
      rw [runs_step st hk] at h2 ⊢
      rw [runs_step st hk', hg]
      by_cases hc : clo K[k] ≠ 0
      · rw [if_pos hc] at h2 ⊢
        rw [if_pos hc]
        exact ih (k + 1) _ (by omega) h2
      · rw [if_neg hc] at h2 ⊢
        rw [if_neg hc]
        cases st with
        | nil => simp only at h2 ⊢; exact ih (k + 1) _ (by omega) h2
        | cons c r =>
          simp only at h2 ⊢
          by_cases he : K[k] = c
          · simp only [he, if_true] at h2 ⊢
            cases r with
            | nil => rfl
            | cons x y => simp only at h2 ⊢; exact ih (k + 1) _ (by omega) h2
          · simp only [he, if_false] at h2 ⊢
            exact ih (k + 1) _ (by omega) h2
    · rw [runs_end st (by omega)] at h2; omega
theorem runs_drop (K : List Int) (n : Nat) (hn : n ≤ K.length) : ∀ (m k : Nat) (st : List Int), K.length - k ≤ m → runs (K.drop n) k st + n = runs K (n + k) st := by
  have hlen : (K.drop n).length = K.length - n := List.length_drop
  intro m
  induction m with
  | zero => intro k st h1; rw [runs_end st (by omega), runs_end st (by omega), hlen]; omega
  | succ m ih =>
    intro k st h1
    by_cases hk : n + k < K.length
    · have hk' : k < (K.drop n).length := by omega
      have hg : (K.drop n)[k] = K[n + k] := List.getElem_drop
      rw [runs_step st hk, runs_step st hk', hg]
      rw [show n + k + 1 = n + (k + 1) by omega]
      by_cases hc : clo K[n + k] ≠ 0
      · rw [if_pos hc, if_pos hc]
        exact ih (k + 1) _ (by omega)
      · rw [if_neg hc, if_neg hc]
        cases st with
        | nil => simp only; exact ih (k + 1) _ (by omega)
        | cons c r =>
          simp only
          by_cases he : K[n + k] = c
          · simp only [he, if_true]
            cases r with
            | nil => simp only; omega
            | cons x y => simp only; exact ih (k + 1) _ (by omega)
          · simp only [he, if_false]
            exact ih (k + 1) _ (by omega)
    · rw [runs_end st (by omega), runs_end st (by omega), hlen]; omega
theorem mt_eq {l : List TokV} {k : Nat} (h : k < l.length) : mt l k = if clo (tokAt l k).kind = 0 then k else runs (kindsT l) (k + 1) [clo (tokAt l k).kind] := by
  rw [tokAt_eq h]
  unfold mt
  by_cases h0 : clo l[k].kind = 0
  · rw [mt_none h h0, if_pos h0]; simp
  · rw [mt_some h h0, if_neg h0]; simp
theorem tokAt_app {a b : List TokV} {k : Nat} (h : k < a.length) : tokAt (a ++ b) k = tokAt a k := by
  rw [tokAt_eq (by rw [List.length_append]; omega), tokAt_eq h, List.getElem_append_left h]
theorem kindsT_app (a b : List TokV) : kindsT (a ++ b) = kindsT a ++ kindsT b := by simp [kindsT]
theorem kindsT_drop (a : List TokV) (n : Nat) : kindsT (a.drop n) = (kindsT a).drop n := by simp [kindsT]
theorem mt_app {a b : List TokV} {k : Nat} (h : k < a.length) (hm : mt a k < a.length) : mt (a ++ b) k = mt a k := by
  have h' : k < (a ++ b).length := by rw [List.length_append]; omega
  rw [mt_eq h] at hm ⊢
  rw [mt_eq h', tokAt_app h]
  split
  · rfl
  · rename_i h0
    rw [if_neg h0] at hm
    rw [kindsT_app]
    exact runs_app _ _ _ _ _ (Nat.le_refl _) (by rw [kindsT_len]; exact hm)
theorem mt_drop {a : List TokV} {n k : Nat} (h : n + k < a.length) : mt (a.drop n) k + n = mt a (n + k) := by
  have h' : k < (a.drop n).length := by rw [List.length_drop]; omega
  rw [mt_eq h, mt_eq h', tokAt_drop]
  split
  · omega
  · rw [kindsT_drop]
    exact runs_drop _ n (by rw [kindsT_len]; omega) _ (k + 1) _ (Nat.le_refl _)
/-- from a place on: has each opening at the top something that closes it? -/
def closedF (l : List TokV) (k : Nat) : Nat := Sy.hops (fun j => decide (mt l j = l.length)) (fun j => mt l j + 1) l.length k
theorem closedF_step {l : List TokV} {k : Nat} (h : k < l.length) (hc : l.length ≤ closedF l k) : mt l k < l.length ∧ l.length ≤ closedF l (mt l k + 1) := by
  unfold closedF at hc ⊢
  rw [Sy.hops_step (mt_gt l)] at hc
  have hm := mt_le h
  split at hc
  · rename_i h1
    have h2 := h1.2
    rw [decide_eq_false_iff_not] at h2
    exact ⟨by omega, hc⟩
  · omega
theorem tops_app {a b : List TokV} (s : TokV) (hs : semiB s = true) : ∀ (m i : Nat), a.length - i ≤ m → i ≤ a.length → a.length ≤ closedF a i → tops semiB (a ++ s :: b) i = tops semiB a i := by
  have hlen : (a ++ s :: b).length = a.length + 1 + b.length := by rw [List.length_append, List.length_cons]; omega
  have hat : tokAt (a ++ s :: b) a.length = s := by
    rw [tokAt_eq (by omega), List.getElem_append_right (Nat.le_refl _)]; simp
  intro m
  induction m with
  | zero =>
    intro i h1 h2 h3
    have : i = a.length := by omega
    subst this
    rw [tops_step semiB (a ++ s :: b) a.length, tops_step semiB a a.length, hat, hs, if_neg (by simp), if_neg (by omega)]
  | succ m ih =>
    intro i h1 h2 h3
    by_cases hi : i < a.length
    · obtain ⟨h4, h5⟩ := closedF_step hi h3
      have hm := mt_le hi
      rw [tops_step semiB (a ++ s :: b), tops_step semiB a, tokAt_app hi]
      by_cases hp : semiB (tokAt a i) = false
      · rw [if_pos ⟨by omega, hp⟩, if_pos ⟨hi, hp⟩]
        have e1 : nxt (a ++ s :: b) i = mt a i + 1 := by unfold nxt; rw [mt_app hi h4]; omega
        have e2 : nxt a i = mt a i + 1 := by unfold nxt; omega
        rw [e1, e2]
        exact ih (mt a i + 1) (by omega) (by omega) h5
      · rw [if_neg (fun h => hp h.2), if_neg (fun h => hp h.2)]
    · have : i = a.length := by omega
      subst this
      rw [tops_step semiB (a ++ s :: b) a.length, tops_step semiB a a.length, hat, hs, if_neg (by simp), if_neg (by omega)]
/-- at the top all is closed from there on, too -/
theorem closed_tops {a : List TokV} (p : TokV → Bool) : ∀ (m i : Nat), a.length - i ≤ m → i ≤ a.length → a.length ≤ closedF a i → a.length ≤ closedF a (tops p a i) := by
  intro m
  induction m with
  | zero =>
    intro i h1 h2 h3
    rw [tops_step, if_neg (by omega)]; exact h3
  | succ m ih =>
    intro i h1 h2 h3
    rw [tops_step]
    split
    · rename_i h
      obtain ⟨h4, h5⟩ := closedF_step h.1 h3
      have hm := mt_le h.1
      have e2 : nxt a i = mt a i + 1 := by unfold nxt; omega
      rw [e2]
      exact ih (mt a i + 1) (by omega) (by omega) h5
    · exact h3
theorem closed_drop {a : List TokV} (n : Nat) : ∀ (m k : Nat), a.length - (n + k) ≤ m → n + k ≤ a.length → a.length ≤ closedF a (n + k) → (a.drop n).length ≤ closedF (a.drop n) k := by
  have hlen : (a.drop n).length = a.length - n := List.length_drop
  intro m
  induction m with
  | zero =>
    intro k h1 h2 h3
    unfold closedF
    rw [Sy.hops_end _ _ (by omega)]; omega
  | succ m ih =>
    intro k h1 h2 h3
    by_cases hk : n + k < a.length
    · obtain ⟨h4, h5⟩ := closedF_step hk h3
      have hd := mt_drop hk
      have hm := mt_le hk
      unfold closedF
      rw [Sy.hops_step (mt_gt (a.drop n)), if_pos ⟨by omega, by rw [decide_eq_false_iff_not]; omega⟩]
      have := ih (mt (a.drop n) k + 1) (by omega) (by omega) (by rw [show n + (mt (a.drop n) k + 1) = mt a (n + k) + 1 by omega]; exact h5)
      exact this
    · unfold closedF
      rw [Sy.hops_end _ _ (by omega)]; omega
theorem semi_mt {l : List TokV} {k : Nat} (h : k < l.length) (hs : semiB (tokAt l k) = true) : mt l k = k := by
  rw [mt_eq h]
  unfold semiB at hs
  rw [Sy.eqI_t] at hs
  rw [hs, if_pos (by decide)]
theorem pieces_app (s : TokV) (hs : semiB s = true) (b : List TokV) : ∀ (m : Nat) (a : List TokV), a.length ≤ m → a.length ≤ closedF a 0 → pieces semiB (a ++ s :: b) = pieces semiB a ++ pieces semiB b := by
  intro m
  induction m with
  | zero =>
    intro a h1 h2
    have : a = [] := List.eq_nil_of_length_eq_zero (by omega)
    subst this
    have ht := tops_app (a := []) (b := b) s hs 0 0 (by simp) (by simp) (by simp)
    simp only [List.nil_append] at ht ⊢
    have t0 : tops semiB [] 0 = 0 := by rw [tops_step, if_neg (by simp)]
    rw [pieces_step semiB (s :: b), pieces_step semiB [], ht, t0, if_neg (by simp), if_pos (by simp)]
    simp
  | succ m ih =>
    intro a h1 h2
    have ht := tops_app (b := b) s hs _ 0 (Nat.le_refl _) (Nat.zero_le _) h2
    have hk := tops_le semiB a 0 (Nat.zero_le _)
    have hlen : (a ++ s :: b).length = a.length + 1 + b.length := by rw [List.length_append, List.length_cons]; omega
    rw [pieces_step semiB (a ++ s :: b), pieces_step semiB a, ht, if_neg (by omega)]
    by_cases he : tops semiB a 0 = a.length
    · have e1 : (a ++ s :: b).take a.length = a := List.take_left' rfl
      have e2 : (a ++ s :: b).drop (a.length + 1) = b := by
        rw [show a ++ s :: b = (a ++ [s]) ++ b by simp]
        exact List.drop_left' (by simp)
      rw [if_pos he, he, e1, e2, List.take_length]
      rfl
    · rw [if_neg he]
      have hlt : tops semiB a 0 < a.length := by omega
      have hc := closed_tops semiB _ 0 (Nat.le_refl _) (Nat.zero_le _) h2
      have hsm : semiB (tokAt a (tops semiB a 0)) = true := Sy.hops_at (nxt_gt a) _ 0 (Nat.le_refl _) hlt
      obtain ⟨h4, h5⟩ := closedF_step hlt hc
      rw [semi_mt hlt hsm] at h5
      generalize tops semiB a 0 = k at *
      have hcd := closed_drop (a := a) (k + 1) _ 0 (Nat.le_refl _) (by omega) h5
      have := ih (a.drop (k + 1)) (by rw [List.length_drop]; omega) hcd
      rw [List.take_append_of_le_length (by omega), List.drop_append_of_le_length (by omega), this]
      rfl
theorem declsT_app (s : TokV) (hs : semiB s = true) (a b : List TokV) (h : a.length ≤ closedF a 0) : declsT (a ++ s :: b) = declsT a ++ declsT b := by
  unfold declsT
  rw [pieces_app s hs b _ a (Nat.le_refl _) h, List.filterMap_append]
end Go.Proofs.Ytjljlcflmcjapaa
