/-
  What closes an opening, in plain Lean: by a stack of closers, and by what the document says.
-/
namespace Go.Proofs.Ytjljlcflmcjapaa
set_option linter.unusedVariables false
namespace Pl

/-- the kind that closes an opening; 0: it is none -/
def clo (k : Int) : Int := if k = 13 ∨ k = 2 then 14 else if k = 15 then 16 else if k = 17 then 18 else 0
theorem clo_cases (k : Int) : clo k = 0 ∨ clo k = 14 ∨ clo k = 16 ∨ clo k = 18 := by
  unfold clo
  split
  · exact .inr (.inl rfl)
  · split
    · exact .inr (.inr (.inl rfl))
    · split
      · exact .inr (.inr (.inr rfl))
      · exact .inl rfl
theorem clo_clo (k : Int) (h : clo k ≠ 0) : clo (clo k) = 0 := by rcases clo_cases k with e | e | e | e <;> rw [e] at * <;> first | exact absurd rfl h | decide
theorem clo_nonneg (k : Int) : 0 ≤ clo k := by rcases clo_cases k with e | e | e | e <;> omega

/-- from place k on, under some closers (the nearest first): where the last of these is met, or the end -/
def run (K : List Int) : (fuel k : Nat) → List Int → Nat
  | 0, k, _ => K.length
  | f + 1, k, st => if h : k < K.length then
      if clo K[k] ≠ 0 then run K f (k + 1) (clo K[k] :: st)
      else match st with
        | [] => run K f (k + 1) []
        | c :: r => if K[k] = c then (match r with | [] => k | _ :: _ => run K f (k + 1) r) else run K f (k + 1) (c :: r)
    else K.length
/-- with room enough -/
def runs (K : List Int) (k : Nat) (st : List Int) : Nat := run K (K.length - k) k st

theorem runs_end {K : List Int} {k : Nat} (st : List Int) (h : K.length ≤ k) : runs K k st = K.length := by
  unfold runs
  rw [show K.length - k = 0 by omega]; rfl
theorem runs_step {K : List Int} {k : Nat} (st : List Int) (h : k < K.length) : runs K k st =
    if clo K[k] ≠ 0 then runs K (k + 1) (clo K[k] :: st)
    else match st with
      | [] => runs K (k + 1) []
      | c :: r => if K[k] = c then (match r with | [] => k | _ :: _ => runs K (k + 1) r) else runs K (k + 1) (c :: r) := by
  unfold runs
  rw [show K.length - k = (K.length - (k + 1)) + 1 by omega]
  simp only [run, h, dif_pos]
theorem runs_le (K : List Int) : ∀ (m k : Nat) (st : List Int), K.length - k ≤ m → runs K k st ≤ K.length ∧ (k ≤ K.length → k ≤ runs K k st) := by
  intro m
  induction m with
  | zero =>
    intro k st h
    rw [runs_end st (by omega)]; omega
  | succ m ih =>
    intro k st h
    by_cases hk : k < K.length
    · rw [runs_step st hk]
      split
      · have := ih (k + 1) (clo K[k] :: st) (by omega); omega
      · split
        · have := ih (k + 1) [] (by omega); omega
        · split
          · split
            · omega
            · rename_i x y
              have := ih (k + 1) (x :: y) (by omega); omega
          · rename_i c r _
            have := ih (k + 1) (c :: r) (by omega); omega
    · rw [runs_end st (by omega)]; omega

/-- more closers beneath: the nearest is met first -/
theorem runs_under (K : List Int) : ∀ (m k : Nat) (c d : Int) (st : List Int), K.length - k ≤ m → runs K k (c :: d :: st) = if runs K k [c] < K.length then runs K (runs K k [c] + 1) (d :: st) else K.length := by
  intro m
  induction m with
  | zero =>
    intro k c d st h
    rw [runs_end _ (by omega), runs_end [c] (by omega), if_neg (by omega)]
  | succ m ih =>
    intro k c d st h
    by_cases hk : k < K.length
    · rw [runs_step (c :: d :: st) hk, runs_step [c] hk]
      by_cases hc : clo K[k] ≠ 0
      · rw [if_pos hc, if_pos hc]
        rw [ih (k + 1) (clo K[k]) c (d :: st) (by omega), ih (k + 1) (clo K[k]) c [] (by omega)]
        by_cases h1 : runs K (k + 1) [clo K[k]] < K.length
        · rw [if_pos h1, if_pos h1]
          have := (runs_le K _ (k + 1) [clo K[k]] (Nat.le_refl _)).2 (by omega)
          exact ih _ c d st (by omega)
        · rw [if_neg h1, if_neg h1, if_neg (by omega)]
      · rw [if_neg hc, if_neg hc]
        by_cases he : K[k] = c
        · simp only [he, if_true]
          rw [if_pos hk]
        · simp only [he, if_false]
          exact ih (k + 1) c d st (by omega)
    · rw [runs_end _ (by omega), runs_end [c] (by omega), if_neg (by omega)]

/-- what closes the opening at a place; the place itself, if there is none -/
def mtc (K : List Int) (i : Int) : Int := if h : 0 ≤ i ∧ i < K.length then (if clo (K[i.toNat]'(by omega)) = 0 then i else runs K (i.toNat + 1) [clo (K[i.toNat]'(by omega))]) else i

/-- the reference's loop: one round -/
theorem runs_ref {K : List Int} {k : Nat} {c : Int} (hk : k < K.length) (hc : clo c = 0) : runs K k [c] = if K[k] = c then k else runs K ((mtc K k).toNat + 1) [c] := by
  rw [runs_step [c] hk]
  have hm : mtc K k = if clo K[k] = 0 then (k : Int) else runs K (k + 1) [clo K[k]] := by
    unfold mtc
    rw [dif_pos ⟨by omega, by omega⟩]
    simp
  by_cases h1 : clo K[k] ≠ 0
  · rw [if_pos h1, if_neg (fun e => h1 (by rw [e]; exact hc)), hm, if_neg h1, runs_under K _ (k + 1) (clo K[k]) c [] (Nat.le_refl _)]
    simp only [Int.toNat_natCast]
    split
    · rfl
    · rw [runs_end _ (by have := (runs_le K _ (k + 1) [clo K[k]] (Nat.le_refl _)).1; omega)]
  · have h2 : clo K[k] = 0 := by omega
    rw [if_neg h1]
    rw [if_pos h2] at hm
    rw [hm]
    rfl

end Pl
end Go.Proofs.Ytjljlcflmcjapaa
