/-
  Truths: turned and joined.
-/
import Derived.Test.YtjljlcflmcjapaaBase
import Derived.Test.YtjljlcflmcjapaaProg
namespace Go.Proofs.Ytjljlcflmcjapaa
open Go.RowKit
set_option linter.unusedVariables false

def tK (a : Int) : Int := if a = 0 ∨ a = 1 then a else 2
def tN (a : Int) : Int := if a = 0 then 1 else if a = 1 then 0 else 2
def tA (a b : Int) : Int := if a = 0 ∨ b = 0 then 0 else if a = 1 ∧ b = 1 then 1 else 2
def tO (a b : Int) : Int := if a = 1 ∨ b = 1 then 1 else if a = 0 ∧ b = 0 then 0 else 2

theorem tK_cases (a : Int) : tK a = 0 ∨ tK a = 1 ∨ tK a = 2 := by unfold tK; split <;> omega

theorem known_t (a : Int) (w : World) : Calls Try.prog 42 #[.int .i64 a] w fun e w' => e = .returned (.int .i64 (tK a)) ∧ w = w' := by
  by_cases h0 : a = 0
  · subst h0
    go_enter Try.func42, Try.ntmps42
    go_wp2
    go_ret
    exact ⟨rfl, rfl⟩
  · by_cases h1 : a = 1
    · subst h1
      go_enter Try.func42, Try.ntmps42
      go_wp2
      go_ret
      exact ⟨rfl, rfl⟩
    · have HK := Lib.hid (show tK a = 2 by unfold tK; rw [if_neg (by omega)])
      have b0 : (a == 0) = false := by simpa using h0
      have b1 : (a == 1) = false := by simpa using h1
      clear h0 h1
      go_enter Try.func42, Try.ntmps42
      go_wp2
      go_ret
      exact ⟨ret_int HK.out.symm, rfl⟩

theorem not_p (a : Int) (w : World) : Calls Try.prog 15 #[.int .i64 a] w fun e w' => e = .returned (.int .i64 (tN a)) ∧ w = w' := by
  have HN := Lib.hid (show (tK a = 0 → tN a = 1) ∧ (tK a = 1 → tN a = 0) ∧ (tK a = 2 → tN a = 2) by unfold tK tN; refine ⟨?_, ?_, ?_⟩ <;> intro h <;> (repeat (first | split at h | split)) <;> omega)
  have HC := Lib.hid (tK_cases a)
  have HT := Lib.hid (fun w => known_t a w)
  generalize tK a = k at *
  rcases HC.out with rfl | rfl | rfl
  all_goals
    clear HC
    go_enter Try.func15, Try.ntmps15
    go_wp2_with (go_at_call 42; refine (HT.out _).mono ?_; rintro e w' ⟨rfl, rfl⟩)
    go_ret
  · exact ⟨ret_int (by have := HN.out; simp_all), rfl⟩
  · exact ⟨ret_int (by have := HN.out; simp_all), rfl⟩
  · exact ⟨ret_int (by have := HN.out; simp_all), rfl⟩

def tE (a b m : Int) : Int := if tK a = m ∨ tK b = m then m else if tK a = tK b then tK a else 2
theorem either_p (a b m : Int) (w : World) : Calls Try.prog 44 #[.int .i64 a, .int .i64 b, .int .i64 m] w fun e w' => e = .returned (.int .i64 (tE a b m)) ∧ w = w' := by
  have HE := Lib.hid (show tE a b m = if tK a = m ∨ tK b = m then m else if tK a = tK b then tK a else 2 from rfl)
  generalize tE a b m = r at *
  have HT := Lib.hid (fun w => known_t a w)
  have HU := Lib.hid (fun w => known_t b w)
  generalize tK a = j at *
  generalize tK b = k at *
  by_cases h1 : j = m
  · have b1 : (j == m) = true := by simpa using h1
    have HX := Lib.hid (HE.out.trans (if_pos (.inl h1)))
    clear h1 HE
    have tok : Hid True := Lib.hid trivial
    go_enter Try.func44, Try.ntmps44
    go_wp2_with (go_at_call 42; first | (clear tok; refine (HT.out _).mono ?_; rintro e w' ⟨rfl, rfl⟩) | (refine (HU.out _).mono ?_; rintro e w' ⟨rfl, rfl⟩))
    go_ret
    exact ⟨ret_int HX.out.symm, rfl⟩
  · by_cases h2 : k = m
    · have b1 : (j == m) = false := by simpa using h1
      have b2 : (k == m) = true := by simpa using h2
      have HX := Lib.hid (HE.out.trans (if_pos (.inr h2)))
      clear h1 h2 HE
      have tok : Hid True := Lib.hid trivial
      go_enter Try.func44, Try.ntmps44
      go_wp2_with (go_at_call 42; first | (clear tok; refine (HT.out _).mono ?_; rintro e w' ⟨rfl, rfl⟩) | (refine (HU.out _).mono ?_; rintro e w' ⟨rfl, rfl⟩))
      go_ret
      exact ⟨ret_int HX.out.symm, rfl⟩
    · have b1 : (j == m) = false := by simpa using h1
      have b2 : (k == m) = false := by simpa using h2
      have HY := Lib.hid (HE.out.trans (if_neg (by omega)))
      clear h1 h2 HE
      by_cases h3 : j = k
      · have b3 : (j == k) = true := by simpa using h3
        have HX := Lib.hid (HY.out.trans (if_pos h3))
        clear h3 HY
        have tok : Hid True := Lib.hid trivial
        go_enter Try.func44, Try.ntmps44
        go_wp2_with (go_at_call 42; first | (clear tok; refine (HT.out _).mono ?_; rintro e w' ⟨rfl, rfl⟩) | (refine (HU.out _).mono ?_; rintro e w' ⟨rfl, rfl⟩))
        go_ret
        exact ⟨ret_int HX.out.symm, rfl⟩
      · have b3 : (j == k) = false := by simpa using h3
        have HX := Lib.hid (HY.out.trans (if_neg h3))
        clear h3 HY
        have tok : Hid True := Lib.hid trivial
        go_enter Try.func44, Try.ntmps44
        go_wp2_with (go_at_call 42; first | (clear tok; refine (HT.out _).mono ?_; rintro e w' ⟨rfl, rfl⟩) | (refine (HU.out _).mono ?_; rintro e w' ⟨rfl, rfl⟩))
        go_ret
        exact ⟨ret_int HX.out.symm, rfl⟩

theorem and_p (a b : Int) (w : World) : Calls Try.prog 17 #[.int .i64 a, .int .i64 b] w fun e w' => e = .returned (.int .i64 (tA a b)) ∧ w = w' := by
  have HE := Lib.hid (show tE a b 0 = tA a b by unfold tE tA tK; (repeat split) <;> omega)
  go_enter Try.func17, Try.ntmps17
  go_wp2_with (go_at_call 44; refine (either_p _ _ _ _).mono ?_; rintro e w' ⟨rfl, rfl⟩)
  go_ret
  exact ⟨ret_int HE.out, rfl⟩
theorem or_p (a b : Int) (w : World) : Calls Try.prog 19 #[.int .i64 a, .int .i64 b] w fun e w' => e = .returned (.int .i64 (tO a b)) ∧ w = w' := by
  have HE := Lib.hid (show tE a b 1 = tO a b by unfold tE tO tK; (repeat split) <;> omega)
  go_enter Try.func19, Try.ntmps19
  go_wp2_with (go_at_call 44; refine (either_p _ _ _ _).mono ?_; rintro e w' ⟨rfl, rfl⟩)
  go_ret
  exact ⟨ret_int HE.out, rfl⟩

def tKn (a : Int) : Bool := decide (a = 0 ∨ a = 1)
theorem known_tr (a : Int) (w : World) : Calls Try.prog 43 #[.int .i64 a] w fun e w' => e = .returned (.bool (tKn a)) ∧ w = w' := by
  have HK := Lib.hid (show tKn a = ((a == 0) || (a == 1)) by unfold tKn; rw [Bool.eq_iff_iff]; simp)
  by_cases h0 : a = 0
  · subst h0
    go_enter Try.func43, Try.ntmps43
    go_wp2
    go_ret
    exact ⟨rfl, rfl⟩
  · have b0 : (a == 0) = false := by simpa using h0
    rw [b0, Bool.false_or] at HK
    clear h0
    go_enter Try.func43, Try.ntmps43
    go_wp2
    go_ret
    exact ⟨ret_bool (by rw [HK.out]), rfl⟩

theorem not_r (a : Int) (w : World) : Calls Try.prog 16 #[.int .i64 a] w fun e w' => e = .returned (.int .i64 (tN a)) ∧ w = w' := by
  by_cases h : a = 0 ∨ a = 1
  · have HN := Lib.hid (show tN a = 1 - a by unfold tN; rcases h with rfl | rfl <;> rfl)
    have HT := Lib.hid (fun w => by have := known_tr a w; rw [show tKn a = true by simpa [tKn] using h] at this; exact this)
    have q1 : 0 ≤ a := by omega
    have q2 : a ≤ 1 := by omega
    clear h
    go_enter Try.func16, Try.ntmps16
    go_wp2_with (go_at_call 43; refine (HT.out _).mono ?_; rintro e w' ⟨rfl, rfl⟩)
    go_ret
    exact ⟨ret_int HN.out.symm, rfl⟩
  · have HN := Lib.hid (show tN a = 2 by unfold tN; rw [if_neg (by omega), if_neg (by omega)])
    have HT := Lib.hid (fun w => by have := known_tr a w; rw [show tKn a = false by simpa [tKn] using h] at this; exact this)
    clear h
    go_enter Try.func16, Try.ntmps16
    go_wp2_with (go_at_call 43; refine (HT.out _).mono ?_; rintro e w' ⟨rfl, rfl⟩)
    go_ret
    exact ⟨ret_int HN.out.symm, rfl⟩

theorem and_r (a b : Int) (w : World) : Calls Try.prog 18 #[.int .i64 a, .int .i64 b] w fun e w' => e = .returned (.int .i64 (tA a b)) ∧ w = w' := by
  have HA := Lib.hid (show tA a b = if a = 0 ∨ b = 0 then 0 else if a = 1 ∧ b = 1 then 1 else 2 from rfl)
  generalize tA a b = r at *
  go_enter Try.func18, Try.ntmps18
  go_wp2
  all_goals
    go_ret
    exact ⟨ret_int (by rw [HA.out]; (repeat split) <;> simp_all), rfl⟩

theorem or_r (a b : Int) (w : World) : Calls Try.prog 20 #[.int .i64 a, .int .i64 b] w fun e w' => e = .returned (.int .i64 (tO a b)) ∧ w = w' := by
  have HO := Lib.hid (show tN (tA (tN a) (tN b)) = tO a b by unfold tN tA tO; (repeat split) <;> omega)
  go_enter Try.func20, Try.ntmps20
  go_wp2_with (first
    | (go_at_call 16; refine (not_r _ _).mono ?_; rintro e w' ⟨rfl, rfl⟩)
    | (go_at_call 18; refine (and_r _ _ _).mono ?_; rintro e w' ⟨rfl, rfl⟩))
  go_ret
  exact ⟨ret_int HO.out, rfl⟩

end Go.Proofs.Ytjljlcflmcjapaa
