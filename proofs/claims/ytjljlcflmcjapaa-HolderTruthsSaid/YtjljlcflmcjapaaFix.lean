/-
  Contracts of layer 1 (fix) and of its reference: held numbers, quotients, parts.
-/
import Derived.Test.YtjljlcflmcjapaaProg
import Derived.Test.YtjljlcflmcjapaaBase
import Derived.Test.YtjljlcflmcjapaaPlain
namespace Go.Proofs.Ytjljlcflmcjapaa
open Go.RowKit Pl
set_option linter.unusedVariables false

theorem hold_p (x : Int) (w : World) : Calls Try.prog 100 #[.int .i64 x] w fun e w' => e = .returned (.int .i64 (hold x)) ∧ w = w' := by
  go_enter Try.func100, Try.ntmps100
  go_wp2
  all_goals
    go_ret
    exact ⟨ret_int (by unfold hold; omega), rfl⟩

theorem hold_r (x : Int) (w : World) : Calls Try.prog 149 #[.int .i64 x] w fun e w' => e = .returned (.int .i64 (hold x)) ∧ w = w' := by
  go_enter Try.func149, Try.ntmps149
  go_wp2
  all_goals
    go_ret
    exact ⟨ret_int (by unfold hold; omega), rfl⟩

theorem down_p (p d : Int) (w : World) (hd : d ≠ 0) (hp : -1152921504606846976 ≤ p ∧ p ≤ 1152921504606846976) (hb : -1073741824 ≤ d ∧ d ≤ 1073741824) :
    Calls Try.prog 138 #[.int .i64 p, .int .i64 d] w fun e w' => e = .returned (.int .i64 (fl p d)) ∧ w = w' := by
  have ht := tdiv_bd hd hp
  have E := Lib.hid (show 0 ≤ p → p.tmod d = p % d from fun h => Int.tmod_eq_emod_of_nonneg h)
  by_cases h : p.tmod d = 0
  · have H := Lib.hid (fl_dvd h)
    have h' : (p.tmod d == 0) = true := by simp [h]
    clear h
    go_enter Try.func138, Try.ntmps138
    go_wp2
    all_goals
      go_ret
      first | exact ⟨ret_int H.out, rfl⟩ | (exfalso; have := E.out; simp_all; done) | (exfalso; have := E.out (by omega); simp_all; done)
  · have h' : (p.tmod d == 0) = false := by simpa using h
    have h'' : (p.tmod d != 0) = true := by simpa using h
    by_cases h1 : p < 0 <;> by_cases h2 : d < 0
    · have H := Lib.hid (fl_same hd h (.inl ⟨h1, h2⟩))
      have hx : (!decide (p < 0) == decide (d < 0)) = false := by simp [h1, h2]
      go_enter Try.func138, Try.ntmps138
      go_wp2
      all_goals
        go_ret
        first | exact ⟨ret_int H.out, rfl⟩ | (exfalso; have := E.out; simp_all; done) | (exfalso; have := E.out (by omega); simp_all; done)
    · have H := Lib.hid (fl_diff hd h (.inl ⟨h1, by omega⟩))
      have hx : (!decide (p < 0) == decide (d < 0)) = true := by simp [h1, h2]
      go_enter Try.func138, Try.ntmps138
      go_wp2
      all_goals
        go_ret
        first | exact ⟨ret_int H.out, rfl⟩ | (exfalso; have := E.out; simp_all; done) | (exfalso; have := E.out (by omega); simp_all; done)
    · have H := Lib.hid (fl_diff hd h (.inr ⟨by omega, h2⟩))
      have hx : (!decide (p < 0) == decide (d < 0)) = true := by simp [h1, h2]
      go_enter Try.func138, Try.ntmps138
      go_wp2
      all_goals
        go_ret
        first | exact ⟨ret_int H.out, rfl⟩ | (exfalso; have := E.out; simp_all; done) | (exfalso; have := E.out (by omega); simp_all; done)
    · have H := Lib.hid (fl_same hd h (.inr ⟨by omega, by omega⟩))
      have hx : (!decide (p < 0) == decide (d < 0)) = false := by simp [h1, h2]
      go_enter Try.func138, Try.ntmps138
      go_wp2
      all_goals
        go_ret
        first | exact ⟨ret_int H.out, rfl⟩ | (exfalso; have := E.out; simp_all; done) | (exfalso; have := E.out (by omega); simp_all; done)

theorem floor_pos (p d : Int) (w : World) (hd : 0 < d) (hp : -1152921504606846976 ≤ p ∧ p ≤ 1152921504606846976) (hb : d ≤ 1073741824) :
    Calls Try.prog 158 #[.int .i64 p, .int .i64 d] w fun e w' => e = .returned (.int .i64 (fl p d)) ∧ w = w' := by
  by_cases h : 0 ≤ p
  · have H := Lib.hid (fl_pos (p := p) hd)
    go_enter Try.func158, Try.ntmps158
    go_wp2_with fail
    go_ret
    exact ⟨ret_int H.out.symm, rfl⟩
  · have H := Lib.hid (fl_up (p := p) hd)
    have hq : 0 ≤ (d - 1 - p) / d := Int.ediv_nonneg (by omega) (by omega)
    have hq' : (d - 1 - p) / d ≤ d - 1 - p := Int.ediv_le_self _ (by omega)
    go_enter Try.func158, Try.ntmps158
    go_wp2_with fail
    go_ret
    exact ⟨ret_int H.out, rfl⟩

theorem floor_r (p d : Int) (w : World) (hd : d ≠ 0) (hp : -1152921504606846976 ≤ p ∧ p ≤ 1152921504606846976) (hb : -1073741824 ≤ d ∧ d ≤ 1073741824) :
    Calls Try.prog 158 #[.int .i64 p, .int .i64 d] w fun e w' => e = .returned (.int .i64 (fl p d)) ∧ w = w' := by
  by_cases h : d < 0
  · have H := Lib.hid (fl_neg p d)
    go_enter Try.func158, Try.ntmps158
    go_wp2_with (go_at_call 158; refine (floor_pos (-p) (-d) _ (by omega) (by omega) (by omega)).mono ?_; rintro e w' ⟨rfl, rfl⟩)
    go_ret
    exact ⟨ret_int H.out, rfl⟩
  · exact floor_pos p d w (by omega) hp (by omega)

theorem part_p (a n d : Int) (w : World) : Calls Try.prog 103 #[.int .i64 a, .int .i64 n, .int .i64 d] w fun e w' => e = .returned (.int .i64 (partN a n d)) ∧ w = w' := by
  have ha := hold_bd a
  have hn := hold_bd n
  have hd := hold_bd d
  have hm := prod_bd ha hn
  by_cases h : d = 0
  · have H := Lib.hid (show partN a n d = 0 by unfold partN; rw [if_pos h])
    have h' : (d == 0) = true := by simp [h]
    clear h
    go_enter Try.func103, Try.ntmps103
    go_wp2_with fail
    go_ret
    exact ⟨ret_int H.out.symm, rfl⟩
  · have H := Lib.hid (show partN a n d = hold (fl (hold a * hold n) (hold d)) by unfold partN; rw [if_neg h])
    have h' : (d == 0) = false := by simpa using h
    have hd' : hold d ≠ 0 := by unfold hold; omega
    go_enter Try.func103, Try.ntmps103
    go_wp2_with (first
      | (go_at_call 100; refine (hold_p _ _).mono ?_; rintro e w' ⟨rfl, rfl⟩)
      | (go_at_call 138; refine (down_p _ _ _ hd' hm hd).mono ?_; rintro e w' ⟨rfl, rfl⟩))
    go_ret
    exact ⟨ret_int H.out.symm, rfl⟩

theorem part_r (a n d : Int) (w : World) : Calls Try.prog 150 #[.int .i64 a, .int .i64 n, .int .i64 d] w fun e w' => e = .returned (.int .i64 (partN a n d)) ∧ w = w' := by
  have ha := hold_bd a
  have hn := hold_bd n
  have hd := hold_bd d
  have hm := prod_bd ha hn
  by_cases h : d = 0
  · have H := Lib.hid (show partN a n d = 0 by unfold partN; rw [if_pos h])
    have h' : (hold d == 0) = true := by rw [h]; rfl
    clear h
    go_enter Try.func150, Try.ntmps150
    go_wp2_with (first
      | (go_at_call 149; refine (hold_r _ _).mono ?_; rintro e w' ⟨rfl, rfl⟩))
    go_ret
    exact ⟨ret_int H.out.symm, rfl⟩
  · have H := Lib.hid (show partN a n d = hold (fl (hold a * hold n) (hold d)) by unfold partN; rw [if_neg h])
    have hd' : hold d ≠ 0 := by unfold hold; omega
    have h' : (hold d == 0) = false := by simpa using hd'
    go_enter Try.func150, Try.ntmps150
    go_wp2_with (first
      | (go_at_call 149; refine (hold_r _ _).mono ?_; rintro e w' ⟨rfl, rfl⟩)
      | (go_at_call 158; refine (floor_r _ _ _ hd' hm hd).mono ?_; rintro e w' ⟨rfl, rfl⟩))
    go_ret
    exact ⟨ret_int H.out.symm, rfl⟩

theorem px_p (n : Int) (w : World) : Calls Try.prog 102 #[.int .i64 n] w fun e w' => e = .returned (.int .i64 (partN n 64 1000)) ∧ w = w' := by
  go_enter Try.func102, Try.ntmps102
  go_wp2_with (go_at_call 103; refine (part_p _ _ _ _).mono ?_; rintro e w' ⟨rfl, rfl⟩)
  go_ret
  exact ⟨rfl, rfl⟩

theorem percent_p (b n : Int) (w : World) : Calls Try.prog 104 #[.int .i64 b, .int .i64 n] w fun e w' => e = .returned (.int .i64 (partN b n 100000)) ∧ w = w' := by
  go_enter Try.func104, Try.ntmps104
  go_wp2_with (go_at_call 103; refine (part_p _ _ _ _).mono ?_; rintro e w' ⟨rfl, rfl⟩)
  go_ret
  exact ⟨rfl, rfl⟩

end Go.Proofs.Ytjljlcflmcjapaa
