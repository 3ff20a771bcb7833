/-
  Contracts of layer 4's names and words, and of the reference's.
-/
import Derived.Test.YtijmldgdcknbnaaProg
import Derived.Test.YtijmldgdcknbnaaBase
import Derived.Test.YtijmldgdcknbnaaNamePlain
namespace Go.Proofs.Ytijmldgdcknbnaa
open Go.RowKit Pl
set_option linter.unusedVariables false

theorem begins_p (c : Int) (w : World) (h0 : 0 ≤ c) (h1 : c ≤ 255) : Calls Try.prog 151 #[.int .u8 c] w fun e w' => e = .returned (.bool (begB c)) ∧ w = w' := by
  go_enter Try.func151, Try.ntmps151
  go_wp2
  all_goals
    go_ret
    exact ⟨ret_bool (by unfold begB; rw [Bool.eq_iff_iff]; simp_all <;> omega), rfl⟩

theorem begins_r (c : Int) (w : World) (h0 : 0 ≤ c) (h1 : c ≤ 255) : Calls Try.prog 120 #[.int .u8 c] w fun e w' => e = .returned (.bool (begB c)) ∧ w = w' := by
  go_enter Try.func120, Try.ntmps120
  go_wp2
  all_goals
    go_ret
    exact ⟨ret_bool (by unfold begB; rw [Bool.eq_iff_iff]; simp_all <;> omega), rfl⟩

theorem goes_p (c : Int) (w : World) (h0 : 0 ≤ c) (h1 : c ≤ 255) : Calls Try.prog 152 #[.int .u8 c] w fun e w' => e = .returned (.bool (goesB c)) ∧ w = w' := by
  go_enter Try.func152, Try.ntmps152
  go_wp2_with (go_at_call 151; refine (begins_p _ _ h0 h1).mono ?_; rintro e w' ⟨rfl, rfl⟩)
  all_goals
    go_ret
    exact ⟨ret_bool (by unfold goesB; rw [Bool.eq_iff_iff]; simp_all <;> omega), rfl⟩

theorem goes_r (c : Int) (w : World) (h0 : 0 ≤ c) (h1 : c ≤ 255) : Calls Try.prog 130 #[.int .u8 c] w fun e w' => e = .returned (.bool (goesB c)) ∧ w = w' := by
  go_enter Try.func130, Try.ntmps130
  go_wp2_with (go_at_call 120; refine (begins_r _ _ h0 h1).mono ?_; rintro e w' ⟨rfl, rfl⟩)
  all_goals
    go_ret
    exact ⟨ret_bool (by unfold goesB; rw [Bool.eq_iff_iff]; simp_all <;> omega), rfl⟩

theorem u8_bd (c : UInt8) : (0 : Int) ≤ (c.toNat : Int) ∧ (c.toNat : Int) ≤ 255 := by have := c.toNat_lt; omega

set_option maxHeartbeats 400000 in
theorem text_p (s : ByteArray) (w : World) (hs : s.size ≤ maxLen) : Calls Try.prog 118 #[.string s] w fun e w' => e = .returned (.bool (textL s.data.toList)) ∧ w = w' := by
  unfold maxLen at hs
  have hlen : s.data.toList.length = s.size := by simp
  have HL := Lib.hid hlen; clear hlen
  have HT := Lib.hid (show textL s.data.toList = (s.data.toList.all (fun c => wordB c.toNat) && decide (s.size ≤ 256)) by unfold textL; rw [HL.out])
  go_enter Try.func118, Try.ntmps118
  go_wp2
  go_loop [6] (fun t => ∃ k : Nat, t = .int .i64 k ∧ k ≤ s.size ∧ Hid ((s.data.toList.take k).all (fun c => wordB c.toNat) = true)) (fun t => s.size - (intOf t).toNat)
  case atStart => exact ⟨0, rfl, Nat.zero_le _, rfl⟩
  case round =>
    obtain ⟨k, rfl, hk, hx⟩ := hrel
    by_cases hlt : k < s.size
    · have hb := u8_bd s[k]
      have HS := Lib.hid (show (wordB s[k].toNat = true → (s.data.toList.take (k + 1)).all (fun c => wordB c.toNat) = true) ∧ (wordB s[k].toNat = false → s.data.toList.all (fun c => wordB c.toNat) = false) from
        all_step (fun c : UInt8 => wordB c.toNat) s.data.toList k (by rw [HL.out]; exact hlt) hx.out)
      by_cases h1 : (s[k].toNat : Int) < 32
      · have HW := Lib.hid (show wordB s[k].toNat = false by unfold wordB; simp; omega)
        go_wp2
        go_ret
        exact ⟨ret_bool (by rw [HT.out, HS.out.2 HW.out]; rfl), rfl⟩
      · by_cases h2 : (s[k].toNat : Int) = 34
        · have HW := Lib.hid (show wordB s[k].toNat = false by unfold wordB; rw [h2]; decide)
          have h2' : ((s[k].toNat : Int) == 34) = true := by simpa using h2
          clear h2
          go_wp2
          go_ret
          exact ⟨ret_bool (by rw [HT.out, HS.out.2 HW.out]; rfl), rfl⟩
        · have HW := Lib.hid (show wordB s[k].toNat = true by unfold wordB; simp; omega)
          have h2' : ((s[k].toNat : Int) == 34) = false := by simpa using h2
          clear h2
          go_wp2
          go_round
          case rel => exact ⟨k + 1, by go_num, by omega, HS.out.1 HW.out⟩
          case measure => simp [intOf]; omega
    · go_wp2
      go_ret
      exact ⟨ret_bool (by rw [HT.out, ← List.take_of_length_le (l := s.data.toList) (i := k) (by rw [HL.out]; omega), hx.out]; simp; omega), rfl⟩

set_option maxHeartbeats 400000 in
theorem text_r (s : ByteArray) (w : World) (hs : s.size ≤ maxLen) : Calls Try.prog 119 #[.string s] w fun e w' => e = .returned (.bool (textL s.data.toList)) ∧ w = w' := by
  unfold maxLen at hs
  have hlen : s.data.toList.length = s.size := by simp
  have HL := Lib.hid hlen; clear hlen
  have HT := Lib.hid (show textL s.data.toList = (s.data.toList.all (fun c => wordB c.toNat) && decide (s.size ≤ 256)) by unfold textL; rw [HL.out])
  go_enter Try.func119, Try.ntmps119
  go_wp2
  go_loop [3] (fun t => ∃ k : Nat, t = .int .i64 k ∧ k ≤ s.size ∧ Hid ((s.data.toList.take k).all (fun c => wordB c.toNat) = true)) (fun t => s.size - (intOf t).toNat)
  case atStart => exact ⟨0, rfl, Nat.zero_le _, rfl⟩
  case round =>
    obtain ⟨k, rfl, hk, hx⟩ := hrel
    by_cases hlt : k < s.size
    · have hb := u8_bd s[k]
      have HS := Lib.hid (show (wordB s[k].toNat = true → (s.data.toList.take (k + 1)).all (fun c => wordB c.toNat) = true) ∧ (wordB s[k].toNat = false → s.data.toList.all (fun c => wordB c.toNat) = false) from
        all_step (fun c : UInt8 => wordB c.toNat) s.data.toList k (by rw [HL.out]; exact hlt) hx.out)
      by_cases h1 : (s[k].toNat : Int) < 32
      · have HW := Lib.hid (show wordB s[k].toNat = false by unfold wordB; simp; omega)
        go_wp2
        go_ret
        exact ⟨ret_bool (by rw [HT.out, HS.out.2 HW.out]; rfl), rfl⟩
      · by_cases h2 : (s[k].toNat : Int) = 34
        · have HW := Lib.hid (show wordB s[k].toNat = false by unfold wordB; rw [h2]; decide)
          have h2' : ((s[k].toNat : Int) == 34) = true := by simpa using h2
          clear h2
          go_wp2
          go_ret
          exact ⟨ret_bool (by rw [HT.out, HS.out.2 HW.out]; rfl), rfl⟩
        · have HW := Lib.hid (show wordB s[k].toNat = true by unfold wordB; simp; omega)
          have h2' : ((s[k].toNat : Int) == 34) = false := by simpa using h2
          clear h2
          go_wp2
          go_round
          case rel => exact ⟨k + 1, by go_num, by omega, HS.out.1 HW.out⟩
          case measure => simp [intOf]; omega
    · go_wp2
      go_ret
      exact ⟨ret_bool (by rw [HT.out, ← List.take_of_length_le (l := s.data.toList) (i := k) (by rw [HL.out]; omega), hx.out]; simp; omega), rfl⟩

theorem int_beq (a b : Int) : (a == b) = decide (a = b) := by rw [Bool.eq_iff_iff]; simp
theorem size_zero {s : ByteArray} (h : s.size = 0) : s = ByteArray.empty := by
  cases s with | mk d =>
  show (⟨d⟩ : ByteArray) = ⟨#[]⟩
  congr 1
  exact Array.eq_empty_of_size_eq_zero h
theorem starts_nil {s : ByteArray} (h : s.size = 0) : startsL s.data.toList = false := by
  have : s.data.toList = [] := List.eq_nil_of_length_eq_zero (by simpa using h)
  rw [this]; rfl
theorem starts_one {s : ByteArray} (h : s.size = 1) : startsL s.data.toList = (!decide ((s[0].toNat : Int) = 45) && begB s[0].toNat) := by
  have e : s.data.toList = [s[0]] := by
    have hl : s.data.toList.length = 1 := by simpa using h
    match hd : s.data.toList, hl with
    | [c], _ =>
      have : s[0] = s.data.toList[0]'(by simp; omega) := rfl
      rw [this]; simp [hd]
  rw [e]; rfl
theorem starts_more {s : ByteArray} (h : 1 < s.size) : startsL s.data.toList = if (s[0].toNat : Int) = 45 then begB s[1].toNat || decide ((s[1].toNat : Int) = 45) else begB s[0].toNat := by
  have e : ∃ r, s.data.toList = s[0] :: s[1] :: r := by
    have hl : 1 < s.data.toList.length := by simpa using h
    have key : ∀ (l : List UInt8) (hl : 1 < l.length), ∃ r, l = l[0] :: l[1] :: r := fun l hl => by
      match l, hl with
      | c :: d :: r, _ => exact ⟨r, rfl⟩
    exact key s.data.toList hl
  obtain ⟨r, e⟩ := e
  rw [e]; rfl

set_option maxHeartbeats 1000000 in
theorem name_p (s : ByteArray) (w : World) (hs : s.size ≤ maxLen) : Calls Try.prog 115 #[.string s] w fun e w' => e = .returned (.bool (nameL s.data.toList)) ∧ w = w' := by
  unfold maxLen at hs
  have hlen : s.data.toList.length = s.size := by simp
  have HL := Lib.hid hlen; clear hlen
  have HT := Lib.hid (show nameL s.data.toList = (startsL s.data.toList && s.data.toList.all (fun c => goesB c.toNat) && decide (s.size ≤ 32)) by unfold nameL; rw [HL.out])
  by_cases he : s.toList.isEmpty = true
  · have h0 : s.size = 0 := by rw [str_emp] at he; have := of_decide_eq_true he; rw [this]; rfl
    have HF := Lib.hid (starts_nil h0)
    go_enter Try.func115, Try.ntmps115
    go_wp2_with fail
    go_ret
    exact ⟨ret_bool (by rw [HT.out, HF.out]; rfl), rfl⟩
  have he' : s.toList.isEmpty = false := by simpa using he
  have h0 : 0 < s.size := by
    rcases Nat.eq_zero_or_pos s.size with h | h
    · exfalso; apply he
      rw [str_emp]
      have : s = ⟨#[]⟩ := size_zero h
      simp [this]
    · exact h
  clear he
  by_cases h32 : 32 < s.size
  · go_enter Try.func115, Try.ntmps115
    go_wp2_with fail
    go_ret
    exact ⟨ret_bool (by rw [HT.out]; simp; omega), rfl⟩
  have h32' : s.size ≤ 32 := by omega
  clear h32
  have b0 := u8_bd s[0]
  have hcases : (∃ h1 : s.size = 1, ((s[0].toNat : Int) == 45) = true ∧ Hid (startsL s.data.toList = false)) ∨
      (∃ h1 : 1 < s.size, ((s[0].toNat : Int) == 45) = true ∧ begB s[1].toNat = false ∧ ((s[1].toNat : Int) == 45) = false ∧ Hid (startsL s.data.toList = false)) ∨
      (((s[0].toNat : Int) == 45) = false ∧ begB s[0].toNat = false ∧ Hid (startsL s.data.toList = false)) ∨
      (∃ h1 : 1 < s.size, ((s[0].toNat : Int) == 45) = true ∧ begB s[1].toNat = true ∧ Hid (startsL s.data.toList = true)) ∨
      (∃ h1 : 1 < s.size, ((s[0].toNat : Int) == 45) = true ∧ begB s[1].toNat = false ∧ ((s[1].toNat : Int) == 45) = true ∧ Hid (startsL s.data.toList = true)) ∨
      (((s[0].toNat : Int) == 45) = false ∧ begB s[0].toNat = true ∧ Hid (startsL s.data.toList = true)) := by
    by_cases h1 : s.size = 1
    · have hs1 := starts_one h1
      by_cases h45 : (s[0].toNat : Int) = 45
      · exact .inl ⟨h1, by simpa using h45, by rw [Hid, hs1]; simp [h45]⟩
      · by_cases hb : begB s[0].toNat = true
        · exact .inr (.inr (.inr (.inr (.inr ⟨by simpa using h45, hb, by rw [Hid, hs1, hb]; simpa using h45⟩))))
        · exact .inr (.inr (.inl ⟨by simpa using h45, by simpa using hb, by rw [Hid, hs1]; simp [hb]⟩))
    · have h2 : 1 < s.size := by omega
      have hs1 := starts_more h2
      by_cases h45 : (s[0].toNat : Int) = 45
      · rw [if_pos h45] at hs1
        by_cases hb : begB s[1].toNat = true
        · exact .inr (.inr (.inr (.inl ⟨h2, by simpa using h45, hb, by rw [Hid, hs1, hb]; rfl⟩)))
        · by_cases h5 : (s[1].toNat : Int) = 45
          · exact .inr (.inr (.inr (.inr (.inl ⟨h2, by simpa using h45, by simpa using hb, by simpa using h5, by rw [Hid, hs1]; simp [h5]⟩))))
          · exact .inr (.inl ⟨h2, by simpa using h45, by simpa using hb, by simpa using h5, by rw [Hid, hs1]; simp [hb]; simpa using h5⟩)
      · rw [if_neg h45] at hs1
        by_cases hb : begB s[0].toNat = true
        · exact .inr (.inr (.inr (.inr (.inr ⟨by simpa using h45, hb, by rw [Hid, hs1, hb]⟩))))
        · exact .inr (.inr (.inl ⟨by simpa using h45, by simpa using hb, by rw [Hid, hs1]; simpa using hb⟩))
  rcases hcases with ⟨h1, q0, HF⟩ | ⟨h1, q0, q1, q2, HF⟩ | ⟨q0, q1, HF⟩ | ⟨h1, q0, q1, HF⟩ | ⟨h1, q0, q1, q2, HF⟩ | ⟨q0, q1, HF⟩
  · have h1' := Nat.le_of_eq h1
    clear h1
    go_enter Try.func115, Try.ntmps115
    go_wp2_with fail
    go_ret
    exact ⟨ret_bool (by rw [HT.out, HF.out]; rfl), rfl⟩
  · have b1 := u8_bd s[1]
    have z1 : ((s.size : Int) == 1) = false := by simp; omega
    have z2 : ((s[1].toNat : Int) != 45) = true := by simp only [bne, q2]; rfl
    go_enter Try.func115, Try.ntmps115
    go_wp2_with (go_at_call 151; refine (begins_p _ _ b1.1 b1.2).mono ?_; rintro e w' ⟨rfl, rfl⟩)
    go_ret
    exact ⟨ret_bool (by rw [HT.out, HF.out]; rfl), rfl⟩
  · go_enter Try.func115, Try.ntmps115
    go_wp2_with (go_at_call 151; refine (begins_p _ _ b0.1 b0.2).mono ?_; rintro e w' ⟨rfl, rfl⟩)
    go_ret
    exact ⟨ret_bool (by rw [HT.out, HF.out]; rfl), rfl⟩
  all_goals
    have z0 : decide ((32 : Int) < (s.size : Int)) = false := by simp; omega
    (try have z1 : ((s.size : Int) == 1) = false := by simp; omega)
    (try have z2 : ((s[1].toNat : Int) != 45) = false := by simp only [bne, q2]; rfl)
    first
      | (have b1 := u8_bd s[1]
         go_enter Try.func115, Try.ntmps115
         go_wp2_with (go_at_call 151; refine (begins_p _ _ b1.1 b1.2).mono ?_; rintro e w' ⟨rfl, rfl⟩))
      | (go_enter Try.func115, Try.ntmps115
         go_wp2_with (go_at_call 151; refine (begins_p _ _ b0.1 b0.2).mono ?_; rintro e w' ⟨rfl, rfl⟩))
    go_loop [34] (fun t => ∃ k : Nat, t = .int .i64 k ∧ k ≤ s.size ∧ Hid ((s.data.toList.take k).all (fun c => goesB c.toNat) = true)) (fun t => s.size - (intOf t).toNat)
    case atStart => exact ⟨0, rfl, Nat.zero_le _, rfl⟩
    case round =>
      obtain ⟨k, rfl, hk, hx⟩ := hrel
      by_cases hlt : k < s.size
      · have hb := u8_bd s[k]
        have HS := Lib.hid (show (goesB s[k].toNat = true → (s.data.toList.take (k + 1)).all (fun c => goesB c.toNat) = true) ∧ (goesB s[k].toNat = false → s.data.toList.all (fun c => goesB c.toNat) = false) from
          all_step (fun c : UInt8 => goesB c.toNat) s.data.toList k (by rw [HL.out]; exact hlt) hx.out)
        by_cases hg : goesB s[k].toNat = true
        · go_wp2_with (go_at_call 152; refine (goes_p _ _ hb.1 hb.2).mono ?_; rintro e w' ⟨rfl, rfl⟩)
          go_round
          case rel => exact ⟨k + 1, by go_num, by omega, HS.out.1 hg⟩
          case measure => simp [intOf]; omega
        · have hg' : goesB s[k].toNat = false := by simpa using hg
          clear hg
          go_wp2_with (go_at_call 152; refine (goes_p _ _ hb.1 hb.2).mono ?_; rintro e w' ⟨rfl, rfl⟩)
          go_ret
          exact ⟨ret_bool (by rw [HT.out, HS.out.2 hg']; simp), rfl⟩
      · go_wp2_with fail
        go_ret
        exact ⟨ret_bool (by rw [HT.out, HF.out, ← List.take_of_length_le (l := s.data.toList) (i := k) (by rw [HL.out]; omega), hx.out]; simp; omega), rfl⟩

theorem starts_r (s : ByteArray) (w : World) (hs : s.size ≤ maxLen) : Calls Try.prog 73 #[.string s, .int .i64 0] w fun e w' => e = .returned (.bool (startsL s.data.toList)) ∧ w = w' := by
  unfold maxLen at hs
  by_cases h0 : s.size = 0
  · have HF := Lib.hid (starts_nil h0)
    obtain rfl : s = ByteArray.empty := size_zero h0
    clear h0
    go_enter Try.func73, Try.ntmps73
    go_wp2_with fail
    go_ret
    exact ⟨ret_bool (by rw [HF.out]), rfl⟩
  have h0p : 0 < s.size := by omega
  have hE : ¬ s = ByteArray.empty := fun e => h0 (by rw [e]; rfl)
  clear h0
  have b0 := u8_bd s[0]
  by_cases h1 : s.size = 1
  · have HF : Hid (startsL s.data.toList = (!decide ((s[0].toNat : Int) = 45) && begB s[0].toNat)) := starts_one h1
    have h1' := Nat.le_of_eq h1
    clear h1
    by_cases h45 : (s[0].toNat : Int) = 45
    · have q0 : ((s[0].toNat : Int) == 45) = true := by simpa using h45
      have HQ := Lib.hid h45; clear h45
      go_enter Try.func73, Try.ntmps73
      go_wp2_with fail
      go_ret
      exact ⟨ret_bool (by rw [HF.out, HQ.out]; rfl), rfl⟩
    · have q0 : ((s[0].toNat : Int) == 45) = false := by simpa using h45
      have HQ := Lib.hid h45; clear h45
      go_enter Try.func73, Try.ntmps73
      go_wp2_with (go_at_call 120; refine (begins_r _ _ b0.1 b0.2).mono ?_; rintro e w' ⟨rfl, rfl⟩)
      go_ret
      exact ⟨ret_bool (by rw [HF.out, decide_eq_false HQ.out]; rfl), rfl⟩
  · have h2 : 1 < s.size := by omega
    have HF := Lib.hid (starts_more h2)
    clear h1
    have b1 := u8_bd s[1]
    by_cases h45 : (s[0].toNat : Int) = 45
    · have q0 : ((s[0].toNat : Int) == 45) = true := by simpa using h45
      have HQ := Lib.hid h45; clear h45
      go_enter Try.func73, Try.ntmps73
      go_wp2_with (go_at_call 120; refine (begins_r _ _ b1.1 b1.2).mono ?_; rintro e w' ⟨rfl, rfl⟩)
      all_goals
        go_ret
        exact ⟨ret_bool (by rw [HF.out, if_pos HQ.out]; clear HF HQ q0 hE; simp_all [int_beq]), rfl⟩
    · have q0 : ((s[0].toNat : Int) == 45) = false := by simpa using h45
      have HQ := Lib.hid h45; clear h45
      go_enter Try.func73, Try.ntmps73
      go_wp2_with (go_at_call 120; refine (begins_r _ _ b0.1 b0.2).mono ?_; rintro e w' ⟨rfl, rfl⟩)
      go_ret
      exact ⟨ret_bool (by rw [HF.out, if_neg HQ.out]), rfl⟩

theorem runL_drop (l : List UInt8) (k : Nat) (hk : k < l.length) : runL (l.drop k) = if goesB l[k].toNat then runL (l.drop (k + 1)) + 1 else 0 := by
  rw [drop_step l k hk]; rfl

theorem run_r (s : ByteArray) (w : World) (hs : s.size ≤ maxLen) : Calls Try.prog 90 #[.string s, .int .i64 0] w fun e w' => e = .returned (.int .i64 (runL s.data.toList)) ∧ w = w' := by
  unfold maxLen at hs
  have hlen : s.data.toList.length = s.size := by simp
  have HL := Lib.hid hlen; clear hlen
  go_enter Try.func90, Try.ntmps90
  go_wp2_with fail
  go_loop [1, 5] (fun t n => ∃ k : Nat, t = .int .i64 k ∧ n = .int .i64 k ∧ k ≤ s.size ∧ Hid (runL s.data.toList = k + runL (s.data.toList.drop k))) (fun t _ => s.size - (intOf t).toNat)
  case atStart => exact ⟨0, rfl, rfl, Nat.zero_le _, by rw [Hid]; simp⟩
  case round =>
    obtain ⟨k, rfl, rfl, hk, hx⟩ := hrel
    by_cases hlt : k < s.size
    · have hb := u8_bd s[k]
      have HS := Lib.hid (show runL (s.data.toList.drop k) = if goesB s[k].toNat then runL (s.data.toList.drop (k + 1)) + 1 else 0 from runL_drop s.data.toList k (by rw [HL.out]; exact hlt))
      by_cases hg : goesB s[k].toNat = true
      · have HG := Lib.hid (HS.out.trans (if_pos hg))
        go_wp2_with (go_at_call 130; refine (goes_r _ _ hb.1 hb.2).mono ?_; rintro e w' ⟨rfl, rfl⟩)
        go_round
        case rel => exact ⟨k + 1, by go_num, by go_num, by omega, by rw [Hid, hx.out, HG.out]; omega⟩
        case measure => simp [intOf]; omega
      · have HG := Lib.hid (HS.out.trans (if_neg hg))
        have hg' : goesB s[k].toNat = false := by simpa using hg
        clear hg
        go_wp2_with (go_at_call 130; refine (goes_r _ _ hb.1 hb.2).mono ?_; rintro e w' ⟨rfl, rfl⟩)
        go_ret
        exact ⟨ret_int (by rw [hx.out, HG.out]; simp), rfl⟩
    · go_wp2_with fail
      go_ret
      exact ⟨ret_int (by rw [hx.out, List.drop_of_length_le (by rw [HL.out]; omega)]; simp [runL]), rfl⟩

theorem name_r (s : ByteArray) (w : World) (hs : s.size ≤ maxLen) : Calls Try.prog 67 #[.string s] w fun e w' => e = .returned (.bool (nameL s.data.toList)) ∧ w = w' := by
  have hlen : s.data.toList.length = s.size := by simp
  have HT := Lib.hid (show nameL s.data.toList = (startsL s.data.toList && decide ((runL s.data.toList : Int) = s.size) && decide (s.size ≤ 32)) by
    unfold nameL; rw [hlen]; congr 2
    rw [Bool.eq_iff_iff, ← runL_all, hlen]; simp; omega)
  clear hlen
  go_enter Try.func67, Try.ntmps67
  go_wp2_with (first
    | (go_at_call 73; refine (starts_r _ _ hs).mono ?_; rintro e w' ⟨rfl, rfl⟩)
    | (go_at_call 90; refine (run_r _ _ hs).mono ?_; rintro e w' ⟨rfl, rfl⟩))
  all_goals
    go_ret
    exact ⟨ret_bool (by rw [HT.out, Bool.eq_iff_iff]; simp_all <;> omega), rfl⟩

end Go.Proofs.Ytijmldgdcknbnaa
