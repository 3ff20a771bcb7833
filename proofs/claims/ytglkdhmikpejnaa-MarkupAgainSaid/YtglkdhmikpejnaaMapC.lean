/-
  Lemmas for MarkupAgain, part 3; no conditions.
-/
import Derived.Test.YtglkdhmikpejnaaProg
import Derived.Deep.Heap
import Derived.ScopeJumps
import Derived.Test.YtglkdhmikpejnaaMapB
set_option linter.unusedVariables false
set_option linter.unusedSimpArgs false
set_option linter.unusedSectionVars false
namespace Go.Proofs.Ytglkdhmikpejnaa
open Go.RowKit Pl
theorem begins_p (c : Int) (w : World) (h0 : 0 ≤ c) (h1 : c ≤ 255) : Calls Try.prog 73 #[.int .u8 c] w fun e w' => e = .returned (.bool (begB c)) ∧ w = w' := by
  go_enter Try.func73, Try.ntmps73
  go_wp2
  all_goals
    go_ret
    exact ⟨ret_bool (by unfold begB; rw [Bool.eq_iff_iff]; simp_all <;> omega), rfl⟩
theorem begins_r (c : Int) (w : World) (h0 : 0 ≤ c) (h1 : c ≤ 255) : Calls Try.prog 70 #[.int .u8 c] w fun e w' => e = .returned (.bool (begB c)) ∧ w = w' := by
  go_enter Try.func70, Try.ntmps70
  go_wp2
  all_goals
    go_ret
    exact ⟨ret_bool (by unfold begB; rw [Bool.eq_iff_iff]; simp_all <;> omega), rfl⟩
theorem goes_p (c : Int) (w : World) (h0 : 0 ≤ c) (h1 : c ≤ 255) : Calls Try.prog 74 #[.int .u8 c] w fun e w' => e = .returned (.bool (goesB c)) ∧ w = w' := by
  go_enter Try.func74, Try.ntmps74
  go_wp2_with (go_at_call 73; refine (begins_p _ _ h0 h1).mono ?_; rintro e w' ⟨rfl, rfl⟩)
  all_goals
    go_ret
    exact ⟨ret_bool (by unfold goesB; rw [Bool.eq_iff_iff]; simp_all <;> omega), rfl⟩
theorem goes_r (c : Int) (w : World) (h0 : 0 ≤ c) (h1 : c ≤ 255) : Calls Try.prog 71 #[.int .u8 c] w fun e w' => e = .returned (.bool (goesB c)) ∧ w = w' := by
  go_enter Try.func71, Try.ntmps71
  go_wp2_with (go_at_call 70; refine (begins_r _ _ h0 h1).mono ?_; rintro e w' ⟨rfl, rfl⟩)
  all_goals
    go_ret
    exact ⟨ret_bool (by unfold goesB; rw [Bool.eq_iff_iff]; simp_all <;> omega), rfl⟩
theorem u8_bd (c : UInt8) : (0 : Int) ≤ (c.toNat : Int) ∧ (c.toNat : Int) ≤ 255 := by have := c.toNat_lt; omega
set_option maxHeartbeats 400000 in
theorem text_p (s : ByteArray) (w : World) (hs : s.size ≤ maxLen) : Calls Try.prog 59 #[.string s] w fun e w' => e = .returned (.bool (textL s.data.toList)) ∧ w = w' := by
  unfold maxLen at hs
  have hlen : s.data.toList.length = s.size := by simp
  have HL := Lib.hid hlen; clear hlen
  have HT := Lib.hid (show textL s.data.toList = (s.data.toList.all (fun c => wordB c.toNat) && decide (s.size ≤ 256)) by unfold textL; rw [HL.out])
  go_enter Try.func59, Try.ntmps59
  go_wp2
  go_loop [6] (fun t => ∃ k : Nat, t = .int .i64 k ∧ k ≤ s.size ∧ Hid ((s.data.toList.take k).all (fun c => wordB c.toNat) = true)) (fun t => s.size - (intOf t).toNat)
  case atStart => exact ⟨0, rfl, Nat.zero_le _, rfl⟩
  case round =>
    obtain ⟨k, rfl, hk, hx⟩ := hrel
    by_cases hlt : k < s.size
    · have hb := u8_bd s[k]
      have HS := Lib.hid (show (wordB s[k].toNat = true → (s.data.toList.take (k + 1)).all (fun c => wordB c.toNat) = true) ∧ (wordB s[k].toNat = false → s.data.toList.all (fun c => wordB c.toNat) = false) from
        all_step (fun c : UInt8 => wordB c.toNat) s.data.toList k (by rw [HL.out]; exact hlt) hx.out)
      by_cases h1 : (s[k].toNat : Int) < 32
      · have HW := Lib.hid (show wordB s[k].toNat = false by unfold wordB; simp; omega)
        go_wp2
        go_ret
        exact ⟨ret_bool (by rw [HT.out, HS.out.2 HW.out]; rfl), rfl⟩
      · by_cases h2 : (s[k].toNat : Int) = 34
        · have HW := Lib.hid (show wordB s[k].toNat = false by unfold wordB; rw [h2]; decide)
          have h2' : ((s[k].toNat : Int) == 34) = true := by simpa using h2
          clear h2
          go_wp2
          go_ret
          exact ⟨ret_bool (by rw [HT.out, HS.out.2 HW.out]; rfl), rfl⟩
        · have HW := Lib.hid (show wordB s[k].toNat = true by unfold wordB; simp; omega)
          have h2' : ((s[k].toNat : Int) == 34) = false := by simpa using h2
          clear h2
          go_wp2
          go_round
          case rel => exact ⟨k + 1, by go_num, by omega, HS.out.1 HW.out⟩
          case measure => simp [intOf]; omega
    · go_wp2
      go_ret
      exact ⟨ret_bool (by rw [HT.out, ← List.take_of_length_le (l := s.data.toList) (i := k) (by rw [HL.out]; omega), hx.out]; simp; omega), rfl⟩
set_option maxHeartbeats 400000 in
theorem text_r (s : ByteArray) (w : World) (hs : s.size ≤ maxLen) : Calls Try.prog 28 #[.string s] w fun e w' => e = .returned (.bool (textL s.data.toList)) ∧ w = w' := by
  unfold maxLen at hs
  have hlen : s.data.toList.length = s.size := by simp
  have HL := Lib.hid hlen; clear hlen
  have HT := Lib.hid (show textL s.data.toList = (s.data.toList.all (fun c => wordB c.toNat) && decide (s.size ≤ 256)) by unfold textL; rw [HL.out])
  go_enter Try.func28, Try.ntmps28
  go_wp2
  go_loop [3] (fun t => ∃ k : Nat, t = .int .i64 k ∧ k ≤ s.size ∧ Hid ((s.data.toList.take k).all (fun c => wordB c.toNat) = true)) (fun t => s.size - (intOf t).toNat)
  case atStart => exact ⟨0, rfl, Nat.zero_le _, rfl⟩
  case round =>
    obtain ⟨k, rfl, hk, hx⟩ := hrel
    by_cases hlt : k < s.size
    · have hb := u8_bd s[k]
      have HS := Lib.hid (show (wordB s[k].toNat = true → (s.data.toList.take (k + 1)).all (fun c => wordB c.toNat) = true) ∧ (wordB s[k].toNat = false → s.data.toList.all (fun c => wordB c.toNat) = false) from
        all_step (fun c : UInt8 => wordB c.toNat) s.data.toList k (by rw [HL.out]; exact hlt) hx.out)
      by_cases h1 : (s[k].toNat : Int) < 32
      · have HW := Lib.hid (show wordB s[k].toNat = false by unfold wordB; simp; omega)
        go_wp2
        go_ret
        exact ⟨ret_bool (by rw [HT.out, HS.out.2 HW.out]; rfl), rfl⟩
      · by_cases h2 : (s[k].toNat : Int) = 34
        · have HW := Lib.hid (show wordB s[k].toNat = false by unfold wordB; rw [h2]; decide)
          have h2' : ((s[k].toNat : Int) == 34) = true := by simpa using h2
          clear h2
          go_wp2
          go_ret
          exact ⟨ret_bool (by rw [HT.out, HS.out.2 HW.out]; rfl), rfl⟩
        · have HW := Lib.hid (show wordB s[k].toNat = true by unfold wordB; simp; omega)
          have h2' : ((s[k].toNat : Int) == 34) = false := by simpa using h2
          clear h2
          go_wp2
          go_round
          case rel => exact ⟨k + 1, by go_num, by omega, HS.out.1 HW.out⟩
          case measure => simp [intOf]; omega
    · go_wp2
      go_ret
      exact ⟨ret_bool (by rw [HT.out, ← List.take_of_length_le (l := s.data.toList) (i := k) (by rw [HL.out]; omega), hx.out]; simp; omega), rfl⟩
theorem int_beq (a b : Int) : (a == b) = decide (a = b) := by rw [Bool.eq_iff_iff]; simp
theorem size_zero {s : ByteArray} (h : s.size = 0) : s = ByteArray.empty := by
  cases s with | mk d =>
  show (⟨d⟩ : ByteArray) = ⟨#[]⟩
  congr 1
  exact Array.eq_empty_of_size_eq_zero h
theorem starts_nil {s : ByteArray} (h : s.size = 0) : startsL s.data.toList = false := by
  have : s.data.toList = [] := List.eq_nil_of_length_eq_zero (by simpa using h)
  rw [this]; rfl
theorem starts_one {s : ByteArray} (h : s.size = 1) : startsL s.data.toList = (!decide ((s[0].toNat : Int) = 45) && begB s[0].toNat) := by
  have e : s.data.toList = [s[0]] := by
    have hl : s.data.toList.length = 1 := by simpa using h
    match hd : s.data.toList, hl with
    | [c], _ =>
      have : s[0] = s.data.toList[0]'(by simp; omega) := rfl
      rw [this]; simp [hd]
  rw [e]; rfl
theorem starts_more {s : ByteArray} (h : 1 < s.size) : startsL s.data.toList = if (s[0].toNat : Int) = 45 then begB s[1].toNat || decide ((s[1].toNat : Int) = 45) else begB s[0].toNat := by
  have e : ∃ r, s.data.toList = s[0] :: s[1] :: r := by
    have hl : 1 < s.data.toList.length := by simpa using h
    have key : ∀ (l : List UInt8) (hl : 1 < l.length), ∃ r, l = l[0] :: l[1] :: r := fun l hl => by
      match l, hl with
      | c :: d :: r, _ => exact ⟨r, rfl⟩
    exact key s.data.toList hl
  obtain ⟨r, e⟩ := e
  rw [e]; rfl
set_option maxHeartbeats 1000000 in
theorem name_p (s : ByteArray) (w : World) (hs : s.size ≤ maxLen) : Calls Try.prog 63 #[.string s] w fun e w' => e = .returned (.bool (nameL s.data.toList)) ∧ w = w' := by
  unfold maxLen at hs
  have hlen : s.data.toList.length = s.size := by simp
  have HL := Lib.hid hlen; clear hlen
  have HT := Lib.hid (show nameL s.data.toList = (startsL s.data.toList && s.data.toList.all (fun c => goesB c.toNat) && decide (s.size ≤ 32)) by unfold nameL; rw [HL.out])
  by_cases he : s.toList.isEmpty = true
  · have h0 : s.size = 0 := by rw [str_emp] at he; have := of_decide_eq_true he; rw [this]; rfl
    have HF := Lib.hid (starts_nil h0)
    go_enter Try.func63, Try.ntmps63
    go_wp2_with fail
    go_ret
    exact ⟨ret_bool (by rw [HT.out, HF.out]; rfl), rfl⟩
  have he' : s.toList.isEmpty = false := by simpa using he
  have h0 : 0 < s.size := by
    rcases Nat.eq_zero_or_pos s.size with h | h
    · exfalso; apply he
      rw [str_emp]
      have : s = ⟨#[]⟩ := size_zero h
      simp [this]
    · exact h
  clear he
  by_cases h32 : 32 < s.size
  · go_enter Try.func63, Try.ntmps63
    go_wp2_with fail
    go_ret
    exact ⟨ret_bool (by rw [HT.out]; simp; omega), rfl⟩
  have h32' : s.size ≤ 32 := by omega
  clear h32
  have b0 := u8_bd s[0]
  have hcases : (∃ h1 : s.size = 1, ((s[0].toNat : Int) == 45) = true ∧ Hid (startsL s.data.toList = false)) ∨
      (∃ h1 : 1 < s.size, ((s[0].toNat : Int) == 45) = true ∧ begB s[1].toNat = false ∧ ((s[1].toNat : Int) == 45) = false ∧ Hid (startsL s.data.toList = false)) ∨
      (((s[0].toNat : Int) == 45) = false ∧ begB s[0].toNat = false ∧ Hid (startsL s.data.toList = false)) ∨
      (∃ h1 : 1 < s.size, ((s[0].toNat : Int) == 45) = true ∧ begB s[1].toNat = true ∧ Hid (startsL s.data.toList = true)) ∨
      (∃ h1 : 1 < s.size, ((s[0].toNat : Int) == 45) = true ∧ begB s[1].toNat = false ∧ ((s[1].toNat : Int) == 45) = true ∧ Hid (startsL s.data.toList = true)) ∨
      (((s[0].toNat : Int) == 45) = false ∧ begB s[0].toNat = true ∧ Hid (startsL s.data.toList = true)) := by
    by_cases h1 : s.size = 1
    · have hs1 := starts_one h1
      by_cases h45 : (s[0].toNat : Int) = 45
      · exact .inl ⟨h1, by simpa using h45, by rw [Hid, hs1]; simp [h45]⟩
      · by_cases hb : begB s[0].toNat = true
        · exact .inr (.inr (.inr (.inr (.inr ⟨by simpa using h45, hb, by rw [Hid, hs1, hb]; simpa using h45⟩))))
        · exact .inr (.inr (.inl ⟨by simpa using h45, by simpa using hb, by rw [Hid, hs1]; simp [hb]⟩))
    · have h2 : 1 < s.size := by omega
      have hs1 := starts_more h2
      by_cases h45 : (s[0].toNat : Int) = 45
      · rw [if_pos h45] at hs1
        by_cases hb : begB s[1].toNat = true
        · exact .inr (.inr (.inr (.inl ⟨h2, by simpa using h45, hb, by rw [Hid, hs1, hb]; rfl⟩)))
        · by_cases h5 : (s[1].toNat : Int) = 45
          · exact .inr (.inr (.inr (.inr (.inl ⟨h2, by simpa using h45, by simpa using hb, by simpa using h5, by rw [Hid, hs1]; simp [h5]⟩))))
          · exact .inr (.inl ⟨h2, by simpa using h45, by simpa using hb, by simpa using h5, by rw [Hid, hs1]; simp [hb]; simpa using h5⟩)
      · rw [if_neg h45] at hs1
        by_cases hb : begB s[0].toNat = true
        · exact .inr (.inr (.inr (.inr (.inr ⟨by simpa using h45, hb, by rw [Hid, hs1, hb]⟩))))
        · exact .inr (.inr (.inl ⟨by simpa using h45, by simpa using hb, by rw [Hid, hs1]; simpa using hb⟩))
  rcases hcases with ⟨h1, q0, HF⟩ | ⟨h1, q0, q1, q2, HF⟩ | ⟨q0, q1, HF⟩ | ⟨h1, q0, q1, HF⟩ | ⟨h1, q0, q1, q2, HF⟩ | ⟨q0, q1, HF⟩
  · have h1' := Nat.le_of_eq h1
    clear h1
    go_enter Try.func63, Try.ntmps63
    go_wp2_with fail
    go_ret
    exact ⟨ret_bool (by rw [HT.out, HF.out]; rfl), rfl⟩
  · have b1 := u8_bd s[1]
    have z1 : ((s.size : Int) == 1) = false := by simp; omega
    have z2 : ((s[1].toNat : Int) != 45) = true := by simp only [bne, q2]; rfl
    go_enter Try.func63, Try.ntmps63
    go_wp2_with (go_at_call 73; refine (begins_p _ _ b1.1 b1.2).mono ?_; rintro e w' ⟨rfl, rfl⟩)
    go_ret
    exact ⟨ret_bool (by rw [HT.out, HF.out]; rfl), rfl⟩
  · go_enter Try.func63, Try.ntmps63
    go_wp2_with (go_at_call 73; refine (begins_p _ _ b0.1 b0.2).mono ?_; rintro e w' ⟨rfl, rfl⟩)
    go_ret
    exact ⟨ret_bool (by rw [HT.out, HF.out]; rfl), rfl⟩
  all_goals
    have z0 : decide ((32 : Int) < (s.size : Int)) = false := by simp; omega
    (try have z1 : ((s.size : Int) == 1) = false := by simp; omega)
    (try have z2 : ((s[1].toNat : Int) != 45) = false := by simp only [bne, q2]; rfl)
    first
      | (have b1 := u8_bd s[1]
         go_enter Try.func63, Try.ntmps63
         go_wp2_with (go_at_call 73; refine (begins_p _ _ b1.1 b1.2).mono ?_; rintro e w' ⟨rfl, rfl⟩))
      | (go_enter Try.func63, Try.ntmps63
         go_wp2_with (go_at_call 73; refine (begins_p _ _ b0.1 b0.2).mono ?_; rintro e w' ⟨rfl, rfl⟩))
    go_loop [34] (fun t => ∃ k : Nat, t = .int .i64 k ∧ k ≤ s.size ∧ Hid ((s.data.toList.take k).all (fun c => goesB c.toNat) = true)) (fun t => s.size - (intOf t).toNat)
    case atStart => exact ⟨0, rfl, Nat.zero_le _, rfl⟩
    case round =>
      obtain ⟨k, rfl, hk, hx⟩ := hrel
      by_cases hlt : k < s.size
      · have hb := u8_bd s[k]
        have HS := Lib.hid (show (goesB s[k].toNat = true → (s.data.toList.take (k + 1)).all (fun c => goesB c.toNat) = true) ∧ (goesB s[k].toNat = false → s.data.toList.all (fun c => goesB c.toNat) = false) from
          all_step (fun c : UInt8 => goesB c.toNat) s.data.toList k (by rw [HL.out]; exact hlt) hx.out)
        by_cases hg : goesB s[k].toNat = true
        · go_wp2_with (go_at_call 74; refine (goes_p _ _ hb.1 hb.2).mono ?_; rintro e w' ⟨rfl, rfl⟩)
          go_round
          case rel => exact ⟨k + 1, by go_num, by omega, HS.out.1 hg⟩
          case measure => simp [intOf]; omega
        · have hg' : goesB s[k].toNat = false := by simpa using hg
          clear hg
          go_wp2_with (go_at_call 74; refine (goes_p _ _ hb.1 hb.2).mono ?_; rintro e w' ⟨rfl, rfl⟩)
          go_ret
          exact ⟨ret_bool (by rw [HT.out, HS.out.2 hg']; simp), rfl⟩
      · go_wp2_with fail
        go_ret
        exact ⟨ret_bool (by rw [HT.out, HF.out, ← List.take_of_length_le (l := s.data.toList) (i := k) (by rw [HL.out]; omega), hx.out]; simp; omega), rfl⟩
theorem starts_r (s : ByteArray) (w : World) (hs : s.size ≤ maxLen) : Calls Try.prog 51 #[.string s, .int .i64 0] w fun e w' => e = .returned (.bool (startsL s.data.toList)) ∧ w = w' := by
  unfold maxLen at hs
  by_cases h0 : s.size = 0
  · have HF := Lib.hid (starts_nil h0)
    obtain rfl : s = ByteArray.empty := size_zero h0
    clear h0
    go_enter Try.func51, Try.ntmps51
    go_wp2_with fail
    go_ret
    exact ⟨ret_bool (by rw [HF.out]), rfl⟩
  have h0p : 0 < s.size := by omega
  have hE : ¬ s = ByteArray.empty := fun e => h0 (by rw [e]; rfl)
  clear h0
  have b0 := u8_bd s[0]
  by_cases h1 : s.size = 1
  · have HF : Hid (startsL s.data.toList = (!decide ((s[0].toNat : Int) = 45) && begB s[0].toNat)) := starts_one h1
    have h1' := Nat.le_of_eq h1
    clear h1
    by_cases h45 : (s[0].toNat : Int) = 45
    · have q0 : ((s[0].toNat : Int) == 45) = true := by simpa using h45
      have HQ := Lib.hid h45; clear h45
      go_enter Try.func51, Try.ntmps51
      go_wp2_with fail
      go_ret
      exact ⟨ret_bool (by rw [HF.out, HQ.out]; rfl), rfl⟩
    · have q0 : ((s[0].toNat : Int) == 45) = false := by simpa using h45
      have HQ := Lib.hid h45; clear h45
      go_enter Try.func51, Try.ntmps51
      go_wp2_with (go_at_call 70; refine (begins_r _ _ b0.1 b0.2).mono ?_; rintro e w' ⟨rfl, rfl⟩)
      go_ret
      exact ⟨ret_bool (by rw [HF.out, decide_eq_false HQ.out]; rfl), rfl⟩
  · have h2 : 1 < s.size := by omega
    have HF := Lib.hid (starts_more h2)
    clear h1
    have b1 := u8_bd s[1]
    by_cases h45 : (s[0].toNat : Int) = 45
    · have q0 : ((s[0].toNat : Int) == 45) = true := by simpa using h45
      have HQ := Lib.hid h45; clear h45
      go_enter Try.func51, Try.ntmps51
      go_wp2_with (go_at_call 70; refine (begins_r _ _ b1.1 b1.2).mono ?_; rintro e w' ⟨rfl, rfl⟩)
      all_goals
        go_ret
        exact ⟨ret_bool (by rw [HF.out, if_pos HQ.out]; clear HF HQ q0 hE; simp_all [int_beq]), rfl⟩
    · have q0 : ((s[0].toNat : Int) == 45) = false := by simpa using h45
      have HQ := Lib.hid h45; clear h45
      go_enter Try.func51, Try.ntmps51
      go_wp2_with (go_at_call 70; refine (begins_r _ _ b0.1 b0.2).mono ?_; rintro e w' ⟨rfl, rfl⟩)
      go_ret
      exact ⟨ret_bool (by rw [HF.out, if_neg HQ.out]), rfl⟩
theorem runL_drop (l : List UInt8) (k : Nat) (hk : k < l.length) : runL (l.drop k) = if goesB l[k].toNat then runL (l.drop (k + 1)) + 1 else 0 := by
  rw [drop_step l k hk]; rfl
theorem run_r (s : ByteArray) (w : World) (hs : s.size ≤ maxLen) : Calls Try.prog 52 #[.string s, .int .i64 0] w fun e w' => e = .returned (.int .i64 (runL s.data.toList)) ∧ w = w' := by
  unfold maxLen at hs
  have hlen : s.data.toList.length = s.size := by simp
  have HL := Lib.hid hlen; clear hlen
  go_enter Try.func52, Try.ntmps52
  go_wp2_with fail
  go_loop [1, 5] (fun t n => ∃ k : Nat, t = .int .i64 k ∧ n = .int .i64 k ∧ k ≤ s.size ∧ Hid (runL s.data.toList = k + runL (s.data.toList.drop k))) (fun t _ => s.size - (intOf t).toNat)
  case atStart => exact ⟨0, rfl, rfl, Nat.zero_le _, by rw [Hid]; simp⟩
  case round =>
    obtain ⟨k, rfl, rfl, hk, hx⟩ := hrel
    by_cases hlt : k < s.size
    · have hb := u8_bd s[k]
      have HS := Lib.hid (show runL (s.data.toList.drop k) = if goesB s[k].toNat then runL (s.data.toList.drop (k + 1)) + 1 else 0 from runL_drop s.data.toList k (by rw [HL.out]; exact hlt))
      by_cases hg : goesB s[k].toNat = true
      · have HG := Lib.hid (HS.out.trans (if_pos hg))
        go_wp2_with (go_at_call 71; refine (goes_r _ _ hb.1 hb.2).mono ?_; rintro e w' ⟨rfl, rfl⟩)
        go_round
        case rel => exact ⟨k + 1, by go_num, by go_num, by omega, by rw [Hid, hx.out, HG.out]; omega⟩
        case measure => simp [intOf]; omega
      · have HG := Lib.hid (HS.out.trans (if_neg hg))
        have hg' : goesB s[k].toNat = false := by simpa using hg
        clear hg
        go_wp2_with (go_at_call 71; refine (goes_r _ _ hb.1 hb.2).mono ?_; rintro e w' ⟨rfl, rfl⟩)
        go_ret
        exact ⟨ret_int (by rw [hx.out, HG.out]; simp), rfl⟩
    · go_wp2_with fail
      go_ret
      exact ⟨ret_int (by rw [hx.out, List.drop_of_length_le (by rw [HL.out]; omega)]; simp [runL]), rfl⟩
theorem name_r (s : ByteArray) (w : World) (hs : s.size ≤ maxLen) : Calls Try.prog 29 #[.string s] w fun e w' => e = .returned (.bool (nameL s.data.toList)) ∧ w = w' := by
  have hlen : s.data.toList.length = s.size := by simp
  have HT := Lib.hid (show nameL s.data.toList = (startsL s.data.toList && decide ((runL s.data.toList : Int) = s.size) && decide (s.size ≤ 32)) by
    unfold nameL; rw [hlen]; congr 2
    rw [Bool.eq_iff_iff, ← runL_all, hlen]; simp; omega)
  clear hlen
  go_enter Try.func29, Try.ntmps29
  go_wp2_with (first
    | (go_at_call 51; refine (starts_r _ _ hs).mono ?_; rintro e w' ⟨rfl, rfl⟩)
    | (go_at_call 52; refine (run_r _ _ hs).mono ?_; rintro e w' ⟨rfl, rfl⟩))
  all_goals
    go_ret
    exact ⟨ret_bool (by rw [HT.out, Bool.eq_iff_iff]; simp_all <;> omega), rfl⟩
end Go.Proofs.Ytglkdhmikpejnaa
namespace Go.Proofs.Ytglkdhmikpejnaa
open Go Go.RowKit Pl Sy
def strCells (y : ByteArray) : List Value := [.string y]
def attrNone : AttrV := ⟨⟨#[]⟩, ⟨#[]⟩⟩
abbrev Sy.cview (l : List ByteArray) : AV := viewOf strCells ⟨#[]⟩ 1 l
abbrev Sy.aview (l : List AttrV) : AV := viewOf AttrV.cells attrNone 2 l
def lacksB (s : ByteArray) : Bool := !nameL s.data.toList
def oddB (t : AttrV) : Bool := !nameL t.name.data.toList || !textL t.value.data.toList
noncomputable abbrev Sy.cName : Con Try.prog := str1 63 (fun s => boo (nameL s.data.toList)) (fun s => s.size ≤ maxLen) (fun _ => trivial) fun s h => old (us := [.string s]) (fun w => name_p s w h)
noncomputable abbrev Sy.cText : Con Try.prog := str1 59 (fun s => boo (textL s.data.toList)) (fun s => s.size ≤ maxLen) (fun _ => trivial) fun s h => old (us := [.string s]) (fun w => text_p s w h)
theorem Sy.lacks_t (s : ByteArray) (h : s.size ≤ maxLen) : CallTo Try.prog 65 [.lit (.string s)] M0 fun v _ => v = boo (lacksB s) :=
  toV [cName] [] 400 30 (.yes .done) (.need (@isSo ((@ByteArray.size s) ≤ 9223372036854775807)) (.leaf (boo (!(@Pl.nameL (@Array.toList _ (@ByteArray.data s))))))) (by kernel_rfl) (need_so h rfl)
noncomputable abbrev Sy.cLacks : Con Try.prog := str1 65 (fun s => boo (lacksB s)) (fun s => s.size ≤ maxLen) (fun _ => trivial) lacks_t
abbrev Sy.attrA (t : AttrV) : AV := .agg [.lit (.string t.name), .lit (.string t.value)]
def AttrV.Ok (t : AttrV) : Prop := t.name.size ≤ maxLen ∧ t.value.size ≤ maxLen
theorem Sy.odd_t (t : AttrV) (h : t.Ok) : CallTo Try.prog 67 [attrA t] M0 fun v _ => v = boo (oddB t) :=
  toV [cName, cText] [] 400 30 (.yes (.br (.auto 1 (.yes (.auto 1 .done))) (.auto 3 .done))) (.need (@isSo ((@ByteArray.size (t).name) ≤ 9223372036854775807)) (.fork (!(!(@Pl.nameL (@Array.toList _ (@ByteArray.data (t).name))))) (.need (@isSo ((@ByteArray.size (t).value) ≤ 9223372036854775807)) (.leaf (boo (!(@Pl.textL (@Array.toList _ (@ByteArray.data (t).value))))))) (.leaf (boo true)))) (by kernel_rfl) (by
    unfold oddB
    refine need_so h.1 (fork_ok (fun h1 => need_so h.2 ?_) (fun h1 => ?_))
    · have h1' : nameL t.name.data.toList = true := by simpa using h1
      rw [h1']; exact rfl
    · have h1' : nameL t.name.data.toList = false := by simpa using h1
      rw [h1']; exact rfl)
noncomputable abbrev Sy.cOdd : Con Try.prog := atX 67 (fun args => match args with | [.agg [.lit (.string a), .lit (.string c)]] => some (⟨a, c⟩ : AttrV) | _ => none) (fun t => [attrA t]) (fun t => boo (oddB t)) AttrV.Ok fun t h => ⟨⟨⟨⟨trivial, trivial, trivial⟩, trivial⟩, trivial⟩, odd_t t h⟩
namespace Sy
abbrev csF (xs : List ByteArray) (k j : Int) : Fr := (some ((@AV.view (xs).length 1 (fun x115417 => (fun x92921 => (@AV.lit ([(@Value.string (xs.getD x115417 (@ByteArray.mk (@Array.mk _ []))))].getD x92921 (@Value.tuple (@Array.mk _ [])))))))) :: some ((@AV.fn (@Fn.func 65) [] [])) :: none :: none :: some (int j) :: none :: some ((@AV.view (xs).length 1 (fun x105836 => (fun x247643 => (@AV.lit ([(@Value.string (xs.getD x105836 (@ByteArray.mk (@Array.mk _ []))))].getD x247643 (@Value.tuple (@Array.mk _ [])))))))) :: some ((int (((xs).length : Nat) : Int))) :: some (int k) :: (nn10 []))
abbrev ctF (xs : List AttrV) (k j : Int) : Fr := (some ((@AV.view (xs).length 2 (fun x115417 => (fun x92921 => (@AV.lit ([(@Value.string ((xs.getD x115417 attrNone)).name), (@Value.string ((xs.getD x115417 attrNone)).value)].getD x92921 (@Value.tuple (@Array.mk _ [])))))))) :: some ((@AV.fn (@Fn.func 67) [] [])) :: none :: none :: some (int j) :: none :: some ((@AV.view (xs).length 2 (fun x105836 => (fun x247643 => (@AV.lit ([(@Value.string ((xs.getD x105836 attrNone)).name), (@Value.string ((xs.getD x105836 attrNone)).value)].getD x247643 (@Value.tuple (@Array.mk _ [])))))))) :: some ((int (((xs).length : Nat) : Int))) :: some (int k) :: (nn10 []))
abbrev csE (xs : List ByteArray) (j : Int) : Fr := (some ((@AV.view (xs).length 1 (fun x115417 => (fun x92921 => (@AV.lit ([(@Value.string (xs.getD x115417 (@ByteArray.mk (@Array.mk _ []))))].getD x92921 (@Value.tuple (@Array.mk _ [])))))))) :: some ((@AV.fn (@Fn.func 65) [] [])) :: none :: none :: some (int j) :: none :: some ((@AV.view (xs).length 1 (fun x105836 => (fun x247643 => (@AV.lit ([(@Value.string (xs.getD x105836 (@ByteArray.mk (@Array.mk _ []))))].getD x247643 (@Value.tuple (@Array.mk _ [])))))))) :: some ((int (((xs).length : Nat) : Int))) :: (nn11 []))
abbrev ctE (xs : List AttrV) (j : Int) : Fr := (some ((@AV.view (xs).length 2 (fun x115417 => (fun x92921 => (@AV.lit ([(@Value.string ((xs.getD x115417 attrNone)).name), (@Value.string ((xs.getD x115417 attrNone)).value)].getD x92921 (@Value.tuple (@Array.mk _ [])))))))) :: some ((@AV.fn (@Fn.func 67) [] [])) :: none :: none :: some (int j) :: none :: some ((@AV.view (xs).length 2 (fun x105836 => (fun x247643 => (@AV.lit ([(@Value.string ((xs.getD x105836 attrNone)).name), (@Value.string ((xs.getD x105836 attrNone)).value)].getD x247643 (@Value.tuple (@Array.mk _ [])))))))) :: some ((int (((xs).length : Nat) : Int))) :: (nn11 []))
end Sy
def StrsOk (xs : List ByteArray) : Prop := xs.length ≤ 17592186044416 ∧ ∀ s ∈ xs, s.size ≤ maxLen
def AttrsOk (xs : List AttrV) : Prop := xs.length ≤ 17592186044416 ∧ ∀ t ∈ xs, t.Ok
theorem Sy.cs_scan (xs : List ByteArray) (hx : StrsOk xs) : LoopTo Try.prog (theBody Try.prog 75 3) (xs.length + 1) (csF xs 0 0) M0 fun ex F' M' => M' = M0 ∧ ((0 ≤ idxF lacksB xs 0 ∧ ex = .ret ∧ F' = csF xs (idxF lacksB xs 0) (idxF lacksB xs 0)) ∨ (idxF lacksB xs 0 = -1 ∧ ex = .exit 0 ∧ F' = csF xs xs.length 0)) :=
  scan xs lacksB ⟨#[]⟩ (fun k => csF xs k 0) (fun k => csF xs k k) M0 fun k n G h0 h1 c1 c2 c3 => by
    refine roundL [cLacks] [] 400 30 75 3 Try.func75 rfl (by kernel_rfl) (true :: true :: false :: false :: true :: false :: true :: true :: true :: (ff10 [])) (.br (.yes (.yes (.br .done .done))) .done) (let e1 := (@ByteArray.mk (@Array.mk _ [])); let e2 := (some (@AV.view (xs).length 1 (fun y0 => (fun y1 => (@AV.lit ([(@Value.string (xs.getD y0 e1))].getD y1 (@Value.tuple (@Array.mk _ [])))))))); let e3 := (some (@AV.fn (@Fn.func 65) [] [])); let e4 := (some (int (((xs).length : Nat) : Int))); (.fork (!(leI (((xs).length : Nat) : Int) k)) (.need (@inR k (xs).length) (.need (@isSo ((@ByteArray.size (xs.getD (k).toNat e1)) ≤ 9223372036854775807)) (.fork (@lacksB (xs.getD (k).toNat e1)) (.leaf (Ex.ret, ((e2 :: e3 :: none :: none :: (some (int k)) :: none :: e2 :: e4 :: (some (int k)) :: (nn10 [])), (@Mem.mk 0 0 [])))) (.leaf (Ex.norm, ((e2 :: e3 :: none :: none :: (some (int (0 : Int))) :: none :: e2 :: e4 :: (some (int (w64 (k + (1 : Int))))) :: (nn10 [])), (@Mem.mk 0 0 []))))))) (.leaf ((@Ex.exit 0), ((e2 :: e3 :: none :: none :: (some (int (0 : Int))) :: none :: e2 :: e4 :: (some (int k)) :: (nn10 [])), (@Mem.mk 0 0 [])))))) (by kernel_rfl) ?_
    have hl := hx.1
    refine fork_ok (fun h => ?_) (fun h => ?_)
    · simp only [Bool.not_eq_true', Bool.not_eq_false', leI_t, leI_f, eqI_t, eqI_f, inR_t, inR_f, isSo_t, isSo_f] at h
      have hr : inR k xs.length = true := by rw [inR_t]; omega
      refine need_t hr (need_so (hx.2 _ (getD_mem xs k _ h0 (by omega))) (fork_ok (fun h2 => c2 (by omega) h2) (fun h2 => ?_)))
      rw [w64_in (r := k + 1) (by omega)]
      exact c1 (by omega) h2
    · simp only [Bool.not_eq_true', Bool.not_eq_false', leI_t, leI_f, eqI_t, eqI_f, inR_t, inR_f, isSo_t, isSo_f] at h
      exact c3 (by omega)
theorem Sy.ct_scan (xs : List AttrV) (hx : AttrsOk xs) : LoopTo Try.prog (theBody Try.prog 76 3) (xs.length + 1) (ctF xs 0 0) M0 fun ex F' M' => M' = M0 ∧ ((0 ≤ idxF oddB xs 0 ∧ ex = .ret ∧ F' = ctF xs (idxF oddB xs 0) (idxF oddB xs 0)) ∨ (idxF oddB xs 0 = -1 ∧ ex = .exit 0 ∧ F' = ctF xs xs.length 0)) :=
  scan xs oddB attrNone (fun k => ctF xs k 0) (fun k => ctF xs k k) M0 fun k n G h0 h1 c1 c2 c3 => by
    refine roundL [cOdd] [] 400 30 76 3 Try.func76 rfl (by kernel_rfl) (true :: true :: false :: false :: true :: false :: true :: true :: true :: (ff10 [])) (.br (.yes (.yes (.br .done .done))) .done) (let e1 := (@AV.agg [(@AV.lit (@Value.string ((xs.getD (k).toNat attrNone)).name)), (@AV.lit (@Value.string ((xs.getD (k).toNat attrNone)).value))]); let e2 := (some (@AV.view (xs).length 2 (fun y0 => (fun y1 => (@AV.lit ([(@Value.string ((xs.getD y0 attrNone)).name), (@Value.string ((xs.getD y0 attrNone)).value)].getD y1 (@Value.tuple (@Array.mk _ [])))))))); let e3 := (some (@AV.fn (@Fn.func 67) [] [])); let e4 := (some (int (((xs).length : Nat) : Int))); (.fork (!(leI (((xs).length : Nat) : Int) k)) (.need (@inR k (xs).length) (.need (@isSo (@And ((@HAppend.hAppend _ _ _ _ (@HAppend.hAppend _ _ _ _ [] [e1]) []) = [e1]) (@And ((@ByteArray.size ((xs.getD (k).toNat attrNone)).name) ≤ 9223372036854775807) ((@ByteArray.size ((xs.getD (k).toNat attrNone)).value) ≤ 9223372036854775807)))) (.fork (@oddB (@AttrV.mk ((xs.getD (k).toNat attrNone)).name ((xs.getD (k).toNat attrNone)).value)) (.leaf (Ex.ret, ((e2 :: e3 :: none :: none :: (some (int k)) :: none :: e2 :: e4 :: (some (int k)) :: (nn10 [])), (@Mem.mk 0 0 [])))) (.leaf (Ex.norm, ((e2 :: e3 :: none :: none :: (some (int (0 : Int))) :: none :: e2 :: e4 :: (some (int (w64 (k + (1 : Int))))) :: (nn10 [])), (@Mem.mk 0 0 []))))))) (.leaf ((@Ex.exit 0), ((e2 :: e3 :: none :: none :: (some (int (0 : Int))) :: none :: e2 :: e4 :: (some (int k)) :: (nn10 [])), (@Mem.mk 0 0 [])))))) (by kernel_rfl) ?_
    have hl := hx.1
    refine fork_ok (fun h => ?_) (fun h => ?_)
    · simp only [Bool.not_eq_true', Bool.not_eq_false', leI_t, leI_f, eqI_t, eqI_f, inR_t, inR_f, isSo_t, isSo_f] at h
      have hr : inR k xs.length = true := by rw [inR_t]; omega
      refine need_t hr (need_so ⟨rfl, hx.2 _ (getD_mem xs k _ h0 (by omega))⟩ (fork_ok (fun h2 => c2 (by omega) h2) (fun h2 => ?_)))
      rw [w64_in (r := k + 1) (by omega)]
      exact c1 (by omega) h2
    · simp only [Bool.not_eq_true', Bool.not_eq_false', leI_t, leI_f, eqI_t, eqI_f, inR_t, inR_f, isSo_t, isSo_f] at h
      exact c3 (by omega)
namespace Sy
noncomputable abbrev lpCs (xs : List ByteArray) : Lp Try.prog where
  f := 75
  key := 3
  S := formS (fun F M => slotI F 8) (fun k => csF xs k 0) (fun _ => M0) (fun k => StrsOk xs ∧ k = 0) (fun k => .fork (leI 0 (idxF lacksB xs 0)) (.leaf (.ret, csE xs (idxF lacksB xs 0), M0)) (.leaf (.exit 0, csE xs 0, M0))) (true :: true :: false :: false :: true :: false :: true :: true :: true :: (ff10 []))
  one := by kernel_rfl
  ok := formS_ok fun k ⟨h1, h2⟩ => by
    subst h2
    refine ⟨xs.length + 1, ?_⟩
    refine ((Sy.cs_scan xs h1).out (true :: true :: false :: false :: true :: false :: true :: true :: (ff11 []))).mono fun ex F M hg => ?_
    obtain ⟨F0, ⟨hM, hg⟩, rfl⟩ := hg
    rcases hg with ⟨q1, rfl, rfl⟩ | ⟨q1, rfl, rfl⟩
    · exact .inl ⟨by rw [leI_t]; exact q1, by rw [hM]; rfl⟩
    · exact .inr ⟨by rw [leI_f, q1]; omega, by rw [hM]; rfl⟩
noncomputable abbrev lpCt (xs : List AttrV) : Lp Try.prog where
  f := 76
  key := 3
  S := formS (fun F M => slotI F 8) (fun k => ctF xs k 0) (fun _ => M0) (fun k => AttrsOk xs ∧ k = 0) (fun k => .fork (leI 0 (idxF oddB xs 0)) (.leaf (.ret, ctE xs (idxF oddB xs 0), M0)) (.leaf (.exit 0, ctE xs 0, M0))) (true :: true :: false :: false :: true :: false :: true :: true :: true :: (ff10 []))
  one := by kernel_rfl
  ok := formS_ok fun k ⟨h1, h2⟩ => by
    subst h2
    refine ⟨xs.length + 1, ?_⟩
    refine ((Sy.ct_scan xs h1).out (true :: true :: false :: false :: true :: false :: true :: true :: (ff11 []))).mono fun ex F M hg => ?_
    obtain ⟨F0, ⟨hM, hg⟩, rfl⟩ := hg
    rcases hg with ⟨q1, rfl, rfl⟩ | ⟨q1, rfl, rfl⟩
    · exact .inl ⟨by rw [leI_t]; exact q1, by rw [hM]; rfl⟩
    · exact .inr ⟨by rw [leI_f, q1]; omega, by rw [hM]; rfl⟩
end Sy
def anyS (g : ByteArray → Bool) (xs : List ByteArray) : Bool := xs.any g
def anyT (g : AttrV → Bool) (xs : List AttrV) : Bool := xs.any g
theorem Sy.cfs_t (xs : List ByteArray) (h : StrsOk xs) : CallTo Try.prog 64 [cview xs, .fn (.func 65) [] []] M0 fun v _ => v = boo (anyS lacksB xs) :=
  toV [cLacks] [lpCs xs] 400 30 (.br .done .done) (let e1 := (some (@AV.view (xs).length 1 (fun y0 => (fun y1 => (@AV.lit ([(@Value.string (xs.getD y0 (@ByteArray.mk (@Array.mk _ []))))].getD y1 (@Value.tuple (@Array.mk _ [])))))))); let e2 := (some (@AV.fn (@Fn.func 65) [] [])); let e3 := (some (int (0 : Int))); let e4 := (some (int (((xs).length : Nat) : Int))); let e5 := (leI (0 : Int) (@Pl.idxF _ lacksB xs 0)); (.need (@isSo (@And ((e1 :: e2 :: (none :: none :: e3 :: none :: e1 :: e4 :: e3 :: (nn10 []))) = (e1 :: e2 :: none :: none :: e3 :: none :: e1 :: e4 :: e3 :: (nn10 []))) ((@Mem.mk 0 0 []) = M0))) (.need (@isSo (@And (@And ((xs).length ≤ 17592186044416) (∀ (s : ByteArray), s ∈ xs → s.size ≤ maxLen)) ((0 : Int) = (0 : Int)))) (.fork e5 (.leaf (boo e5)) (.leaf (boo false)))))) (by kernel_rfl) (by
    unfold anyS
    rw [← idxF_any lacksB xs 0]
    refine need_so ⟨rfl, rfl⟩ (need_so ⟨h, rfl⟩ (fork_ok (fun h1 => ?_) (fun h1 => ?_)))
    · rw [leI_eq]; exact rfl
    · rw [leI_eq] at h1; rw [h1]; exact rfl)
theorem Sy.cft_t (xs : List AttrV) (h : AttrsOk xs) : CallTo Try.prog 66 [aview xs, .fn (.func 67) [] []] M0 fun v _ => v = boo (anyT oddB xs) :=
  toV [cOdd] [lpCt xs] 400 30 (.br .done .done) (let e1 := (some (@AV.view (xs).length 2 (fun y0 => (fun y1 => (@AV.lit ([(@Value.string ((xs.getD y0 attrNone)).name), (@Value.string ((xs.getD y0 attrNone)).value)].getD y1 (@Value.tuple (@Array.mk _ [])))))))); let e2 := (some (@AV.fn (@Fn.func 67) [] [])); let e3 := (some (int (0 : Int))); let e4 := (some (int (((xs).length : Nat) : Int))); let e5 := (leI (0 : Int) (@Pl.idxF _ oddB xs 0)); (.need (@isSo (@And ((e1 :: e2 :: (none :: none :: e3 :: none :: e1 :: e4 :: e3 :: (nn10 []))) = (e1 :: e2 :: none :: none :: e3 :: none :: e1 :: e4 :: e3 :: (nn10 []))) ((@Mem.mk 0 0 []) = M0))) (.need (@isSo (@And (@And ((xs).length ≤ 17592186044416) (∀ (t : AttrV), t ∈ xs → t.Ok)) ((0 : Int) = (0 : Int)))) (.fork e5 (.leaf (boo e5)) (.leaf (boo false)))))) (by kernel_rfl) (by
    unfold anyT
    rw [← idxF_any oddB xs 0]
    refine need_so ⟨rfl, rfl⟩ (need_so ⟨h, rfl⟩ (fork_ok (fun h1 => ?_) (fun h1 => ?_)))
    · rw [leI_eq]; exact rfl
    · rw [leI_eq] at h1; rw [h1]; exact rfl)
noncomputable abbrev Sy.cAnyS (xs : List ByteArray) : Con Try.prog := at1 64 [cview xs, .fn (.func 65) [] []] (boo (anyS lacksB xs)) (StrsOk xs) fun h => ⟨⟨⟨viewOf_free strCells ⟨#[]⟩ 1 xs, ⟨trivial, trivial⟩, trivial⟩, trivial⟩, cfs_t xs h⟩
noncomputable abbrev Sy.cAnyT (xs : List AttrV) : Con Try.prog := at1 66 [aview xs, .fn (.func 67) [] []] (boo (anyT oddB xs)) (AttrsOk xs) fun h => ⟨⟨⟨viewOf_free AttrV.cells attrNone 2 xs, ⟨trivial, trivial⟩, trivial⟩, trivial⟩, cft_t xs h⟩
structure NdV where
  par : Int
  tag : ByteArray
  id : ByteArray
  cls : List ByteArray
  atts : List AttrV
  text : ByteArray
def ndNone : NdV := ⟨0, ⟨#[]⟩, ⟨#[]⟩, [], [], ⟨#[]⟩⟩
def NdV.Ok (n : NdV) : Prop := n.tag.size ≤ maxLen ∧ n.id.size ≤ maxLen ∧ StrsOk n.cls ∧ AttrsOk n.atts ∧ n.text.size ≤ maxLen
abbrev Sy.ndL (n : NdV) : List AV := [int n.par, .lit (.string n.tag), .lit (.string n.id), cview n.cls, aview n.atts, .lit (.string n.text)]
abbrev Sy.ndG (n : NdV) : AV := .agg (ndL n)
theorem Sy.ndG_free (n : NdV) : Free (ndG n) := ⟨trivial, trivial, trivial, viewOf_free strCells ⟨#[]⟩ 1 _, viewOf_free AttrV.cells attrNone 2 _, trivial, trivial⟩
def elemB (n : NdV) : Bool := nameL n.tag.data.toList && ((bytesEq n.id.data.toList [] || nameL n.id.data.toList) && (bytesEq n.text.data.toList [] && (leI n.cls.length 8 && (leI n.atts.length 8 && (!anyS lacksB n.cls && !anyT oddB n.atts)))))
theorem Sy.elm_t (n : NdV) (h : n.Ok) : CallTo Try.prog 45 [ndG n] M0 fun v _ => v = boo (elemB n) :=
  toV [cName, cAnyS n.cls, cAnyT n.atts] [] 400 30 (.yes (.br (.auto 2 (.br (.auto 1 (.yes (.auto 3 (.br (.auto 2 (.br .done (.br (.auto 3 (.br .done (.yes (.br (.auto 1 (.yes (.auto 1 .done))) (.auto 3 .done))))) (.auto 4 .done)))) (.auto 3 .done))))) (.auto 9 (.br .done (.br (.auto 3 (.br .done (.yes (.br (.auto 1 (.yes (.auto 1 .done))) (.auto 3 .done))))) (.auto 4 .done)))))) (.auto 13 .done))) (let e1 := (@Array.toList _ (@ByteArray.data (n).id)); let e2 := (@ByteArray.mk (@Array.mk _ [])); let e3 := (@Array.toList _ (@ByteArray.data e2)); let e4 := (@Value.tuple (@Array.mk _ [])); let e5 := (@AV.view ((n).cls).length 1 (fun y0 => (fun y1 => (@AV.lit ([(@Value.string ((n).cls.getD y0 e2))].getD y1 e4))))); let e6 := (@AV.view ((n).atts).length 2 (fun y0 => (fun y1 => (@AV.lit ([(@Value.string (((n).atts.getD y0 attrNone)).name), (@Value.string (((n).atts.getD y0 attrNone)).value)].getD y1 e4))))); (.need (@isSo ((@ByteArray.size (n).tag) ≤ 9223372036854775807)) (.fork (!(!(@Pl.nameL (@Array.toList _ (@ByteArray.data (n).tag))))) (.fork (!(@bytesEq e1 e3)) (.need (@isSo ((@ByteArray.size (n).id) ≤ 9223372036854775807)) (.fork (!(!(@Pl.nameL e1))) (.fork (!(@bytesEq (@Array.toList _ (@ByteArray.data (n).text)) e3)) (.leaf (boo false)) (.fork (!(!(leI ((((n).cls).length : Nat) : Int) (8 : Int)))) (.fork (!(leI ((((n).atts).length : Nat) : Int) (8 : Int))) (.leaf (boo false)) (.need (@isSo (@And ((@HAppend.hAppend _ _ _ _ (@HAppend.hAppend _ _ _ _ [] [e5, (@AV.fn (@Fn.func 65) [] [])]) []) = [e5, (@AV.fn (@Fn.func 65) [] [])]) (@And (((n).cls).length ≤ 17592186044416) (∀ (s : ByteArray), s ∈ n.cls → s.size ≤ maxLen)))) (.fork (!(@anyS lacksB (n).cls)) (.need (@isSo (@And ((@HAppend.hAppend _ _ _ _ (@HAppend.hAppend _ _ _ _ [] [e6, (@AV.fn (@Fn.func 67) [] [])]) []) = [e6, (@AV.fn (@Fn.func 67) [] [])]) (@And (((n).atts).length ≤ 17592186044416) (∀ (t : AttrV), t ∈ n.atts → t.Ok)))) (.leaf (boo (!(@anyT oddB (n).atts))))) (.leaf (boo false))))) (.leaf (boo false)))) (.leaf (boo false)))) (.fork (!(@bytesEq (@Array.toList _ (@ByteArray.data (n).text)) e3)) (.leaf (boo false)) (.fork (!(!(leI ((((n).cls).length : Nat) : Int) (8 : Int)))) (.fork (!(leI ((((n).atts).length : Nat) : Int) (8 : Int))) (.leaf (boo false)) (.need (@isSo (@And ((@HAppend.hAppend _ _ _ _ (@HAppend.hAppend _ _ _ _ [] [e5, (@AV.fn (@Fn.func 65) [] [])]) []) = [e5, (@AV.fn (@Fn.func 65) [] [])]) (@And (((n).cls).length ≤ 17592186044416) (∀ (s : ByteArray), s ∈ n.cls → s.size ≤ maxLen)))) (.fork (!(@anyS lacksB (n).cls)) (.need (@isSo (@And ((@HAppend.hAppend _ _ _ _ (@HAppend.hAppend _ _ _ _ [] [e6, (@AV.fn (@Fn.func 67) [] [])]) []) = [e6, (@AV.fn (@Fn.func 67) [] [])]) (@And (((n).atts).length ≤ 17592186044416) (∀ (t : AttrV), t ∈ n.atts → t.Ok)))) (.leaf (boo (!(@anyT oddB (n).atts))))) (.leaf (boo false))))) (.leaf (boo false))))) (.leaf (boo false))))) (by kernel_rfl) (by
    obtain ⟨h1, h2, h3, h4, h5⟩ := h
    have e : ([] : List UInt8) = (ByteArray.mk #[]).data.toList := rfl
    unfold elemB
    rw [e]
    repeat' (first
      | refine fork_ok (fun _ => ?_) (fun _ => ?_)
      | refine need_so h1 ?_
      | refine need_so h2 ?_
      | refine need_so ⟨rfl, h3⟩ ?_
      | refine need_so ⟨rfl, h4⟩ ?_)
    all_goals refine leaf_boo ?_
    all_goals (simp only [Bool.not_eq_true', Bool.not_eq_false', Bool.not_not] at *)
    all_goals simp only [*, Bool.not_true, Bool.not_false, Bool.true_and, Bool.false_and, Bool.and_false, Bool.and_true, Bool.or_true, Bool.true_or, Bool.or_false, Bool.false_or, Bool.and_assoc]
    all_goals (cases anyT oddB n.atts <;> simp))
noncomputable abbrev Sy.cElm1 (n : NdV) : Con Try.prog := at1 45 [ndG n] (boo (elemB n)) n.Ok fun h => ⟨⟨⟨ndG_free n, trivial⟩, trivial⟩, elm_t n h⟩
end Go.Proofs.Ytglkdhmikpejnaa
namespace Go.Proofs.Ytglkdhmikpejnaa
open Go Go.RowKit Pl Sy
noncomputable abbrev Sy.cNameR : Con Try.prog := str1 29 (fun s => boo (nameL s.data.toList)) (fun s => s.size ≤ maxLen) (fun _ => trivial) fun s h => old (us := [.string s]) (fun w => name_r s w h)
noncomputable abbrev Sy.cTextR : Con Try.prog := str1 28 (fun s => boo (textL s.data.toList)) (fun s => s.size ≤ maxLen) (fun _ => trivial) fun s h => old (us := [.string s]) (fun w => text_r s w h)
theorem Sy.scanOk {α : Type} {P : Program} {body : Code} (xs : List α) (g : α → Bool) (d : α) (F : Int → Bool → Fr) (M : Mem) (id : Nat)
    (step : ∀ (k : Int) (b : Bool) (n : Nat) (G : Ex → Fr → Mem → Prop), 0 ≤ k → k ≤ xs.length → (k < xs.length → b = true → LoopTo P body n (F (k + 1) (g (xs.getD k.toNat d))) M G) → (k = xs.length ∨ b = false → G (.exit id) (F k b) M) → LoopTo P body (n + 1) (F k b) M G) (b : Bool) :
    LoopTo P body (xs.length + 1) (F 0 b) M fun ex F' M' => M' = M ∧ ex = .exit id ∧ ∃ k, F' = F k (b && xs.all g) := by
  have key : ∀ (l pre : List α) (k : Int) (b : Bool), xs = pre ++ l → k = pre.length → LoopTo P body (l.length + 1) (F k b) M fun ex F' M' => M' = M ∧ ex = .exit id ∧ ∃ k, F' = F k (b && l.all g) := by
    intro l
    induction l with
    | nil =>
      intro pre k b h hk
      have hl : xs.length = pre.length := by rw [h]; simp
      exact step k b _ _ (by omega) (by omega) (fun h1 _ => by omega) (fun _ => ⟨rfl, rfl, k, by simp⟩)
    | cons x l ih =>
      intro pre k b h hk
      have hl : xs.length = pre.length + l.length + 1 := by rw [h]; simp; omega
      have hg : xs.getD k.toNat d = x := by rw [h]; exact getD_at _ _ _ _ _ hk
      refine step k b _ _ (by omega) (by omega) (fun h1 h2 => ?_) (fun h1 => ?_)
      · rw [hg]
        refine (ih (pre ++ [x]) (k + 1) (g x) (by rw [h]; simp) (by simp; omega)).mono fun ex F' M' ⟨q1, q2, j, q3⟩ => ⟨q1, q2, j, ?_⟩
        rw [q3, h2, List.all_cons, Bool.true_and]
      · rcases h1 with h1 | h1
        · omega
        · exact ⟨rfl, rfl, k, by rw [h1, Bool.false_and]⟩
  exact key xs [] 0 b rfl rfl
def ratB (t : AttrV) : Bool := nameL t.name.data.toList && textL t.value.data.toList
namespace Sy
abbrev repM (p : NdV) : Mem := (@Mem.mk 1 0 [(some (@Blk.mk [(int (p).par), (@AV.lit (@Value.string (p).tag)), (@AV.lit (@Value.string (p).id)), (@AV.view ((p).cls).length 1 (fun x307890 => (fun x380075 => (@AV.lit ([(@Value.string ((p).cls.getD x307890 (@ByteArray.mk (@Array.mk _ []))))].getD x380075 (@Value.tuple (@Array.mk _ []))))))), (@AV.view ((p).atts).length 2 (fun x743820 => (fun x976948 => (@AV.lit ([(@Value.string (((p).atts.getD x743820 attrNone)).name), (@Value.string (((p).atts.getD x743820 attrNone)).value)].getD x976948 (@Value.tuple (@Array.mk _ []))))))), (@AV.lit (@Value.string (p).text))] 40 none))])
abbrev recF (k : Int) (b : Bool) : Fr := (none :: some ((@AV.ptr 0 0)) :: none :: some (boo b) :: some (int k) :: (nn5 (nn44 (nn48 []))))
noncomputable def slotIB (F : Fr) (i j : Nat) : Option (Int × Bool) := match nth F i, nth F j with
  | some (some (.lit (.int .i64 k))), some (some (.lit (.bool b))) => some (k, b)
  | _, _ => none
end Sy
def allS (g : ByteArray → Bool) (xs : List ByteArray) : Bool := xs.all g
def allT (g : AttrV → Bool) (xs : List AttrV) : Bool := xs.all g
def nameB (s : ByteArray) : Bool := nameL s.data.toList
theorem Sy.rc_scan (p : NdV) (hx : StrsOk p.cls) (b : Bool) : LoopTo Try.prog (theBody Try.prog 14 6) (p.cls.length + 1) (recF 0 b) (repM p) fun ex F' M' => M' = repM p ∧ ex = .exit 0 ∧ ∃ k, F' = recF k (b && p.cls.all nameB) :=
  scanOk p.cls nameB ⟨#[]⟩ recF (repM p) 0 (fun k b n G h0 h1 c1 c2 => by
    refine roundL [cNameR] [] 400 30 14 6 Try.func14 rfl (by kernel_rfl) (false :: true :: false :: true :: true :: (ff5 (ff44 (ff48 [])))) (.br (.auto 0 (.br (.yes (.yes .done)) .done)) (.auto 1 .done)) (let e1 := (@ByteArray.mk (@Array.mk _ [])); let e2 := (@Value.tuple (@Array.mk _ [])); let e3 := (@Mem.mk 1 0 [(some (@Blk.mk [(int (p).par), (@AV.lit (@Value.string (p).tag)), (@AV.lit (@Value.string (p).id)), (@AV.view ((p).cls).length 1 (fun y0 => (fun y1 => (@AV.lit ([(@Value.string ((p).cls.getD y0 e1))].getD y1 e2))))), (@AV.view ((p).atts).length 2 (fun y0 => (fun y1 => (@AV.lit ([(@Value.string (((p).atts.getD y0 attrNone)).name), (@Value.string (((p).atts.getD y0 attrNone)).value)].getD y1 e2))))), (@AV.lit (@Value.string (p).text))] 40 none))]); (.fork (!(leI ((((p).cls).length : Nat) : Int) k)) (.fork b (.need (@inR k ((p).cls).length) (.need (@isSo ((@ByteArray.size ((p).cls.getD (k).toNat e1)) ≤ 9223372036854775807)) (.leaf (Ex.norm, ((none :: (some (@AV.ptr 0 0)) :: none :: (some (boo (@Pl.nameL (@Array.toList _ (@ByteArray.data ((p).cls.getD (k).toNat e1)))))) :: (some (int (w64 (k + (1 : Int))))) :: (nn5 (nn44 (nn48 [])))), e3))))) (.leaf ((@Ex.exit 0), ((none :: (some (@AV.ptr 0 0)) :: none :: (some (boo b)) :: (some (int k)) :: (nn5 (nn44 (nn48 [])))), e3)))) (.leaf ((@Ex.exit 0), ((none :: (some (@AV.ptr 0 0)) :: none :: (some (boo b)) :: (some (int k)) :: (nn5 (nn44 (nn48 [])))), e3))))) (by kernel_rfl) ?_
    have hl := hx.1
    refine fork_ok (fun h => fork_ok (fun h2 => ?_) (fun h2 => c2 (.inr h2))) (fun h => ?_)
    · simp only [Bool.not_eq_true', Bool.not_eq_false', leI_t, leI_f, eqI_t, eqI_f, inR_t, inR_f, isSo_t, isSo_f] at h
      have hr : inR k p.cls.length = true := by rw [inR_t]; omega
      refine need_t hr (need_so (hx.2 _ (getD_mem p.cls k _ h0 (by omega))) ?_)
      rw [w64_in (r := k + 1) (by omega)]
      exact c1 (by omega) h2
    · simp only [Bool.not_eq_true', Bool.not_eq_false', leI_t, leI_f, eqI_t, eqI_f, inR_t, inR_f, isSo_t, isSo_f] at h
      exact c2 (.inl (by omega))) b
namespace Sy
noncomputable abbrev lpRc (p : NdV) : Lp Try.prog where
  f := 14
  key := 6
  S := formS (fun F M => slotIB F 4 3) (fun x => recF x.1 x.2) (fun _ => repM p) (fun x => StrsOk p.cls ∧ x.1 = 0) (fun x => .leaf (.exit 0, (none :: some ((@AV.ptr 0 0)) :: none :: some (boo (x.2 && allS nameB p.cls)) :: (nn5 (nn45 (nn48 [])))), repM p)) (false :: true :: false :: true :: true :: (ff5 (ff44 (ff48 []))))
  one := by kernel_rfl
  ok := formS_ok fun x ⟨h1, h2⟩ => by
    obtain ⟨k, b⟩ := x
    simp only at h2
    subst h2
    refine ⟨p.cls.length + 1, ?_⟩
    refine ((Sy.rc_scan p h1 b).out (false :: true :: false :: true :: (ff5 (ff45 (ff48 []))))).mono fun ex F M hg => ?_
    obtain ⟨F0, ⟨hM, rfl, j, rfl⟩, rfl⟩ := hg
    rw [hM]; rfl
end Sy
namespace Sy
abbrev retF (k : Int) (b : Bool) : Fr := (none :: some ((@AV.ptr 0 0)) :: none :: some (boo b) :: none :: some (int k) :: (nn48 (nn48 [])))
end Sy
theorem Sy.rt_scan (p : NdV) (hx : AttrsOk p.atts) (b : Bool) : LoopTo Try.prog (theBody Try.prog 14 10) (p.atts.length + 1) (retF 0 b) (repM p) fun ex F' M' => M' = repM p ∧ ex = .exit 2 ∧ ∃ k, F' = retF k (b && p.atts.all ratB) :=
  scanOk p.atts ratB attrNone retF (repM p) 2 (fun k b n G h0 h1 c1 c2 => by
    refine roundL [cNameR, cTextR] [] 400 30 14 10 Try.func14 rfl (by kernel_rfl) (false :: true :: false :: true :: false :: true :: (ff48 (ff48 []))) (.br (.auto 0 (.br (.yes (.yes (.br (.auto 2 (.yes (.auto 2 (.yes (.auto 0 .done))))) (.auto 6 .done)))) .done)) (.auto 1 .done)) (let e1 := (some (@AV.ptr 0 0)); let e2 := (some (int (w64 (k + (1 : Int))))); let e3 := (@Value.tuple (@Array.mk _ [])); let e4 := (@Mem.mk 1 0 [(some (@Blk.mk [(int (p).par), (@AV.lit (@Value.string (p).tag)), (@AV.lit (@Value.string (p).id)), (@AV.view ((p).cls).length 1 (fun y0 => (fun y1 => (@AV.lit ([(@Value.string ((p).cls.getD y0 (@ByteArray.mk (@Array.mk _ []))))].getD y1 e3))))), (@AV.view ((p).atts).length 2 (fun y0 => (fun y1 => (@AV.lit ([(@Value.string (((p).atts.getD y0 attrNone)).name), (@Value.string (((p).atts.getD y0 attrNone)).value)].getD y1 e3))))), (@AV.lit (@Value.string (p).text))] 40 none))]); (.fork (!(leI ((((p).atts).length : Nat) : Int) k)) (.fork b (.need (@inR k ((p).atts).length) (.need (@isSo ((@ByteArray.size (((p).atts.getD (k).toNat attrNone)).name) ≤ 9223372036854775807)) (.fork (@Pl.nameL (@Array.toList _ (@ByteArray.data (((p).atts.getD (k).toNat attrNone)).name))) (.need (@inR k ((p).atts).length) (.need (@isSo ((@ByteArray.size (((p).atts.getD (k).toNat attrNone)).value) ≤ 9223372036854775807)) (.leaf (Ex.norm, ((none :: e1 :: none :: (some (boo (@Pl.textL (@Array.toList _ (@ByteArray.data (((p).atts.getD (k).toNat attrNone)).value))))) :: none :: e2 :: (nn48 (nn48 []))), e4))))) (.leaf (Ex.norm, ((none :: e1 :: none :: (some (boo false)) :: none :: e2 :: (nn48 (nn48 []))), e4)))))) (.leaf ((@Ex.exit 2), ((none :: e1 :: none :: (some (boo b)) :: none :: (some (int k)) :: (nn48 (nn48 []))), e4)))) (.leaf ((@Ex.exit 2), ((none :: e1 :: none :: (some (boo b)) :: none :: (some (int k)) :: (nn48 (nn48 []))), e4))))) (by kernel_rfl) ?_
    have hl := hx.1
    refine fork_ok (fun h => fork_ok (fun h2 => ?_) (fun h2 => c2 (.inr h2))) (fun h => ?_)
    · simp only [Bool.not_eq_true', Bool.not_eq_false', leI_t, leI_f, eqI_t, eqI_f, inR_t, inR_f, isSo_t, isSo_f] at h
      have hr : inR k p.atts.length = true := by rw [inR_t]; omega
      have ho := hx.2 _ (getD_mem p.atts k attrNone h0 (by omega))
      have c1 := c1 (by omega) h2
      unfold ratB at c1
      refine need_t hr (need_so ho.1 (fork_ok (fun h3 => need_t hr (need_so ho.2 ?_)) (fun h3 => ?_)))
      · rw [h3, Bool.true_and] at c1
        rw [w64_in (r := k + 1) (by omega)]
        exact c1
      · rw [h3, Bool.false_and] at c1
        rw [w64_in (r := k + 1) (by omega)]
        exact c1
    · simp only [Bool.not_eq_true', Bool.not_eq_false', leI_t, leI_f, eqI_t, eqI_f, inR_t, inR_f, isSo_t, isSo_f] at h
      exact c2 (.inl (by omega))) b
namespace Sy
noncomputable abbrev lpRt (p : NdV) : Lp Try.prog where
  f := 14
  key := 10
  S := formS (fun F M => slotIB F 5 3) (fun x => retF x.1 x.2) (fun _ => repM p) (fun x => AttrsOk p.atts ∧ x.1 = 0) (fun x => .leaf (.exit 2, (none :: some ((@AV.ptr 0 0)) :: none :: some (boo (x.2 && allT ratB p.atts)) :: (nn5 (nn45 (nn48 [])))), repM p)) (false :: true :: false :: true :: false :: true :: (ff48 (ff48 [])))
  one := by kernel_rfl
  ok := formS_ok fun x ⟨h1, h2⟩ => by
    obtain ⟨k, b⟩ := x
    simp only at h2
    subst h2
    refine ⟨p.atts.length + 1, ?_⟩
    refine ((Sy.rt_scan p h1 b).out (false :: true :: false :: true :: (ff5 (ff45 (ff48 []))))).mono fun ex F M hg => ?_
    obtain ⟨F0, ⟨hM, rfl, j, rfl⟩, rfl⟩ := hg
    rw [hM]; rfl
end Sy
def ndB (p : NdV) : Bool := if bytesEq p.tag.data.toList [] = true then bytesEq p.id.data.toList [] && (eqI p.cls.length 0 && (eqI p.atts.length 0 && textL p.text.data.toList))
  else nameB p.tag && ((bytesEq p.id.data.toList [] || nameB p.id) && (bytesEq p.text.data.toList [] && (leI p.cls.length 8 && (leI p.atts.length 8 && (allS nameB p.cls && allT ratB p.atts)))))
theorem Sy.rgt_t (p : NdV) (h : p.Ok) : CallTo Try.prog 14 [ndG p] M0 fun v _ => v = boo (ndB p) :=
  toV [cNameR, cTextR] [lpRc p, lpRt p] 400 30 (.br (.br (.auto 3 (.br (.auto 3 (.br (.auto 1 (.yes (.auto 0 .done))) (.auto 2 .done))) (.auto 7 .done))) (.auto 12 .done)) (.yes (.br (.auto 2 (.br (.auto 1 (.yes (.auto 2 (.br (.auto 2 (.br (.auto 3 (.br (.auto 3 .done) (.auto 3 .done))) (.auto 8 .done))) (.auto 12 .done))))) (.auto 8 (.br (.auto 3 (.br (.auto 3 .done) (.auto 3 .done))) (.auto 8 .done))))) (.auto 21 .done)))) (let e1 := (@Array.toList _ (@ByteArray.data (p).tag)); let e2 := (@ByteArray.mk (@Array.mk _ [])); let e3 := (@Array.toList _ (@ByteArray.data e2)); let e4 := (@Array.toList _ (@ByteArray.data (p).id)); let e5 := ((((p).cls).length : Nat) : Int); let e6 := (0 : Int); let e7 := ((((p).atts).length : Nat) : Int); let e8 := (@Array.toList _ (@ByteArray.data (p).text)); let e9 := (some (@AV.ptr 0 0)); let e10 := (some (boo (leI e7 (8 : Int)))); let e11 := (some (int e6)); let e12 := (some (int (Int.ofNat 0))); let e13 := (@Value.tuple (@Array.mk _ [])); let e14 := (@Mem.mk 1 0 [(some (@Blk.mk [(int (p).par), (@AV.lit (@Value.string (p).tag)), (@AV.lit (@Value.string (p).id)), (@AV.view ((p).cls).length 1 (fun y0 => (fun y1 => (@AV.lit ([(@Value.string ((p).cls.getD y0 e2))].getD y1 e13))))), (@AV.view ((p).atts).length 2 (fun y0 => (fun y1 => (@AV.lit ([(@Value.string (((p).atts.getD y0 attrNone)).name), (@Value.string (((p).atts.getD y0 attrNone)).value)].getD y1 e13))))), (@AV.lit (@Value.string (p).text))] 40 none))]); let e15 := ((leI e7 (8 : Int)) && (@allS nameB (p).cls)); let e16 := (false && (@allS nameB (p).cls)); (.fork (@bytesEq e1 e3) (.fork (@bytesEq e4 e3) (.fork (eqI e5 e6) (.fork (eqI e7 e6) (.need (@isSo ((@ByteArray.size (p).text) ≤ 9223372036854775807)) (.leaf (boo (@Pl.textL e8)))) (.leaf (boo false))) (.leaf (boo false))) (.leaf (boo false))) (.need (@isSo ((@ByteArray.size (p).tag) ≤ 9223372036854775807)) (.fork (@Pl.nameL e1) (.fork (!(@bytesEq e4 e3)) (.need (@isSo ((@ByteArray.size (p).id) ≤ 9223372036854775807)) (.fork (@Pl.nameL e4) (.fork (@bytesEq e8 e3) (.fork (leI e5 (8 : Int)) (.need (@isSo (@And ((none :: (e9 :: none :: e10 :: e11 :: (nn5 (nn44 (nn48 []))))) = (none :: e9 :: none :: e10 :: e12 :: (nn5 (nn44 (nn48 []))))) (e14 = e14))) (.need (@isSo (@And (@And (((p).cls).length ≤ 17592186044416) (∀ (s : ByteArray), s ∈ p.cls → s.size ≤ maxLen)) ((Int.ofNat 0) = e6))) (.need (@isSo (@And ((none :: e9 :: none :: (some (boo e15)) :: none :: e11 :: (nn48 (nn48 []))) = (none :: e9 :: none :: (some (boo e15)) :: none :: e12 :: (nn48 (nn48 [])))) (e14 = e14))) (.need (@isSo (@And (@And (((p).atts).length ≤ 17592186044416) (∀ (t : AttrV), t ∈ p.atts → t.Ok)) ((Int.ofNat 0) = e6))) (.leaf (boo (e15 && (@allT ratB (p).atts)))))))) (.need (@isSo (@And ((none :: (e9 :: none :: (some (boo false)) :: e11 :: (nn5 (nn44 (nn48 []))))) = (none :: e9 :: none :: (some (boo false)) :: e11 :: (nn5 (nn44 (nn48 []))))) (e14 = e14))) (.need (@isSo (@And (@And (((p).cls).length ≤ 17592186044416) (∀ (s : ByteArray), s ∈ p.cls → s.size ≤ maxLen)) (e6 = e6))) (.need (@isSo (@And ((none :: e9 :: none :: (some (boo e16)) :: none :: e11 :: (nn48 (nn48 []))) = (none :: e9 :: none :: (some (boo e16)) :: none :: e12 :: (nn48 (nn48 [])))) (e14 = e14))) (.need (@isSo (@And (@And (((p).atts).length ≤ 17592186044416) (∀ (t : AttrV), t ∈ p.atts → t.Ok)) ((Int.ofNat 0) = e6))) (.leaf (boo (e16 && (@allT ratB (p).atts))))))))) (.need (@isSo (@And ((none :: (e9 :: none :: (some (boo false)) :: e11 :: (nn5 (nn44 (nn48 []))))) = (none :: e9 :: none :: (some (boo false)) :: e11 :: (nn5 (nn44 (nn48 []))))) (e14 = e14))) (.need (@isSo (@And (@And (((p).cls).length ≤ 17592186044416) (∀ (s : ByteArray), s ∈ p.cls → s.size ≤ maxLen)) (e6 = e6))) (.need (@isSo (@And ((none :: e9 :: none :: (some (boo e16)) :: none :: e11 :: (nn48 (nn48 []))) = (none :: e9 :: none :: (some (boo e16)) :: none :: e12 :: (nn48 (nn48 [])))) (e14 = e14))) (.need (@isSo (@And (@And (((p).atts).length ≤ 17592186044416) (∀ (t : AttrV), t ∈ p.atts → t.Ok)) ((Int.ofNat 0) = e6))) (.leaf (boo (e16 && (@allT ratB (p).atts))))))))) (.need (@isSo (@And ((none :: (e9 :: none :: (some (boo false)) :: e11 :: (nn5 (nn44 (nn48 []))))) = (none :: e9 :: none :: (some (boo false)) :: e11 :: (nn5 (nn44 (nn48 []))))) (e14 = e14))) (.need (@isSo (@And (@And (((p).cls).length ≤ 17592186044416) (∀ (s : ByteArray), s ∈ p.cls → s.size ≤ maxLen)) (e6 = e6))) (.need (@isSo (@And ((none :: e9 :: none :: (some (boo e16)) :: none :: e11 :: (nn48 (nn48 []))) = (none :: e9 :: none :: (some (boo e16)) :: none :: e12 :: (nn48 (nn48 [])))) (e14 = e14))) (.need (@isSo (@And (@And (((p).atts).length ≤ 17592186044416) (∀ (t : AttrV), t ∈ p.atts → t.Ok)) ((Int.ofNat 0) = e6))) (.leaf (boo (e16 && (@allT ratB (p).atts)))))))))) (.fork (@bytesEq e8 e3) (.fork (leI e5 (8 : Int)) (.need (@isSo (@And ((none :: (e9 :: none :: e10 :: e11 :: (nn5 (nn44 (nn48 []))))) = (none :: e9 :: none :: e10 :: e12 :: (nn5 (nn44 (nn48 []))))) (e14 = e14))) (.need (@isSo (@And (@And (((p).cls).length ≤ 17592186044416) (∀ (s : ByteArray), s ∈ p.cls → s.size ≤ maxLen)) ((Int.ofNat 0) = e6))) (.need (@isSo (@And ((none :: e9 :: none :: (some (boo e15)) :: none :: e11 :: (nn48 (nn48 []))) = (none :: e9 :: none :: (some (boo e15)) :: none :: e12 :: (nn48 (nn48 [])))) (e14 = e14))) (.need (@isSo (@And (@And (((p).atts).length ≤ 17592186044416) (∀ (t : AttrV), t ∈ p.atts → t.Ok)) ((Int.ofNat 0) = e6))) (.leaf (boo (e15 && (@allT ratB (p).atts)))))))) (.need (@isSo (@And ((none :: (e9 :: none :: (some (boo false)) :: e11 :: (nn5 (nn44 (nn48 []))))) = (none :: e9 :: none :: (some (boo false)) :: e11 :: (nn5 (nn44 (nn48 []))))) (e14 = e14))) (.need (@isSo (@And (@And (((p).cls).length ≤ 17592186044416) (∀ (s : ByteArray), s ∈ p.cls → s.size ≤ maxLen)) (e6 = e6))) (.need (@isSo (@And ((none :: e9 :: none :: (some (boo e16)) :: none :: e11 :: (nn48 (nn48 []))) = (none :: e9 :: none :: (some (boo e16)) :: none :: e12 :: (nn48 (nn48 [])))) (e14 = e14))) (.need (@isSo (@And (@And (((p).atts).length ≤ 17592186044416) (∀ (t : AttrV), t ∈ p.atts → t.Ok)) ((Int.ofNat 0) = e6))) (.leaf (boo (e16 && (@allT ratB (p).atts))))))))) (.need (@isSo (@And ((none :: (e9 :: none :: (some (boo false)) :: e11 :: (nn5 (nn44 (nn48 []))))) = (none :: e9 :: none :: (some (boo false)) :: e11 :: (nn5 (nn44 (nn48 []))))) (e14 = e14))) (.need (@isSo (@And (@And (((p).cls).length ≤ 17592186044416) (∀ (s : ByteArray), s ∈ p.cls → s.size ≤ maxLen)) (e6 = e6))) (.need (@isSo (@And ((none :: e9 :: none :: (some (boo e16)) :: none :: e11 :: (nn48 (nn48 []))) = (none :: e9 :: none :: (some (boo e16)) :: none :: e12 :: (nn48 (nn48 [])))) (e14 = e14))) (.need (@isSo (@And (@And (((p).atts).length ≤ 17592186044416) (∀ (t : AttrV), t ∈ p.atts → t.Ok)) ((Int.ofNat 0) = e6))) (.leaf (boo (e16 && (@allT ratB (p).atts)))))))))) (.need (@isSo (@And ((none :: (e9 :: none :: (some (boo false)) :: e11 :: (nn5 (nn44 (nn48 []))))) = (none :: e9 :: none :: (some (boo false)) :: e11 :: (nn5 (nn44 (nn48 []))))) (e14 = e14))) (.need (@isSo (@And (@And (((p).cls).length ≤ 17592186044416) (∀ (s : ByteArray), s ∈ p.cls → s.size ≤ maxLen)) (e6 = e6))) (.need (@isSo (@And ((none :: e9 :: none :: (some (boo e16)) :: none :: e11 :: (nn48 (nn48 []))) = (none :: e9 :: none :: (some (boo e16)) :: none :: e12 :: (nn48 (nn48 [])))) (e14 = e14))) (.need (@isSo (@And (@And (((p).atts).length ≤ 17592186044416) (∀ (t : AttrV), t ∈ p.atts → t.Ok)) ((Int.ofNat 0) = e6))) (.leaf (boo (e16 && (@allT ratB (p).atts)))))))))))) (by kernel_rfl) (by
    obtain ⟨h1, h2, h3, h4, h5⟩ := h
    have e : ([] : List UInt8) = (ByteArray.mk #[]).data.toList := rfl
    unfold ndB
    rw [e]
    have n1 : nameB p.tag = nameL p.tag.data.toList := rfl
    have n2 : nameB p.id = nameL p.id.data.toList := rfl
    rw [n1, n2]
    repeat' (first
      | refine fork_ok (fun _ => ?_) (fun _ => ?_)
      | refine need_so h1 ?_
      | refine need_so h2 ?_
      | refine need_so h5 ?_
      | refine need_so ⟨rfl, rfl⟩ ?_
      | refine need_so ⟨h3, rfl⟩ ?_
      | refine need_so ⟨h4, rfl⟩ ?_)
    all_goals refine leaf_boo ?_
    all_goals (simp only [Bool.not_eq_true', Bool.not_eq_false', Bool.not_not] at *)
    all_goals simp only [*, Bool.false_eq_true, if_true, if_false, Bool.not_true, Bool.not_false, Bool.true_and, Bool.false_and, Bool.and_false, Bool.and_true, Bool.or_true, Bool.true_or, Bool.or_false, Bool.false_or, Bool.and_assoc])
noncomputable abbrev Sy.cRgt (n : NdV) : Con Try.prog := at1 14 [ndG n] (boo (ndB n)) n.Ok fun h => ⟨⟨⟨ndG_free n, trivial⟩, trivial⟩, rgt_t n h⟩
theorem oddB_eq (t : AttrV) : oddB t = !ratB t := by
  unfold oddB ratB
  cases nameL t.name.data.toList <;> cases textL t.value.data.toList <;> rfl
theorem elem_nd (n : NdV) : elemB n = (!bytesEq n.tag.data.toList [] && ndB n) := by
  have e1 : anyS lacksB n.cls = !allS nameB n.cls := by
    unfold anyS allS
    rw [Bool.eq_iff_iff]
    simp only [List.any_eq_true, Bool.not_eq_true', List.all_eq_false, lacksB, nameB, Bool.not_eq_true]
  have e2 : anyT oddB n.atts = !allT ratB n.atts := by
    unfold anyT allT
    rw [Bool.eq_iff_iff]
    simp only [List.any_eq_true, Bool.not_eq_true', List.all_eq_false, oddB_eq, Bool.not_eq_true]
  unfold elemB ndB
  rw [e1, e2]
  cases hb : bytesEq n.tag.data.toList [] with
  | true =>
    rw [bytesEq_eq, decide_eq_true_eq] at hb
    rw [hb]
    rfl
  | false =>
    unfold nameB
    simp
end Go.Proofs.Ytglkdhmikpejnaa
namespace Go.Proofs.Ytglkdhmikpejnaa
open Go.RowKit Pl
theorem tStrs : SliceT Try.prog 26 9 1 16 (.string ⟨#[]⟩) :=
  ⟨Try.underlying26, by obtain ⟨i0, hi, hz0, hz1, hz2⟩ := info_parts (show (Try.prog.info? 9).map (fun i => (i.zero, i.size, i.bytes)) = some (some (.string ⟨#[]⟩), 1, 16) by kernel_rfl); exact ⟨i0, hi, hz0, hz1, hz2⟩, rfl, by decide⟩
theorem tAttrs : SliceT Try.prog 38 67 2 32 (.agg #[.string ⟨#[]⟩, .string ⟨#[]⟩]) :=
  ⟨Try.underlying38, by obtain ⟨i0, hi, hz0, hz1, hz2⟩ := info_parts (show (Try.prog.info? 67).map (fun i => (i.zero, i.size, i.bytes)) = some (some (.agg #[.string ⟨#[]⟩, .string ⟨#[]⟩]), 2, 32) by kernel_rfl); exact ⟨i0, hi, hz0, hz1, hz2⟩, rfl, by decide⟩
@[go_sem] theorem nilS0 (w : World) : (binOp BinOp.eql 26 (.slice none 0 0) (.slice none 0 0)).run Try.prog w = .ok (.bool true) w := by kernel_rfl
@[go_sem] theorem nilS1 (ad : Addr) (n c : Nat) (w : World) : (binOp BinOp.eql 26 (.slice (some ad) n c) (.slice none 0 0)).run Try.prog w = .ok (.bool false) w := by kernel_rfl
@[go_sem] theorem nilA0 (w : World) : (binOp BinOp.eql 38 (.slice none 0 0) (.slice none 0 0)).run Try.prog w = .ok (.bool true) w := by kernel_rfl
@[go_sem] theorem nilA1 (ad : Addr) (n c : Nat) (w : World) : (binOp BinOp.eql 38 (.slice (some ad) n c) (.slice none 0 0)).run Try.prog w = .ok (.bool false) w := by kernel_rfl
theorem own_base {w : World} {base : Nat} {e : TypeId} {s : Nat} {v : Value} {n m c : Nat} {flat : List Value} {ad : Addr} (h : w.ownsRow base e s v n flat) (hv : v = .slice (some ad) m c) : base ≤ ad.block := by
  rcases h.2 with ⟨rfl, _⟩ | ⟨g, cap, cur, rfl, hb, _⟩
  · cases hv
  · simp at hv; rw [← hv.1]; exact hb
def Tagged (w : World) (a : Option Addr) (e : TypeId) : Prop := ∀ ad, a = some ad → ∃ cur fr, w.heap[ad.block]? = some (.cells cur e fr)
theorem own_tag {w : World} {base : Nat} {e : TypeId} {s : Nat} {v : Value} {n m c : Nat} {flat : List Value} {ad : Addr} (h : w.ownsRow base e s v n flat) (hv : v = .slice (some ad) m c) : ∃ cur fr, w.heap[ad.block]? = some (.cells cur e fr) := by
  rcases h.2 with ⟨rfl, _⟩ | ⟨g, cap, cur, rfl, hb, hc, _⟩
  · cases hv
  · simp at hv; rw [← hv.1]; exact ⟨cur, _, hc⟩
theorem own_empty (w : World) (e : TypeId) (s : Nat) : (w.alloc (.cells #[] e)).ownsRow w.heap.size e s (.slice (some ⟨w.heap.size, 0, none⟩) 0 0) 0 [] :=
  ⟨by simp, Or.inr ⟨w.heap.size, 0, #[], rfl, Nat.le_refl _, heap_alloc_new w _, Nat.le_refl _, by omega, by simp, by simp⟩⟩
set_option maxRecDepth 20000 in
theorem clone_strs {w : World} {a : Option Addr} {cap : Nat} {xs : List ByteArray} (h : RStrs w a cap xs) (hs : xs.length ≤ 1024) :
    Calls Try.prog 61 #[.slice a xs.length cap] w fun e w' => ∃ a' cap', e = .returned (.slice a' xs.length cap') ∧ RStrs w' a' cap' xs ∧ (∀ ad, a' = some ad → w.heap.size ≤ ad.block) ∧ Tagged w' a' 9 ∧ Below w.heap.size w w' := by
  cases ha : a with
  | none =>
    subst ha
    have hc := h.nil rfl
    subst hc
    have hx : xs = [] := List.eq_nil_of_length_eq_zero (by have := h.le; omega)
    subst hx
    go_enter Try.func61, Try.ntmps61
    go_wp2
    go_ret
    exact ⟨none, 0, rfl, h, (fun _ e => by cases e), (fun _ e => by cases e), Below.refl _ _⟩
  | some ad =>
    subst ha
    have HR := Lib.hid h; clear h
    go_enter Try.func61, Try.ntmps61
    go_wp2_with (first
      | (at_builtin; refine wpList_app_rows (cells := cStr) 26 9 1 16 _ tStrs rfl _ _ rfl w.heap.size _ 0 [] rfl (own_empty w 9 1) (some ad) cap xs rfl (HR.out.later _) (fun _ _ => rfl) (fun y _ u hu => by simp [cStr] at hu; subst hu; rfl) (by omega) (by omega) (by simp) ?_; intro v' w1 hown1 hb1))
    go_ret
    obtain ⟨b', c, rfl, hr⟩ := Rows.of_own (cells := cStr) (xs := xs) (by simpa using hown1) (fun k hk j u hu => by simpa using flat_get cStr 1 xs (fun _ _ => rfl) k hk j u hu) (by omega)
    exact ⟨b', c, by simp, hr, (fun ad e => own_base hown1 (by rw [e])), (fun ad e => own_tag hown1 (by rw [e])), (balloc (Below.refl _ _) _).trans hb1⟩
set_option maxRecDepth 20000 in
theorem clone_attrs {w : World} {a : Option Addr} {cap : Nat} {xs : List AttrV} (h : RAttrs w a cap xs) (hs : xs.length ≤ 1024) :
    Calls Try.prog 62 #[.slice a xs.length cap] w fun e w' => ∃ a' cap', e = .returned (.slice a' xs.length cap') ∧ RAttrs w' a' cap' xs ∧ (∀ ad, a' = some ad → w.heap.size ≤ ad.block) ∧ Tagged w' a' 67 ∧ Below w.heap.size w w' := by
  cases ha : a with
  | none =>
    subst ha
    have hc := h.nil rfl
    subst hc
    have hx : xs = [] := List.eq_nil_of_length_eq_zero (by have := h.le; omega)
    subst hx
    go_enter Try.func62, Try.ntmps62
    go_wp2
    go_ret
    exact ⟨none, 0, rfl, h, (fun _ e => by cases e), (fun _ e => by cases e), Below.refl _ _⟩
  | some ad =>
    subst ha
    have HR := Lib.hid h; clear h
    go_enter Try.func62, Try.ntmps62
    go_wp2_with (first
      | (at_builtin; refine wpList_app_rows (cells := AttrV.cells) 38 67 2 32 _ tAttrs rfl _ _ rfl w.heap.size _ 0 [] rfl (own_empty w 67 2) (some ad) cap xs rfl (HR.out.later _) (fun _ _ => rfl) (fun y _ => AttrV.one y) (by omega) (by omega) (by simp) ?_; intro v' w1 hown1 hb1))
    go_ret
    obtain ⟨b', c, rfl, hr⟩ := Rows.of_own (cells := AttrV.cells) (xs := xs) (by simpa using hown1) (fun k hk j u hu => by simpa using flat_get AttrV.cells 2 xs (fun _ _ => rfl) k hk j u hu) (by omega)
    exact ⟨b', c, by simp, hr, (fun ad e => own_base hown1 (by rw [e])), (fun ad e => own_tag hown1 (by rw [e])), (balloc (Below.refl _ _) _).trans hb1⟩
open Go Sy in
theorem Sy.clS_t (v : List ByteArray) (h : v.length ≤ 1024) : CallTo Try.prog 61 [cview v] M0 fun x _ => x = cview v :=
  (of_walkV (cells := strCells) (d := ⟨#[]⟩) v v [] (fun x => rfl) (fun x u hu => by simp [strCells] at hu; subst hu; rfl) (by decide) (by omega) (fun w a cap hR => (clone_strs (show RStrs w a cap v from hR) h).mono fun e w' he => by
  obtain ⟨a', cap', e1, e2, e3, _, e5⟩ := he
  exact ⟨a', cap', e1, e2, e3, e5⟩) M0).mono fun v _ hv => hv.1
open Go Sy in
theorem Sy.clA_t (v : List AttrV) (h : v.length ≤ 1024) : CallTo Try.prog 62 [aview v] M0 fun x _ => x = aview v :=
  (of_walkV (cells := AttrV.cells) (d := attrNone) v v [] (fun x => rfl) AttrV.one (by decide) (by omega) (fun w a cap hR => (clone_attrs hR h).mono fun e w' he => by
  obtain ⟨a', cap', e1, e2, e3, _, e5⟩ := he
  exact ⟨a', cap', e1, e2, e3, e5⟩) M0).mono fun v _ hv => hv.1
open Go Sy in
theorem Sy.of_nil {P : Program} {f : FuncId} {s : Nat} {cell : Nat → Nat → AV} {G : AV → Mem → Prop} (h : CallTo P f [.view 0 s cell] M0 G) : CallTo P f [.lit (.slice none 0 0)] M0 G := fun w0 ρ us w h1 h2 => h w0 ρ us w (by
  simp only [rels, rel] at h1 ⊢
  obtain ⟨x, xs, q1, q2, q3⟩ := h1
  exact ⟨x, xs, q1, ⟨none, 0, q2, Nat.le_refl _, Nat.zero_le _, fun _ => rfl, fun h => absurd h (by omega)⟩, q3⟩) h2
open Go Sy in
noncomputable abbrev Sy.cClS (v : List ByteArray) : Con Try.prog := atX 61 (fun args => match args with | [.lit _] => some true | _ => some false) (fun b => match b with | true => [.lit (.slice none 0 0)] | false => [cview v]) (fun b => match b with | true => cview [] | false => cview v) (fun b => b = true ∨ v.length ≤ 1024) fun b h => by
  cases b with
  | true => exact ⟨⟨⟨trivial, trivial⟩, viewOf_free _ _ _ _⟩, of_nil (clS_t [] (Nat.zero_le _))⟩
  | false => exact ⟨⟨⟨viewOf_free _ _ _ _, trivial⟩, viewOf_free _ _ _ _⟩, clS_t v (h.resolve_left (by decide))⟩
open Go Sy in
noncomputable abbrev Sy.cClA (v : List AttrV) : Con Try.prog := atX 62 (fun args => match args with | [.lit _] => some true | _ => some false) (fun b => match b with | true => [.lit (.slice none 0 0)] | false => [aview v]) (fun b => match b with | true => aview [] | false => aview v) (fun b => b = true ∨ v.length ≤ 1024) fun b h => by
  cases b with
  | true => exact ⟨⟨⟨trivial, trivial⟩, viewOf_free _ _ _ _⟩, of_nil (clA_t [] (Nat.zero_le _))⟩
  | false => exact ⟨⟨⟨viewOf_free _ _ _ _, trivial⟩, viewOf_free _ _ _ _⟩, clA_t v (h.resolve_left (by decide))⟩
end Go.Proofs.Ytglkdhmikpejnaa
namespace Go.Proofs.Ytglkdhmikpejnaa
open Go Go.RowKit Pl Sy
namespace Sy
def ndA (n : NdV) (j : Nat) : AV := match j with
  | 0 => int n.par
  | 1 => .lit (.string n.tag)
  | 2 => .lit (.string n.id)
  | 3 => cview n.cls
  | 4 => aview n.atts
  | _ => .lit (.string n.text)
def ndcell (ns : List NdV) (i j : Nat) : AV := ndA (ns.getD i ndNone) j
def zcell (os : List Int) (i j : Nat) : AV := int (os.getD i 0)
abbrev nrowB (ns : List NdV) : Blk := ⟨[], 40, some ⟨ns.length, 6, ndcell ns⟩⟩
abbrev irowB (os : List Int) : Blk := ⟨[], 3, some ⟨os.length, 1, zcell os⟩⟩
end Sy
theorem fork_t {β : Type} {c : Bool} {t f : Tr β} {G : β → Prop} (hc : c = true) (ht : t.Ok G) : (Tr.fork c t f).Ok G := fork_ok (fun _ => ht) (fun h => absurd (hc.symm.trans h) (by decide))
theorem fork_f {β : Type} {c : Bool} {t f : Tr β} {G : β → Prop} (hc : c = false) (hf : f.Ok G) : (Tr.fork c t f).Ok G := fork_ok (fun h => absurd (hc.symm.trans h) (by decide)) (fun _ => hf)
theorem Sy.WR.cutRow {w0 : World} {ρ : Rho} {M : Mem} {w : World} (h : WR w0 ρ M w) {b n n' s e : Nat} {cs : List AV} {cell : Nat → Nat → AV} (hb : M.get b = some ⟨cs, e, some ⟨n, s, cell⟩⟩) (hn : n' ≤ n) : WR w0 ρ (M.put b (some ⟨cs, e, some ⟨n', s, cell⟩⟩)) w := by
  have hlt := Mem.get_lt hb
  refine ⟨h.keep, fun c g hc => by rw [Mem.put_def]; exact h.dom c g hc, fun c hc => by rw [Mem.put_def]; exact h.nild c hc, fun c B g tot h1 h2 => ?_, fun c B h1 => ?_, fun c c' B B' g t t' h1 h2 h3 h4 => ?_, h.still, h.first, fun c B g t h1 h2 => ?_⟩
  · rcases Mem.get_put hlt h1 with ⟨rfl, e1⟩ | ⟨_, e1⟩
    · simp only [Option.some.injEq] at e1
      subst e1
      obtain ⟨r1, cur, r2, r3, r4, r5⟩ := h.blk _ _ g tot hb h2
      exact ⟨r1, cur, r2, r3, r4, fun R hR i j hi hj => by
        simp only [Option.some.injEq] at hR
        subst hR
        exact r5 _ rfl i j (by simp only at hi ⊢; omega) hj⟩
    · exact h.blk c B g tot e1 h2
  · rcases Mem.get_put hlt h1 with ⟨rfl, e1⟩ | ⟨_, e1⟩
    · simp only [Option.some.injEq] at e1
      subst e1
      rcases h.has _ _ hb with q | ⟨q1, q2, R, q3, q4⟩
      · exact .inl q
      · simp only [Option.some.injEq] at q3
        subst q3
        exact .inr ⟨q1, q2, _, rfl, by simp only at q4 ⊢; omega⟩
    · exact h.has c B e1
  · have hx : ∀ x X, (M.put b (some ⟨cs, e, some ⟨n', s, cell⟩⟩)).get x = some X → ∃ Y, M.get x = some Y := fun x X hx => by
      rcases Mem.get_put hlt hx with ⟨rfl, _⟩ | ⟨_, e1⟩
      · exact ⟨_, hb⟩
      · exact ⟨_, e1⟩
    obtain ⟨Y, hY⟩ := hx c B h1
    obtain ⟨Y', hY'⟩ := hx c' B' h2
    exact h.inj c c' Y Y' g t t' hY hY' h3 h4
  · rcases Mem.get_put hlt h1 with ⟨rfl, _⟩ | ⟨_, e1⟩
    · exact h.apart _ _ g t hb h2
    · exact h.apart c B g t e1 h2
def lastI (os : List Int) : Int := if eqI (os.length : Nat) 0 = true then -1 else os.getD (os.length - 1) 0
def putN (n : NdV) (os : List Int) : NdV := ⟨lastI os, n.tag, n.id, n.cls, n.atts, n.text⟩
def wordN (n : NdV) (os : List Int) : NdV := ⟨lastI os, ⟨#[]⟩, ⟨#[]⟩, [], [], n.text⟩
namespace Sy
def NRows (n : Nat) (c : Nat → Nat → AV) (ns : List NdV) : Prop := n = ns.length ∧ ∀ (σ : Nat → Option Nat) i j, i < n → j < 6 → RenV σ (c i j) (ndcell ns i j)
theorem ndA_free (n : NdV) (j : Nat) : Free (ndA n j) := by
  unfold ndA
  split
  · trivial
  · trivial
  · trivial
  · exact viewOf_free _ _ _ _
  · exact viewOf_free _ _ _ _
  · trivial
theorem NRows.base (ns : List NdV) : NRows ns.length (ndcell ns) ns := ⟨rfl, fun σ i j _ _ => RenV.free σ (ndA_free _ j)⟩
theorem NRows.app1 {n : Nat} {c c' : Nat → Nat → AV} {ns : List NdV} (x : NdV) (h : NRows n c ns) (hx : ∀ (σ : Nat → Option Nat) j, j < 6 → RenV σ (c' 0 j) (ndA x j)) : NRows (n + 1) (appc n c c') (ns ++ [x]) := ⟨by rw [h.1]; simp, fun σ i j hi hj => by
  have hl := h.1
  by_cases hlt : i < n
  · rw [appc_lt hlt]
    have : (ns ++ [x]).getD i ndNone = ns.getD i ndNone := by
      simp only [List.getD_eq_getElem?_getD]
      rw [List.getElem?_append_left (by omega)]
    have h3 := h.2 σ i j hlt hj
    unfold ndcell at h3 ⊢
    rw [this]
    exact h3
  · have e : i = n := by omega
    subst e
    rw [appc_ge (Nat.le_refl _), Nat.sub_self]
    have : (ns ++ [x]).getD i ndNone = x := by
      simp only [List.getD_eq_getElem?_getD]
      rw [List.getElem?_append_right (by omega), hl, Nat.sub_self]; rfl
    unfold ndcell
    rw [this]
    exact hx σ j hj⟩
def ZRows (n : Nat) (c : Nat → Nat → AV) (os : List Int) : Prop := n = os.length ∧ ∀ i j, i < n → j < 1 → c i j = zcell os i j
theorem ZRows.base (os : List Int) : ZRows os.length (zcell os) os := ⟨rfl, fun i j _ _ => rfl⟩
theorem ZRows.app1 {n : Nat} {c c' : Nat → Nat → AV} {os : List Int} (x : Int) (h : ZRows n c os) (hx : c' 0 0 = int x) : ZRows (n + 1) (appc n c c') (os ++ [x]) := ⟨by rw [h.1]; simp, fun i j hi hj => by
  have hl := h.1
  obtain rfl : j = 0 := by omega
  by_cases hlt : i < n
  · rw [appc_lt hlt, h.2 i 0 hlt hj]
    unfold zcell
    simp only [List.getD_eq_getElem?_getD]
    rw [List.getElem?_append_left (by omega)]
  · have e : i = n := by omega
    subst e
    rw [appc_ge (Nat.le_refl _), Nat.sub_self, hx]
    unfold zcell
    simp only [List.getD_eq_getElem?_getD]
    rw [List.getElem?_append_right (by omega), hl, Nat.sub_self]; rfl⟩
theorem ZRows.cut {n : Nat} {os : List Int} (h : n = os.length - 1) : ZRows n (zcell os) os.dropLast := ⟨by rw [h, List.length_dropLast], fun i j hi hj => by
  unfold zcell
  simp only [List.getD_eq_getElem?_getD]
  rw [List.getElem?_dropLast, if_pos (by omega)]⟩
end Sy
theorem Sy.idx_last {os : List Int} (ho : os.length ≤ 64) (h : eqI ((os.length : Nat) : Int) 0 = false) : inR (w64 ((os.length : Nat) - 1 : Int)) os.length = true ∧ Nat.blt (w64 ((os.length : Nat) - 1 : Int)).toNat os.length = true ∧ (∀ σ, RenV σ (zcell os (w64 ((os.length : Nat) - 1 : Int)).toNat 0) (int (lastI os))) ∧ (w64 ((os.length : Nat) - 1 : Int)).toNat = os.length - 1 ∧ (true && (leI 0 (w64 ((os.length : Nat) - 1 : Int)) && leI (w64 ((os.length : Nat) - 1 : Int)) (os.length : Nat))) = true := by
  have h' := h
  rw [eqI_f] at h'
  have e : w64 ((os.length : Nat) - 1 : Int) = (os.length : Int) - 1 := w64_in (by omega)
  have e2 : ((os.length : Int) - 1).toNat = os.length - 1 := by omega
  rw [e, e2]
  refine ⟨by rw [inR_t]; omega, by rw [Nat.blt_eq]; omega, fun σ => ?_, rfl, ?_⟩
  · unfold lastI zcell
    rw [if_neg (by rw [h]; decide)]
    exact RenV.free σ trivial
  · simp only [Bool.true_and, Bool.and_eq_true, leI_t]; omega
theorem elem_lens {n : NdV} (h : elemB n = true) : n.cls.length ≤ 1024 ∧ n.atts.length ≤ 1024 := by
  unfold elemB at h
  simp only [Bool.and_eq_true, leI_t] at h
  omega
end Go.Proofs.Ytglkdhmikpejnaa
namespace Go.Proofs.Ytglkdhmikpejnaa
open Go Go.RowKit Pl Sy
namespace Sy
abbrev bdB (x n y m : Nat) : Blk := ⟨[.own x n 6, .own y m 1], 70, none⟩
abbrev bdM (ns : List NdV) (os : List Int) : Mem := ⟨3, 0, [some (irowB os), some (nrowB ns), some (bdB 1 ns.length 2 os.length)]⟩
end Sy
end Go.Proofs.Ytglkdhmikpejnaa
namespace Go.Proofs.Ytglkdhmikpejnaa
open Go Go.RowKit Pl Sy
namespace Sy
def NEq (n : Nat) (c : Nat → Nat → AV) (ns : List NdV) : Prop := n = ns.length ∧ ∀ i j, i < n → j < 6 → c i j = ndcell ns i j
theorem NEq.base (ns : List NdV) : NEq ns.length (ndcell ns) ns := ⟨rfl, fun _ _ _ _ => rfl⟩
theorem NEq.app1 {n : Nat} {c c' : Nat → Nat → AV} {ns : List NdV} (x : NdV) (h : NEq n c ns) (hx : ∀ j, j < 6 → c' 0 j = ndA x j) : NEq (n + 1) (appc n c c') (ns ++ [x]) := ⟨by rw [h.1]; simp, fun i j hi hj => by
  have hl := h.1
  by_cases hlt : i < n
  · rw [appc_lt hlt, h.2 i j hlt hj]
    have : (ns ++ [x]).getD i ndNone = ns.getD i ndNone := by
      simp only [List.getD_eq_getElem?_getD]
      rw [List.getElem?_append_left (by omega)]
    unfold ndcell
    rw [this]
  · have e : i = n := by omega
    subst e
    rw [appc_ge (Nat.le_refl _), Nat.sub_self, hx j hj]
    have : (ns ++ [x]).getD i ndNone = x := by
      simp only [List.getD_eq_getElem?_getD]
      rw [List.getElem?_append_right (by omega), hl, Nat.sub_self]; rfl
    unfold ndcell
    rw [this]⟩
def BEnd (M : Mem) (ns : List NdV) (os : List Int) : Prop := ∃ x n cx y m cy, M.get 0 = some (bdB x n y m) ∧ M.get x = some ⟨[], 40, some ⟨n, 6, cx⟩⟩ ∧ M.get y = some ⟨[], 3, some ⟨m, 1, cy⟩⟩ ∧ NEq n cx ns ∧ ZRows m cy os
theorem CallTo.cutRow {P : Program} {f : FuncId} {args : List AV} {M M1 : Mem} {v0 : AV} (h : CallTo P f args M fun v M' => v = v0 ∧ M' = M1) (b : Nat) {n : Nat} (n' : Nat) {s e : Nat} {cs : List AV} {cell : Nat → Nat → AV} (hb : M1.get b = some ⟨cs, e, some ⟨n, s, cell⟩⟩) (hn : n' ≤ n) : CallTo P f args M fun v M' => v = v0 ∧ M' = M1.put b (some ⟨cs, e, some ⟨n', s, cell⟩⟩) := fun w0 ρ us w hr hW => by
  refine (h w0 ρ us w hr hW).mono ?_
  rintro x w' ⟨ρ', u, v, M', rfl, q1, q2, q3, rfl, rfl⟩
  exact ⟨ρ', u, _, _, rfl, q1, q2, q3.cutRow hb hn, rfl, rfl⟩
structure BdX where
  bb : Nat
  x : Nat
  y : Nat
  rest : List AV
noncomputable def bdGet (args : List AV) (M : Mem) : Option BdX := match args with
  | .ptr bb 0 :: rest => match M.get bb with
    | some ⟨[.own x _ _, .own y _ _], _, none⟩ => some ⟨bb, x, y, rest⟩
    | _ => none
  | _ => none
theorem bdGet_ok {args : List AV} {M : Mem} {x : BdX} (hg : bdGet args M = some x) : args = .ptr x.bb 0 :: x.rest := by
  unfold bdGet at hg
  split at hg
  · split at hg
    · simp at hg; subst hg; rfl
    · cases hg
  · cases hg
noncomputable def bRes (M : Mem) (b x y : Nat) (ns : List NdV) (os : List Int) : Mem := ((((M.put x none).put y none).put b (some (bdB M.top ns.length (M.top + 1) os.length))).push (nrowB ns)).push (irowB os)
theorem bRes_get {M : Mem} {b x y : Nat} {ns : List NdV} {os : List Int} {B0 B1 B2 : Blk} (h0 : M.get b = some B0) (h1 : M.get x = some B1) (h2 : M.get y = some B2) {z : Nat} {B' : Blk} (h : (bRes M b x y ns os).get z = some B') :
    (z = M.top + 1 ∧ B' = irowB os) ∨ (z = M.top ∧ B' = nrowB ns) ∨ (z = b ∧ B' = bdB M.top ns.length (M.top + 1) os.length) ∨ (z < M.top ∧ z ≠ b ∧ z ≠ x ∧ z ≠ y ∧ M.get z = some B') := by
  have hb := Mem.get_lt h0
  have hx := Mem.get_lt h1
  have hy := Mem.get_lt h2
  unfold bRes at h
  rcases Mem.get_push h with ⟨e1, e2⟩ | ⟨e1, e2⟩
  · exact .inl ⟨e1, e2⟩
  · rcases Mem.get_push e2 with ⟨e3, e4⟩ | ⟨e3, e4⟩
    · exact .inr (.inl ⟨e3, e4⟩)
    · rcases Mem.get_put (M := (M.put x none).put y none) (b := b) hb e4 with ⟨rfl, e⟩ | ⟨e5, e6⟩
      · simp at e; exact .inr (.inr (.inl ⟨rfl, e.symm⟩))
      · rcases Mem.get_put (M := M.put x none) (b := y) hy e6 with ⟨_, e7⟩ | ⟨e7, e8⟩
        · cases e7
        · rcases Mem.get_put hx e8 with ⟨_, e9⟩ | ⟨e9, e10⟩
          · cases e9
          · exact .inr (.inr (.inr ⟨e3, e5, e9, e7, e10⟩))
theorem conB_frame {P : Program} {f : FuncId} {rest : List AV} {ns ns' : List NdV} {os os' : List Int} {v0 : AV} (h : CallTo P f (.ptr 0 0 :: rest) (bdM ns os) fun v M' => v = v0 ∧ BEnd M' ns' os') (hf : Frees rest) (hv : Free v0) {M : Mem} {b x y : Nat} (h0 : M.get b = some (bdB x ns.length y os.length)) (h1 : M.get x = some (nrowB ns)) (h2 : M.get y = some (irowB os)) :
    CallTo P f (.ptr b 0 :: rest) M fun v M' => v = v0 ∧ M' = bRes M b x y ns' os' := by
  have n1 : b ≠ x := fun e => by subst e; rw [h0] at h1; cases h1
  have n2 : b ≠ y := fun e => by subst e; rw [h0] at h2; cases h2
  have n3 : x ≠ y := fun e => by subst e; rw [h1] at h2; simp at h2
  refine CallTo.frameG (σ := nm [b, x, y]) h ⟨⟨rfl, rfl⟩, RenVs.free _ hf⟩ (.of rfl rfl (by simp [n1, n2, n3]) ⟨⟨y, _, rfl, h2, rfl, trivial, rfl, rfl, fun i j hi hj => RenV.free _ trivial⟩, ⟨x, _, rfl, h1, rfl, trivial, rfl, rfl, fun i j hi hj => RenV.free _ (ndA_free _ _)⟩, ⟨b, _, rfl, h0, rfl, ⟨⟨rfl, rfl, rfl⟩, ⟨rfl, rfl, rfl⟩, trivial⟩, trivial⟩, trivial⟩) ?_ ?_
  · intro z c hz
    rcases z with _ | _ | _ | z
    · exact ⟨_, rfl⟩
    · exact ⟨_, rfl⟩
    · exact ⟨_, rfl⟩
    · cases hz
  · rintro v M2 ⟨rfl, x2, n, cx, y2, m, cy, q0, q1, q2, q3, q4⟩
    have m1 : x2 ≠ 0 := fun e => by subst e; rw [q0] at q1; cases q1
    have m2 : y2 ≠ 0 := fun e => by subst e; rw [q0] at q2; cases q2
    have m3 : x2 ≠ y2 := fun e => by subst e; rw [q1] at q2; simp at q2
    have hbt := Mem.get_lt h0
    refine ⟨fun z => if z = b then some 0 else if z = M.top then some x2 else if z = M.top + 1 then some y2 else none, _, _, ⟨rfl, rfl⟩, RenV.free _ hv, Nat.le_succ_of_le (Nat.le_succ _), fun z c hz => ?_, fun z c hlt hz => ?_, fun z z' c hz hz' => ?_, fun z B' hz => ?_⟩
    · show z < M.top + 1 + 1
      split at hz
      · omega
      · split at hz
        · omega
        · split at hz
          · omega
          · cases hz
    · split at hz
      · rename_i e; subst e
        simp at hz; subst hz
        exact ⟨Nat.le_of_ble_eq_true rfl, rfl⟩
      · split at hz
        · omega
        · split at hz
          · omega
          · cases hz
    · have key : ∀ z, (if z = b then some 0 else if z = M.top then some x2 else if z = M.top + 1 then some y2 else none) = some c → (z = b ∧ c = 0) ∨ (z = M.top ∧ c = x2) ∨ (z = M.top + 1 ∧ c = y2) := fun z hz => by
        split at hz
        · simp at hz; exact .inl ⟨by assumption, hz.symm⟩
        · split at hz
          · simp at hz; exact .inr (.inl ⟨by assumption, hz.symm⟩)
          · split at hz
            · simp at hz; exact .inr (.inr ⟨by assumption, hz.symm⟩)
            · cases hz
      rcases key z hz with ⟨a1, a2⟩ | ⟨a1, a2⟩ | ⟨a1, a2⟩ <;> rcases key z' hz' with ⟨b1, b2⟩ | ⟨b1, b2⟩ | ⟨b1, b2⟩ <;> first | omega | (exfalso; omega)
    · rcases bRes_get h0 h1 h2 hz with ⟨rfl, rfl⟩ | ⟨rfl, rfl⟩ | ⟨rfl, rfl⟩ | ⟨e1, e2, e3, e4, e5⟩
      · refine .inr ⟨y2, _, by rw [if_neg (by omega), if_neg (by omega), if_pos rfl], q2, rfl, trivial, q4.1.symm, rfl, fun i j hi hj => ?_⟩
        show RenV _ (cy i j) (zcell os' i j)
        rw [q4.2 i j (by have := q4.1; simp only at hi; omega) hj]
        exact RenV.free _ trivial
      · refine .inr ⟨x2, _, by rw [if_neg (by omega), if_pos rfl], q1, rfl, trivial, q3.1.symm, rfl, fun i j hi hj => ?_⟩
        show RenV _ (cx i j) (ndcell ns' i j)
        rw [q3.2 i j (by have := q3.1; simp only at hi; omega) hj]
        exact RenV.free _ (ndA_free _ _)
      · refine .inr ⟨0, _, by rw [if_pos rfl], q0, rfl, ⟨⟨?_, q3.1, rfl⟩, ⟨?_, q4.1, rfl⟩, trivial⟩, trivial⟩
        · show (if M.top = z then some 0 else if M.top = M.top then some x2 else if M.top = M.top + 1 then some y2 else none) = some x2
          rw [if_neg (by omega), if_pos rfl]
        · show (if M.top + 1 = z then some 0 else if M.top + 1 = M.top then some x2 else if M.top + 1 = M.top + 1 then some y2 else none) = some y2
          rw [if_neg (by omega), if_neg (by omega), if_pos rfl]
      · refine .inl ⟨e1, fun c hc => ?_, e5⟩
        rcases c with _ | _ | _ | c
        · have : some b = some z := hc
          simp at this; omega
        · have : some x = some z := hc
          simp at this; omega
        · have : some y = some z := hc
          simp at this; omega
        · cases hc
noncomputable def conB (f : FuncId) (args0 : List AV) (ns : List NdV) (os : List Int) (ns' : List NdV) (os' : List Int) (C : Prop) (h : C → Frees args0 ∧ CallTo Try.prog f (.ptr 0 0 :: args0) (bdM ns os) fun v M' => v = int 0 ∧ BEnd M' ns' os') : Con Try.prog where
  f := f
  run := fun args M => match bdGet args M with
    | some x => some (int 0, bRes M x.bb x.x x.y ns' os')
    | none => none
  ob := fun args M => match bdGet args M with
    | some x => some (isSo (M.get x.bb = some (bdB x.x ns.length x.y os.length) ∧ M.get x.x = some (nrowB ns) ∧ M.get x.y = some (irowB os) ∧ x.rest = args0 ∧ C))
    | none => none
  ok := fun args M v M' hr hob => by
    cases hg : bdGet args M with
    | none => rw [hg] at hr; cases hr
    | some x =>
      rw [hg] at hr hob
      simp at hr
      obtain ⟨rfl, rfl⟩ := hr
      have h1 := hob _ rfl
      rw [isSo_t] at h1
      obtain ⟨g0, g1, g2, hrest, hC⟩ := h1
      obtain ⟨hf, h2⟩ := h hC
      rw [bdGet_ok hg, hrest]
      refine ⟨?_, conB_frame h2 hf trivial g0 g1 g2⟩
      unfold bRes
      exact ((((Grow.put M _ _).trans (Grow.put _ _ _)).trans (Grow.put _ _ _)).trans (Grow.push _ _)).trans (Grow.push _ _)
end Sy
end Go.Proofs.Ytglkdhmikpejnaa
namespace Go.Proofs.Ytglkdhmikpejnaa
open Go Go.RowKit Pl Sy
theorem last_some {os : List Int} (ho : os.length ≤ 64) (h : eqI ((os.length : Nat) : Int) 0 = false) : os.getD (w64 ((os.length : Nat) - 1 : Int)).toNat 0 = lastI os := by
  have e := (idx_last ho h).2.2.2.1
  rw [e]
  unfold lastI
  rw [if_neg (by rw [h]; decide)]
theorem last_none {os : List Int} (h : eqI ((os.length : Nat) : Int) 0 = true) : -1 = lastI os := by
  unfold lastI
  rw [if_pos h]
def OpnC (nd : NdV) (ns : List NdV) (os : List Int) : Prop := nd.Ok ∧ elemB nd = true ∧ ns.length < 1024 ∧ os.length < 64 ∧ (ns.length = 0 ∨ os.length ≠ 0)
def WrdC (x : ByteArray) (ns : List NdV) (os : List Int) : Prop := x.size ≤ maxLen ∧ textL x.data.toList = true ∧ ns.length < 1024 ∧ os.length < 64 ∧ os.length ≠ 0
def wrdN (x : ByteArray) (os : List Int) : NdV := ⟨lastI os, ⟨#[]⟩, ⟨#[]⟩, [], [], x⟩
theorem Sy.opn_t (nd : NdV) (ns : List NdV) (os : List Int) (h : OpnC nd ns os) : CallTo Try.prog 38 [.ptr 0 0, ndG nd] (bdM ns os) fun v M' => v = int 0 ∧ BEnd M' (ns ++ [putN nd os]) (os ++ [(ns.length : Int)]) :=
  to (G := fun r => r.1 = int 0 ∧ BEnd r.2 (ns ++ [putN nd os]) (os ++ [(ns.length : Int)])) [cElm1 nd, cClS nd.cls, cClA nd.atts] [] 400 30 (.auto 0 (.br (.auto 5 (.br (.auto 0 (.yes (.auto 1 (.br .done (.br (.auto 0 .done) (.br (.auto 0 .done) (.auto 0 (.yes (.yes (.br (.yes (.yes (.yes (.yes .done)))) (.yes (.yes .done)))))))))))) (.auto 3 .done))) (.auto 7 (.yes (.auto 1 (.br .done (.br (.auto 0 .done) (.br (.auto 0 .done) (.auto 0 (.yes (.yes (.br (.yes (.yes (.yes (.yes .done)))) (.yes (.yes .done)))))))))))))) (let e1 := (0 : Int); let e2 := (((os).length : Nat) : Int); let e3 := (int (nd).par); let e4 := (@AV.lit (@Value.string (nd).tag)); let e5 := (@AV.lit (@Value.string (nd).id)); let e6 := (@ByteArray.mk (@Array.mk _ [])); let e7 := (@Value.tuple (@Array.mk _ [])); let e8 := (@AV.view ((nd).cls).length 1 (fun y0 => (fun y1 => (@AV.lit ([(@Value.string ((nd).cls.getD y0 e6))].getD y1 e7))))); let e9 := (@AV.view ((nd).atts).length 2 (fun y0 => (fun y1 => (@AV.lit ([(@Value.string (((nd).atts.getD y0 attrNone)).name), (@Value.string (((nd).atts.getD y0 attrNone)).value)].getD y1 e7))))); let e10 := (@AV.lit (@Value.string (nd).text)); let e11 := (@AV.agg [e3, e4, e5, e8, e9, e10]); let e12 := (some (@Blk.mk [e3, e4, e5, e8, e9, e10] 40 none)); let e13 := (@Mem.mk (3 + 1) 0 [e12, (some (@Blk.mk [] 3 (some (@Rw.mk (os).length 1 (@zcell os))))), (some (@Blk.mk [] 40 (some (@Rw.mk (ns).length 6 (@ndcell ns))))), (some (@Blk.mk [(@AV.own 1 (ns).length 6), (@AV.own 2 (os).length 1)] 70 none))]); let e14 := ((ns).length + 1); let e15 := (Bool.true && ((@Nat.ble (ns).length (ns).length) && ((@Nat.ble (e14 * 104) 140737488355328) && (@Nat.ble e14 17592186044416)))); let e16 := ((os).length + 1); let e17 := (Bool.true && ((@Nat.ble (os).length (os).length) && ((@Nat.ble (e16 * 8) 140737488355328) && (@Nat.ble e16 17592186044416)))); let e18 := (((((3 + 1) + 1) + 1) + 1) + 1); let e19 := (((((((((0 + 1) + 1) + 1) + 1) + 1) + 1) + 1) + 1) + 1); let e20 := (int (w64 (((e14 : Nat) : Int) - (1 : Int)))); let e21 := (e20 :: (@List.drop _ (0 + ([e20]).length) (@List.map _ _ AV.lit (@Array.toList _ (@Array.mk _ [(@List.get _ (@Array.toList _ (@Array.mk _ [(@Value.int IntKind.i64 e1)])) (@Fin.mk _ 0 (@Nat.le_of_ble_eq_true _ _ (@Eq.refl _ true))))]))))); let e22 := (some (@Blk.mk [] 3 (some (@Rw.mk e16 1 (@appc (os).length (@zcell os) (fun y0 => (fun y1 => (@getA (@List.take _ 1 e21) ((y0 * 1) + y1))))))))); let e23 := (int (os.getD ((w64 (e2 - (1 : Int)))).toNat e1)); let e24 := (@AV.view ((nd).cls).length 1 (fun y2 => (fun y3 => (@AV.lit ([(@Value.string ((nd).cls.getD y2 e6))].getD y3 e7))))); let e25 := (@AV.view ((nd).atts).length 2 (fun y2 => (fun y3 => (@AV.lit ([(@Value.string (((nd).atts.getD y2 attrNone)).name), (@Value.string (((nd).atts.getD y2 attrNone)).value)].getD y3 e7))))); let e26 := (e4 :: e5 :: e24 :: e25 :: [e10]); let e27 := (@Value.string e6); let e28 := (@Value.slice none 0 0); let e29 := (@Array.toList _ (@Array.mk _ [(@Value.int IntKind.i64 e1), e27, e27, e28, e28, e27])); let e30 := (@List.map _ _ AV.lit (@Array.toList _ (@Array.mk _ [(@List.get _ e29 (@Fin.mk _ 0 (@Nat.le_of_ble_eq_true _ _ (@Eq.refl _ true)))), (@List.get _ e29 (@Fin.mk _ 1 (@Nat.le_of_ble_eq_true _ _ (@Eq.refl _ true)))), (@List.get _ e29 (@Fin.mk _ 2 (@Nat.le_of_ble_eq_true _ _ (@Eq.refl _ true)))), (@List.get _ e29 (@Fin.mk _ 3 (@Nat.le_of_ble_eq_true _ _ (@Eq.refl _ true)))), (@List.get _ e29 (@Fin.mk _ 4 (@Nat.le_of_ble_eq_true _ _ (@Eq.refl _ true)))), (@List.get _ e29 (@Fin.mk _ 5 (@Nat.le_of_ble_eq_true _ _ (@Eq.refl _ true))))]))); let e31 := (e4 :: e5 :: e8 :: e9 :: [e10]); let e32 := (e3 :: e4 :: e5 :: e8 :: e9 :: [e10]); let e33 := (some (@Blk.mk (e3 :: e4 :: e5 :: e8 :: e9 :: (e10 :: (@List.drop _ (0 + (e32).length) [(int e1), (@AV.lit e27), (@AV.lit e27), (@AV.lit e28), (@AV.lit e28), (@AV.lit e27)]))) 40 none)); let e34 := (some (@Blk.mk (e3 :: e4 :: e5 :: e8 :: e9 :: (@List.drop _ (4 + ([e9]).length) [e3, e4, e5, e8, e9, e10])) 40 none)); let e35 := (int (-1 : Int)); let e36 := (e35 :: (@List.drop _ 1 e32)); let e37 := (@AV.own ((e18 + 1) + 1) e16 1); let e38 := (some (@Blk.mk ((@AV.own e18 e14 6) :: e37 :: (@List.drop _ (1 + ([e37]).length) [(@AV.own e18 e14 6), (@AV.own 2 (os).length 1)])) 70 none)); (.fork (!(leI (((ns).length : Nat) : Int) e1)) (.fork (!(eqI e2 e1)) (.need (@isSo (@And ((@HAppend.hAppend _ _ _ _ (@HAppend.hAppend _ _ _ _ [] [e11]) []) = [e11]) (@And ((@ByteArray.size (nd).tag) ≤ 9223372036854775807) (@And ((@ByteArray.size (nd).id) ≤ 9223372036854775807) (@And (@And (((nd).cls).length ≤ 17592186044416) (∀ (s : ByteArray), s ∈ nd.cls → s.size ≤ maxLen)) (@And (@And (((nd).atts).length ≤ 17592186044416) (∀ (t : AttrV), t ∈ nd.atts → t.Ok)) ((@ByteArray.size (nd).text) ≤ 9223372036854775807))))))) (.fork (!(@elemB nd)) (.leaf ((int (34 : Int)), e13)) (.fork (leI (1024 : Int) (((ns).length : Nat) : Int)) (.leaf ((int (32 : Int)), e13)) (.fork (leI (64 : Int) e2) (.leaf ((int (31 : Int)), e13)) (.need (@isSo (@And ((@HAppend.hAppend _ _ _ _ (@HAppend.hAppend _ _ _ _ [] [e8]) []) = [e8]) (@Or (false = true) (((nd).cls).length ≤ 1024)))) (.need (@isSo (@And ((@HAppend.hAppend _ _ _ _ (@HAppend.hAppend _ _ _ _ [] [e9]) []) = [e9]) (@Or (false = true) (((nd).atts).length ≤ 1024)))) (.fork (!(leI e2 e1)) (.need (@inR (w64 (e2 - (1 : Int))) (os).length) (.need (@Nat.blt ((w64 (e2 - (1 : Int)))).toNat (os).length) (.need e15 (.need e17 (.leaf ((int e1), (@Mem.mk (((e18 + 1) + 1) + 1) (e19 + 1) (e22 :: ((some (@Blk.mk e21 3 none)) :: ((some (@Blk.mk [] 40 (some (@Rw.mk e14 6 (@appc (ns).length (@ndcell ns) (fun y0 => (fun y1 => (@getA (@List.take _ 6 (e23 :: (e4 :: e5 :: e24 :: e25 :: (e10 :: (@List.drop _ (0 + ((e23 :: e26)).length) e30))))) ((y0 * 6) + y1))))))))) :: ((some (@Blk.mk (e23 :: (e4 :: e5 :: e8 :: e9 :: (e10 :: (@List.drop _ (0 + ((e23 :: e31)).length) e30)))) 40 none)) :: [e33, e34, (some (@Blk.mk (e23 :: (@List.drop _ (0 + ([e23]).length) e36)) 40 none)), e12, none, none, e38]))))))))))) (.need e15 (.need e17 (.leaf ((int e1), (@Mem.mk (((e18 + 1) + 1) + 1) e19 (e22 :: ((some (@Blk.mk e21 3 none)) :: ((some (@Blk.mk [] 40 (some (@Rw.mk e14 6 (@appc (ns).length (@ndcell ns) (fun y0 => (fun y1 => (@getA (@List.take _ 6 (e35 :: (e4 :: e5 :: e24 :: e25 :: (e10 :: (@List.drop _ (0 + ((e35 :: e26)).length) e30))))) ((y0 * 6) + y1))))))))) :: ((some (@Blk.mk (e35 :: (e4 :: e5 :: e8 :: e9 :: (e10 :: (@List.drop _ (0 + ((e35 :: e31)).length) e30)))) 40 none)) :: [e33, e34, (some (@Blk.mk e36 40 none)), e12, none, none, e38])))))))))))))))) (.leaf ((int (34 : Int)), e13))) (.need (@isSo (@And ((@HAppend.hAppend _ _ _ _ (@HAppend.hAppend _ _ _ _ [] [e11]) []) = [e11]) (@And ((@ByteArray.size (nd).tag) ≤ 9223372036854775807) (@And ((@ByteArray.size (nd).id) ≤ 9223372036854775807) (@And (@And (((nd).cls).length ≤ 17592186044416) (∀ (s : ByteArray), s ∈ nd.cls → s.size ≤ maxLen)) (@And (@And (((nd).atts).length ≤ 17592186044416) (∀ (t : AttrV), t ∈ nd.atts → t.Ok)) ((@ByteArray.size (nd).text) ≤ 9223372036854775807))))))) (.fork (!(@elemB nd)) (.leaf ((int (34 : Int)), e13)) (.fork (leI (1024 : Int) (((ns).length : Nat) : Int)) (.leaf ((int (32 : Int)), e13)) (.fork (leI (64 : Int) e2) (.leaf ((int (31 : Int)), e13)) (.need (@isSo (@And ((@HAppend.hAppend _ _ _ _ (@HAppend.hAppend _ _ _ _ [] [e8]) []) = [e8]) (@Or (false = true) (((nd).cls).length ≤ 1024)))) (.need (@isSo (@And ((@HAppend.hAppend _ _ _ _ (@HAppend.hAppend _ _ _ _ [] [e9]) []) = [e9]) (@Or (false = true) (((nd).atts).length ≤ 1024)))) (.fork (!(leI e2 e1)) (.need (@inR (w64 (e2 - (1 : Int))) (os).length) (.need (@Nat.blt ((w64 (e2 - (1 : Int)))).toNat (os).length) (.need e15 (.need e17 (.leaf ((int e1), (@Mem.mk (((e18 + 1) + 1) + 1) (e19 + 1) (e22 :: ((some (@Blk.mk e21 3 none)) :: ((some (@Blk.mk [] 40 (some (@Rw.mk e14 6 (@appc (ns).length (@ndcell ns) (fun y0 => (fun y1 => (@getA (@List.take _ 6 (e23 :: (e4 :: e5 :: e24 :: e25 :: (e10 :: (@List.drop _ (0 + ((e23 :: e26)).length) e30))))) ((y0 * 6) + y1))))))))) :: ((some (@Blk.mk (e23 :: (e4 :: e5 :: e8 :: e9 :: (e10 :: (@List.drop _ (0 + ((e23 :: e31)).length) e30)))) 40 none)) :: [e33, e34, (some (@Blk.mk (e23 :: (@List.drop _ (0 + ([e23]).length) e36)) 40 none)), e12, none, none, e38]))))))))))) (.need e15 (.need e17 (.leaf ((int e1), (@Mem.mk (((e18 + 1) + 1) + 1) e19 (e22 :: ((some (@Blk.mk e21 3 none)) :: ((some (@Blk.mk [] 40 (some (@Rw.mk e14 6 (@appc (ns).length (@ndcell ns) (fun y0 => (fun y1 => (@getA (@List.take _ 6 (e35 :: (e4 :: e5 :: e24 :: e25 :: (e10 :: (@List.drop _ (0 + ((e35 :: e26)).length) e30))))) ((y0 * 6) + y1))))))))) :: ((some (@Blk.mk (e35 :: (e4 :: e5 :: e8 :: e9 :: (e10 :: (@List.drop _ (0 + ((e35 :: e31)).length) e30)))) 40 none)) :: [e33, e34, (some (@Blk.mk e36 40 none)), e12, none, none, e38])))))))))))))))))) (by kernel_rfl) (by
    obtain ⟨hok, hel, hn, ho, hno⟩ := h
    have hok2 : nd.tag.size ≤ 9223372036854775807 ∧ nd.id.size ≤ 9223372036854775807 ∧ (nd.cls.length ≤ 17592186044416 ∧ ∀ s ∈ nd.cls, s.size ≤ maxLen) ∧ (nd.atts.length ≤ 17592186044416 ∧ ∀ t ∈ nd.atts, t.Ok) ∧ nd.text.size ≤ 9223372036854775807 := hok
    obtain ⟨hl1, hl2⟩ := elem_lens hel
    have f1 : leI 1024 ((ns.length : Nat) : Int) = false := by rw [leI_f]; omega
    have f2 : leI 64 ((os.length : Nat) : Int) = false := by rw [leI_f]; omega
    have hroomA : (Bool.true && ((Nat.ble ns.length ns.length) && ((Nat.ble ((ns.length + 1) * 104) 140737488355328) && (Nat.ble (ns.length + 1) 17592186044416)))) = true := by
      simp only [Bool.true_and, Bool.and_eq_true, Nat.ble_eq]; omega
    have hroomB : (Bool.true && ((Nat.ble os.length os.length) && ((Nat.ble ((os.length + 1) * 8) 140737488355328) && (Nat.ble (os.length + 1) 17592186044416)))) = true := by
      simp only [Bool.true_and, Bool.and_eq_true, Nat.ble_eq]; omega
    have hw : w64 ((((ns.length + 1 : Nat) : Int)) - 1) = (ns.length : Int) := by
      rw [show (((ns.length + 1 : Nat) : Int)) - 1 = (ns.length : Int) by omega]
      exact w64_in (by omega)
    conv => zeta
    cases hm : eqI ((os.length : Nat) : Int) 0 with
    | true =>
      have f3 : leI ((os.length : Nat) : Int) 0 = true := by
        have hm' := hm
        rw [eqI_t] at hm'
        rw [leI_t]; omega
      have f4 : leI ((ns.length : Nat) : Int) 0 = true := by
        have hm' := hm
        rw [eqI_t] at hm'
        rw [leI_t]; omega
      have hlast := last_none hm
      (repeat' (first
            | (refine need_so ?_ ?_; (focus (first | exact ⟨rfl, by assumption⟩ | exact ⟨rfl, Or.inr (by assumption)⟩ | exact ⟨rfl, Or.inl rfl⟩ | assumption)))
            | (refine need_t ?_ ?_; (focus (first | assumption | exact hroomA | exact hroomB)))
            | (refine fork_t ?_ ?_; (focus (first | assumption | (simp only [*, Bool.not_true, Bool.not_false]; done))))
            | (refine fork_f ?_ ?_; (focus (first | assumption | (simp only [*, Bool.not_true, Bool.not_false]; done))))))
      exact ⟨rfl, 8, _, _, 10, _, _, rfl, rfl, rfl, NEq.app1 _ (NEq.base _) (fun j hj => by
        rcases j with _ | _ | _ | _ | _ | _ | j
        · exact congrArg int hlast
        · exact rfl
        · exact rfl
        · exact rfl
        · exact rfl
        · exact rfl
        · omega), ZRows.app1 _ (ZRows.base _) (congrArg int hw)⟩
    | false =>
      have hm' := hm
      rw [eqI_f] at hm'
      have f3 : leI ((os.length : Nat) : Int) 0 = false := by rw [leI_f]; omega
      have hlast := last_some (by omega) hm
      obtain ⟨g1, g2, _⟩ := idx_last (os := os) (by omega) hm
      cases f4 : leI ((ns.length : Nat) : Int) 0 with
      | true =>
        (repeat' (first
            | (refine need_so ?_ ?_; (focus (first | exact ⟨rfl, by assumption⟩ | exact ⟨rfl, Or.inr (by assumption)⟩ | exact ⟨rfl, Or.inl rfl⟩ | assumption)))
            | (refine need_t ?_ ?_; (focus (first | assumption | exact hroomA | exact hroomB)))
            | (refine fork_t ?_ ?_; (focus (first | assumption | (simp only [*, Bool.not_true, Bool.not_false]; done))))
            | (refine fork_f ?_ ?_; (focus (first | assumption | (simp only [*, Bool.not_true, Bool.not_false]; done))))))
        exact ⟨rfl, 8, _, _, 10, _, _, rfl, rfl, rfl, NEq.app1 _ (NEq.base _) (fun j hj => by
          rcases j with _ | _ | _ | _ | _ | _ | j
          · exact congrArg int hlast
          · exact rfl
          · exact rfl
          · exact rfl
          · exact rfl
          · exact rfl
          · omega), ZRows.app1 _ (ZRows.base _) (congrArg int hw)⟩
      | false =>
        (repeat' (first
            | (refine need_so ?_ ?_; (focus (first | exact ⟨rfl, by assumption⟩ | exact ⟨rfl, Or.inr (by assumption)⟩ | exact ⟨rfl, Or.inl rfl⟩ | assumption)))
            | (refine need_t ?_ ?_; (focus (first | assumption | exact hroomA | exact hroomB)))
            | (refine fork_t ?_ ?_; (focus (first | assumption | (simp only [*, Bool.not_true, Bool.not_false]; done))))
            | (refine fork_f ?_ ?_; (focus (first | assumption | (simp only [*, Bool.not_true, Bool.not_false]; done))))))
        exact ⟨rfl, 8, _, _, 10, _, _, rfl, rfl, rfl, NEq.app1 _ (NEq.base _) (fun j hj => by
          rcases j with _ | _ | _ | _ | _ | _ | j
          · exact congrArg int hlast
          · exact rfl
          · exact rfl
          · exact rfl
          · exact rfl
          · exact rfl
          · omega), ZRows.app1 _ (ZRows.base _) (congrArg int hw)⟩)
theorem Sy.wrd_t (x : ByteArray) (ns : List NdV) (os : List Int) (h : WrdC x ns os) : CallTo Try.prog 41 [.ptr 0 0, .lit (.string x)] (bdM ns os) fun v M' => v = int 0 ∧ BEnd M' (ns ++ [wrdN x os]) os :=
  to (G := fun r => r.1 = int 0 ∧ BEnd r.2 (ns ++ [wrdN x os]) os) [cText, cClS [], cClA []] [] 400 30 (.auto 0 (.br (.auto 0 (.yes (.auto 1 (.br .done (.br (.auto 0 .done) (.br (.auto 0 .done) (.auto 0 (.yes (.yes (.br (.yes (.yes (.yes .done))) (.yes .done))))))))))) (.auto 3 .done))) (let e1 := (((os).length : Nat) : Int); let e2 := (some (@Blk.mk [] 3 (some (@Rw.mk (os).length 1 (@zcell os))))); let e3 := (@Mem.mk 3 0 [e2, (some (@Blk.mk [] 40 (some (@Rw.mk (ns).length 6 (@ndcell ns))))), (some (@Blk.mk [(@AV.own 1 (ns).length 6), (@AV.own 2 (os).length 1)] 70 none))]); let e4 := (@Value.slice none 0 0); let e5 := (@AV.lit e4); let e6 := (@isSo (@And ((@HAppend.hAppend _ _ _ _ (@HAppend.hAppend _ _ _ _ [] [e5]) []) = [e5]) (@Or (true = true) (0 ≤ 1024)))); let e7 := ((ns).length + 1); let e8 := (Bool.true && ((@Nat.ble (ns).length (ns).length) && ((@Nat.ble (e7 * 104) 140737488355328) && (@Nat.ble e7 17592186044416)))); let e9 := (int (0 : Int)); let e10 := (((((3 + 1) + 1) + 1) + 1) + 1); let e11 := (((((((0 + 1) + 1) + 1) + 1) + 1) + 1) + 1); let e12 := (int (os.getD ((w64 (e1 - (1 : Int)))).toNat (0 : Int))); let e13 := (@ByteArray.mk (@Array.mk _ [])); let e14 := (@Value.string e13); let e15 := (@AV.lit e14); let e16 := (@Value.tuple (@Array.mk _ [])); let e17 := (@AV.view 0 1 (fun y2 => (fun y3 => (@AV.lit ([(@Value.string ([].getD y2 e13))].getD y3 e16))))); let e18 := (@AV.view 0 2 (fun y2 => (fun y3 => (@AV.lit ([(@Value.string (([].getD y2 attrNone)).name), (@Value.string (([].getD y2 attrNone)).value)].getD y3 e16))))); let e19 := (@AV.lit (@Value.string x)); let e20 := (e15 :: e15 :: e17 :: e18 :: [e19]); let e21 := (@Array.toList _ (@Array.mk _ [(@Value.int IntKind.i64 (0 : Int)), e14, e14, e4, e4, e14])); let e22 := (@List.map _ _ AV.lit (@Array.toList _ (@Array.mk _ [(@List.get _ e21 (@Fin.mk _ 0 (@Nat.le_of_ble_eq_true _ _ (@Eq.refl _ true)))), (@List.get _ e21 (@Fin.mk _ 1 (@Nat.le_of_ble_eq_true _ _ (@Eq.refl _ true)))), (@List.get _ e21 (@Fin.mk _ 2 (@Nat.le_of_ble_eq_true _ _ (@Eq.refl _ true)))), (@List.get _ e21 (@Fin.mk _ 3 (@Nat.le_of_ble_eq_true _ _ (@Eq.refl _ true)))), (@List.get _ e21 (@Fin.mk _ 4 (@Nat.le_of_ble_eq_true _ _ (@Eq.refl _ true)))), (@List.get _ e21 (@Fin.mk _ 5 (@Nat.le_of_ble_eq_true _ _ (@Eq.refl _ true))))]))); let e23 := (@AV.view 0 1 (fun y0 => (fun y1 => (@AV.lit ([(@Value.string ([].getD y0 e13))].getD y1 e16))))); let e24 := (@AV.view 0 2 (fun y0 => (fun y1 => (@AV.lit ([(@Value.string (([].getD y0 attrNone)).name), (@Value.string (([].getD y0 attrNone)).value)].getD y1 e16))))); let e25 := (e15 :: e15 :: e23 :: e24 :: [e19]); let e26 := (0 + ((e9 :: e15 :: e15 :: e23 :: e24 :: [e19])).length); let e27 := (some (@Blk.mk (e9 :: e15 :: e15 :: e23 :: e24 :: (e19 :: (@List.drop _ e26 [e9, e15, e15, e5, e5, e15]))) 40 none)); let e28 := (some (@Blk.mk (e9 :: e15 :: e15 :: e23 :: e24 :: (@List.drop _ (4 + ([e24]).length) (e9 :: e15 :: e15 :: e23 :: (@List.drop _ (3 + ([e23]).length) (e9 :: e15 :: e15 :: e5 :: e5 :: [e19]))))) 40 none)); let e29 := (int (-1 : Int)); let e30 := (e29 :: (@List.drop _ 1 (e9 :: e15 :: e15 :: e23 :: e24 :: (e19 :: (@List.drop _ e26 (e9 :: e15 :: e15 :: e5 :: e5 :: (e19 :: (@List.drop _ (5 + ([e19]).length) (@List.map _ _ AV.lit e21))))))))); let e31 := (some (@Blk.mk [(@AV.own ((((3 + 1) + 1) + 1) + 1) e7 6), (@AV.own 2 (os).length 1)] 70 none)); (.fork (!(eqI e1 (0 : Int))) (.need (@isSo ((@ByteArray.size x) ≤ 9223372036854775807)) (.fork (!(@Pl.textL (@Array.toList _ (@ByteArray.data x)))) (.leaf ((int (34 : Int)), e3)) (.fork (leI (1024 : Int) (((ns).length : Nat) : Int)) (.leaf ((int (32 : Int)), e3)) (.fork (leI (64 : Int) e1) (.leaf ((int (31 : Int)), e3)) (.need e6 (.need e6 (.fork (!(leI e1 (0 : Int))) (.need (@inR (w64 (e1 - (1 : Int))) (os).length) (.need (@Nat.blt ((w64 (e1 - (1 : Int)))).toNat (os).length) (.need e8 (.leaf (e9, (@Mem.mk e10 (e11 + 1) ((some (@Blk.mk [] 40 (some (@Rw.mk e7 6 (@appc (ns).length (@ndcell ns) (fun y0 => (fun y1 => (@getA (@List.take _ 6 (e12 :: (e15 :: e15 :: e17 :: e18 :: (e19 :: (@List.drop _ (0 + ((e12 :: e20)).length) e22))))) ((y0 * 6) + y1))))))))) :: ((some (@Blk.mk (e12 :: (e15 :: e15 :: e23 :: e24 :: (e19 :: (@List.drop _ (0 + ((e12 :: e25)).length) e22)))) 40 none)) :: [e27, e28, (some (@Blk.mk (e12 :: (@List.drop _ (0 + ([e12]).length) e30)) 40 none)), e2, none, e31])))))))) (.need e8 (.leaf (e9, (@Mem.mk e10 e11 ((some (@Blk.mk [] 40 (some (@Rw.mk e7 6 (@appc (ns).length (@ndcell ns) (fun y0 => (fun y1 => (@getA (@List.take _ 6 (e29 :: (e15 :: e15 :: e17 :: e18 :: (e19 :: (@List.drop _ (0 + ((e29 :: e20)).length) e22))))) ((y0 * 6) + y1))))))))) :: ((some (@Blk.mk (e29 :: (e15 :: e15 :: e23 :: e24 :: (e19 :: (@List.drop _ (0 + ((e29 :: e25)).length) e22)))) 40 none)) :: [e27, e28, (some (@Blk.mk e30 40 none)), e2, none, e31]))))))))))))) (.leaf ((int (34 : Int)), e3)))) (by kernel_rfl) (by
    obtain ⟨hok, htx, hn, ho, hno⟩ := h
    have hok2 : x.size ≤ 9223372036854775807 := hok
    have f1 : leI 1024 ((ns.length : Nat) : Int) = false := by rw [leI_f]; omega
    have f2 : leI 64 ((os.length : Nat) : Int) = false := by rw [leI_f]; omega
    have hroomA : (Bool.true && ((Nat.ble ns.length ns.length) && ((Nat.ble ((ns.length + 1) * 104) 140737488355328) && (Nat.ble (ns.length + 1) 17592186044416)))) = true := by
      simp only [Bool.true_and, Bool.and_eq_true, Nat.ble_eq]; omega
    have hroomB := hroomA
    conv => zeta
    have hm : eqI ((os.length : Nat) : Int) 0 = false := by rw [eqI_f]; omega
    have f3 : leI ((os.length : Nat) : Int) 0 = false := by rw [leI_f]; omega
    have hlast := last_some (by omega) hm
    obtain ⟨g1, g2, _⟩ := idx_last (os := os) (by omega) hm
    (repeat' (first
            | (refine need_so ?_ ?_; (focus (first | exact ⟨rfl, by assumption⟩ | exact ⟨rfl, Or.inr (by assumption)⟩ | exact ⟨rfl, Or.inl rfl⟩ | assumption)))
            | (refine need_t ?_ ?_; (focus (first | assumption | exact hroomA | exact hroomB)))
            | (refine fork_t ?_ ?_; (focus (first | assumption | (simp only [*, Bool.not_true, Bool.not_false]; done))))
            | (refine fork_f ?_ ?_; (focus (first | assumption | (simp only [*, Bool.not_true, Bool.not_false]; done))))))
    exact ⟨rfl, 7, _, _, 2, _, _, rfl, rfl, rfl, NEq.app1 _ (NEq.base _) (fun j hj => by
          rcases j with _ | _ | _ | _ | _ | _ | j
          · exact congrArg int hlast
          · exact rfl
          · exact rfl
          · exact rfl
          · exact rfl
          · exact rfl
          · omega), ZRows.base _⟩)
theorem Sy.clo_t (ns : List NdV) (os : List Int) (h : os.length ≤ 64 ∧ os.length ≠ 0) : CallTo Try.prog 40 [.ptr 0 0] (bdM ns os) fun v M' => v = int 0 ∧ BEnd M' ns os.dropLast := by
  obtain ⟨ho, hno⟩ := h
  have hm : eqI ((os.length : Nat) : Int) 0 = false := by rw [eqI_f]; omega
  obtain ⟨g1, g2, _, g4, g5⟩ := idx_last (os := os) ho hm
  have key : CallTo Try.prog 40 [.ptr 0 0] (bdM ns os) fun v M' => v = int 0 ∧ M' = ⟨3, 1, [some (irowB os), some (nrowB ns), some (bdB 1 ns.length 2 (w64 ((os.length : Nat) - 1 : Int)).toNat)]⟩ :=
    to (G := fun r => r.1 = int 0 ∧ r.2 = ⟨3, 1, [some (irowB os), some (nrowB ns), some (bdB 1 ns.length 2 (w64 ((os.length : Nat) - 1 : Int)).toNat)]⟩) [] [] 400 30 (.auto 0 (.br .done (.yes .done))) (.fork (eqI (((os).length : Nat) : Int) (0 : Int)) (.leaf ((int (34 : Int)), (@Mem.mk 3 0 [(some (@Blk.mk [] 3 (some (@Rw.mk (os).length 1 (@zcell os))))), (some (@Blk.mk [] 40 (some (@Rw.mk (ns).length 6 (@ndcell ns))))), (some (@Blk.mk [(@AV.own 1 (ns).length 6), (@AV.own 2 (os).length 1)] 70 none))]))) (.need (true && ((leI (0 : Int) (w64 ((((os).length : Nat) : Int) - (1 : Int)))) && (leI (w64 ((((os).length : Nat) : Int) - (1 : Int))) (((os).length : Nat) : Int)))) (.leaf ((int (0 : Int)), (@Mem.mk 3 (0 + 1) [(some (@Blk.mk [] 3 (some (@Rw.mk (os).length 1 (@zcell os))))), (some (@Blk.mk [] 40 (some (@Rw.mk (ns).length 6 (@ndcell ns))))), (some (@Blk.mk [(@AV.own 1 (ns).length 6), (@AV.own 2 ((w64 ((((os).length : Nat) : Int) - (1 : Int)))).toNat 1)] 70 none))]))))) (by kernel_rfl) (fork_f hm (need_t g5 ⟨rfl, rfl⟩))
  refine (key.cutRow 2 (w64 ((os.length : Nat) - 1 : Int)).toNat rfl (by omega)).mono fun v M' hg => ?_
  obtain ⟨rfl, rfl⟩ := hg
  exact ⟨rfl, 1, _, _, 2, _, _, rfl, rfl, rfl, NEq.base _, ZRows.cut g4⟩
noncomputable abbrev Sy.cOpn (nd : NdV) (ns : List NdV) (os : List Int) : Con Try.prog := conB 38 [ndG nd] ns os (ns ++ [putN nd os]) (os ++ [(ns.length : Int)]) (OpnC nd ns os) fun h => ⟨⟨ndG_free nd, trivial⟩, opn_t nd ns os h⟩
noncomputable abbrev Sy.cWrd (x : ByteArray) (ns : List NdV) (os : List Int) : Con Try.prog := conB 41 [.lit (.string x)] ns os (ns ++ [wrdN x os]) os (WrdC x ns os) fun h => ⟨⟨trivial, trivial⟩, wrd_t x ns os h⟩
noncomputable abbrev Sy.cClo (ns : List NdV) (os : List Int) : Con Try.prog := conB 40 [] ns os ns os.dropLast (os.length ≤ 64 ∧ os.length ≠ 0) fun h => ⟨trivial, clo_t ns os h⟩
end Go.Proofs.Ytglkdhmikpejnaa
namespace Go.Proofs.Ytglkdhmikpejnaa
open Go Go.RowKit Pl Sy
def ndN (ns : List NdV) (k : Int) : NdV := ns.getD k.toNat ndNone
namespace Sy
abbrev dnF (n : Nat) (m : Nat) (k : Int) : Fr := (some ((@AV.ptr 0 0)) :: none :: none :: none :: some (.own 3 m 6) :: (nn29 (some (.own 1 n 6) :: some (int (n : Nat)) :: some (int k) :: (nn10 []))))
abbrev dnM (ns : List NdV) (os : List Int) (out : List NdV) : Mem := ⟨4, 0, some (nrowB out) :: (bdM ns os).bs⟩
abbrev dnF2 (n : Nat) (m : Nat) (k : Int) : Fr := (some ((@AV.ptr 0 0)) :: none :: none :: none :: some (.own 4 m 6) :: (nn29 (some (.own 1 n 6) :: some (int (n : Nat)) :: some (int k) :: (nn10 []))))
abbrev dnM2 (ns : List NdV) (os : List Int) (out : List NdV) : Mem := ⟨5, 0, some (nrowB out) :: none :: (bdM ns os).bs⟩
end Sy
namespace Sy
abbrev dnZ : Value := .agg #[.int .i64 0, .string ⟨#[]⟩, .string ⟨#[]⟩, .slice none 0 0, .slice none 0 0, .string ⟨#[]⟩]
abbrev dnG (n x m : Nat) (k : Int) : Fr := (some ((@AV.ptr 0 0)) :: none :: none :: none :: some (.own x m 6) :: (nn29 (some (.own 1 n 6) :: some (int (n : Nat)) :: some (int k) :: (nn10 []))))
theorem dnF_ren (n : Nat) {x m m' : Nat} {k k' : Int} (hm : m = m') (hk : k = k') : RenF (nm [0, 1, 2, 3, x]) (dnG n x m k) (dnF2 n m' k') := by
  subst hm hk
  simp only [RenF, and_true]
  exact ⟨⟨rfl, rfl⟩, ⟨rfl, rfl, rfl⟩, ⟨rfl, rfl, rfl⟩, rfl, rfl⟩
theorem dnM_ren {M : Mem} {ns out : List NdV} {os : List Int} {x n : Nat} {c : Nat → Nat → AV} (hd : [0, 1, 2, 3, x].Nodup) (h0 : M.get 0 = some ⟨[.own 1 ns.length 6, .own 2 os.length 1], 70, none⟩)
    (h1 : M.get 1 = some (nrowB ns)) (h2 : M.get 2 = some (irowB os)) (h5 : M.get x = some ⟨[], 40, some ⟨n, 6, c⟩⟩)
    (r : NRows n c out) : RenM (nm [0, 1, 2, 3, x]) M (dnM2 ns os out) := by
  have z : RenR (nm [0, 1, 2, 3, x]) (some ⟨os.length, 1, zcell os⟩) (some ⟨os.length, 1, zcell os⟩) := ⟨rfl, rfl, fun i j hi hj => RenV.free _ trivial⟩
  have y : ∀ {n : Nat} {cz : Nat → Nat → AV} {ns : List NdV}, NRows n cz ns → RenR (nm [0, 1, 2, 3, x]) (some ⟨n, 6, cz⟩) (some ⟨ns.length, 6, ndcell ns⟩) := fun h => ⟨h.1.symm, rfl, fun i j hi hj => h.2 _ i j (by have := h.1; simp only at hi; omega) hj⟩
  refine .of rfl rfl hd ⟨⟨x, _, rfl, h5, rfl, trivial, y r⟩, ⟨2, _, rfl, h2, rfl, trivial, z⟩, ⟨1, _, rfl, h1, rfl, trivial, y (NRows.base ns)⟩, ⟨0, _, rfl, h0, rfl, ⟨⟨rfl, rfl, rfl⟩, ⟨rfl, rfl, rfl⟩, trivial⟩, trivial⟩, trivial⟩
theorem dnF_id (n : Nat) : RenF (nm [0, 1, 2, 3]) (dnF n 0 0) (dnF n 0 0) := by
  simp only [RenF, and_true]
  exact ⟨⟨rfl, rfl⟩, ⟨rfl, rfl, rfl⟩, ⟨rfl, rfl, rfl⟩, rfl, rfl⟩
theorem dnM_id (ns : List NdV) (os : List Int) : RenM (nm [0, 1, 2, 3]) ⟨4, 0, some ⟨[], 40, some ⟨0, 6, mkc dnZ⟩⟩ :: (bdM ns os).bs⟩ (dnM ns os []) := by
  have z : RenR (nm [0, 1, 2, 3]) (some ⟨os.length, 1, zcell os⟩) (some ⟨os.length, 1, zcell os⟩) := ⟨rfl, rfl, fun i j hi hj => RenV.free _ trivial⟩
  have y : ∀ {n : Nat} {cz : Nat → Nat → AV} {ns : List NdV}, NRows n cz ns → RenR (nm [0, 1, 2, 3]) (some ⟨n, 6, cz⟩) (some ⟨ns.length, 6, ndcell ns⟩) := fun h => ⟨h.1.symm, rfl, fun i j hi hj => h.2 _ i j (by have := h.1; simp only at hi; omega) hj⟩
  refine .of rfl rfl (by decide) ⟨⟨3, _, rfl, rfl, rfl, trivial, y (ns := []) ⟨rfl, fun σ i j hi hj => absurd hi (by omega)⟩⟩, ⟨2, _, rfl, rfl, rfl, trivial, z⟩, ⟨1, _, rfl, rfl, rfl, trivial, y (NRows.base ns)⟩, ⟨0, _, rfl, rfl, rfl, ⟨⟨rfl, rfl, rfl⟩, ⟨rfl, rfl, rfl⟩, trivial⟩, trivial⟩, trivial⟩
theorem dn_loop2 (ns : List NdV) (os : List Int) (hn : ns.length ≤ 1024) (hs : ∀ x ∈ ns, x.cls.length ≤ 1024 ∧ x.atts.length ≤ 1024) : ∀ (n k : Nat), k ≤ ns.length → ns.length - k < n →
    LoopToT 4 Try.prog (theBody Try.prog 22 8) n (dnF2 ns.length (ns.take k).length k) (dnM2 ns os (ns.take k)) (RG 4 fun ex F M => ex = .exit 1 ∧ F = dnF2 ns.length ns.length ns.length ∧ M = dnM2 ns os ns) := by
  intro n
  induction n with
  | zero => intro k h1 h2; omega
  | succ n ih =>
    intro k h1 h2
    have hk : (ns.take k).length = k := by rw [List.length_take]; omega
    refine roundT plain mixed 4 [cClS (ndN ns (k : Int)).cls, cClA (ndN ns (k : Int)).atts] [] 400 30 22 8 Try.func22 rfl (by kernel_rfl) (true :: false :: false :: false :: true :: (ff29 (true :: true :: true :: (ff10 [])))) ((.br (.yes (.yes (.yes (.yes (.yes .done))))) .done)) (let k0 := k; let k : Int := k; let out := ns.take k0; (let e1 := (@ByteArray.mk (@Array.mk _ [])); let e2 := (@Value.tuple (@Array.mk _ [])); let e3 := (@AV.view (((ns.getD (k).toNat ndNone)).cls).length 1 (fun y0 => (fun y1 => (@AV.lit ([(@Value.string (((ns.getD (k).toNat ndNone)).cls.getD y0 e1))].getD y1 e2))))); let e4 := (((@ndN ns k)).cls); let e5 := (@AV.view e4.length 1 (fun y0 => (fun y1 => (@AV.lit ([(@Value.string (((@ndN ns k)).cls.getD y0 e1))].getD y1 e2))))); let e6 := (@AV.view (((ns.getD (k).toNat ndNone)).atts).length 2 (fun y0 => (fun y1 => (@AV.lit ([(@Value.string ((((ns.getD (k).toNat ndNone)).atts.getD y0 attrNone)).name), (@Value.string ((((ns.getD (k).toNat ndNone)).atts.getD y0 attrNone)).value)].getD y1 e2))))); let e7 := (((@ndN ns k)).atts); let e8 := (@AV.view e7.length 2 (fun y0 => (fun y1 => (@AV.lit ([(@Value.string ((((@ndN ns k)).atts.getD y0 attrNone)).name), (@Value.string ((((@ndN ns k)).atts.getD y0 attrNone)).value)].getD y1 e2))))); let e9 := ((out).length + 1); let e10 := (some (@AV.own 1 (ns).length 6)); let e11 := (some (int (((ns).length : Nat) : Int))); let e12 := (int ((ns.getD (k).toNat ndNone)).par); let e13 := (@AV.lit (@Value.string ((ns.getD (k).toNat ndNone)).tag)); let e14 := (@AV.lit (@Value.string ((ns.getD (k).toNat ndNone)).id)); let e15 := (@AV.view e4.length 1 (fun y2 => (fun y3 => (@AV.lit ([(@Value.string (((@ndN ns k)).cls.getD y2 e1))].getD y3 e2))))); let e16 := (@AV.view e7.length 2 (fun y2 => (fun y3 => (@AV.lit ([(@Value.string ((((@ndN ns k)).atts.getD y2 attrNone)).name), (@Value.string ((((@ndN ns k)).atts.getD y2 attrNone)).value)].getD y3 e2))))); let e17 := (@AV.lit (@Value.string ((ns.getD (k).toNat ndNone)).text)); let e18 := (@Value.string e1); let e19 := (@Value.slice none 0 0); let e20 := (@Array.toList _ (@Array.mk _ [(@Value.int IntKind.i64 (0 : Int)), e18, e18, e19, e19, e18])); let e21 := (@List.map _ _ AV.lit (@Array.toList _ (@Array.mk _ [(@List.get _ e20 (@Fin.mk _ 0 (@Nat.le_of_ble_eq_true _ _ (@Eq.refl _ true)))), (@List.get _ e20 (@Fin.mk _ 1 (@Nat.le_of_ble_eq_true _ _ (@Eq.refl _ true)))), (@List.get _ e20 (@Fin.mk _ 2 (@Nat.le_of_ble_eq_true _ _ (@Eq.refl _ true)))), (@List.get _ e20 (@Fin.mk _ 3 (@Nat.le_of_ble_eq_true _ _ (@Eq.refl _ true)))), (@List.get _ e20 (@Fin.mk _ 4 (@Nat.le_of_ble_eq_true _ _ (@Eq.refl _ true)))), (@List.get _ e20 (@Fin.mk _ 5 (@Nat.le_of_ble_eq_true _ _ (@Eq.refl _ true))))]))); let e22 := (0 + ((e12 :: e13 :: e14 :: e5 :: e8 :: [e17])).length); let e23 := (@AV.lit e18); let e24 := (@AV.lit e19); let e25 := (some (@Blk.mk [] 3 (some (@Rw.mk (os).length 1 (@zcell os))))); let e26 := (some (@Blk.mk [] 40 (some (@Rw.mk (ns).length 6 (@ndcell ns))))); let e27 := (some (@Blk.mk [(@AV.own 1 (ns).length 6), (@AV.own 2 (os).length 1)] 70 none)); (.fork (!(leI (((ns).length : Nat) : Int) k)) (.need (@inR k (ns).length) (.need (@Nat.blt (k).toNat (ns).length) (.need (@isSo (@And ((@HAppend.hAppend _ _ _ _ (@HAppend.hAppend _ _ _ _ [] [e3]) []) = [e5]) (@Or (false = true) (e4.length ≤ 1024)))) (.need (@isSo (@And ((@HAppend.hAppend _ _ _ _ (@HAppend.hAppend _ _ _ _ [] [e6]) []) = [e8]) (@Or (false = true) (e7.length ≤ 1024)))) (.need (Bool.true && ((@Nat.ble (out).length (out).length) && ((@Nat.ble (e9 * 104) 140737488355328) && (@Nat.ble e9 17592186044416)))) (.leaf (Ex.norm, (((some (@AV.ptr 0 0)) :: none :: none :: none :: (some (@AV.own ((((5 + 1) + 1) + 1) + 1) e9 6)) :: (nn29 (e10 :: e11 :: (some (int (w64 (k + (1 : Int))))) :: (nn10 [])))), (@Mem.mk (((((5 + 1) + 1) + 1) + 1) + 1) (((((0 + 1) + 1) + 1) + 1) + 1) ((some (@Blk.mk [] 40 (some (@Rw.mk e9 6 (@appc (out).length (@ndcell out) (fun y0 => (fun y1 => (@getA (@List.take _ 6 (e12 :: e13 :: e14 :: e15 :: e16 :: (e17 :: (@List.drop _ (0 + ((e12 :: e13 :: e14 :: e15 :: e16 :: [e17])).length) e21)))) ((y0 * 6) + y1))))))))) :: ((some (@Blk.mk (e12 :: e13 :: e14 :: e5 :: e8 :: (e17 :: (@List.drop _ e22 e21))) 40 none)) :: ((some (@Blk.mk (e12 :: e13 :: e14 :: e5 :: e8 :: (e17 :: (@List.drop _ e22 [(int (0 : Int)), e23, e23, e24, e24, e23]))) 40 none)) :: (some (@Blk.mk (e12 :: e13 :: e14 :: e5 :: e8 :: (@List.drop _ (4 + ([e8]).length) (e12 :: e13 :: e14 :: e5 :: (@List.drop _ (3 + ([e5]).length) [e12, e13, e14, e3, e6, e17])))) 40 none)) :: [(some (@Blk.mk (e12 :: e13 :: e14 :: e3 :: e6 :: e17 :: (@List.drop _ (0 + ([e12, e13, e14, e3, e6, e17]).length) [(int (0 : Int)), e23, e23, e24, e24, e23])) 40 none)), none, none, e25, e26, e27])))))))))))) (.leaf ((@Ex.exit 1), (((some (@AV.ptr 0 0)) :: none :: none :: none :: (some (@AV.own 4 (out).length 6)) :: (nn29 (e10 :: e11 :: (some (int k)) :: (nn10 [])))), (@Mem.mk 5 0 [(some (@Blk.mk [] 40 (some (@Rw.mk (out).length 6 (@ndcell out))))), none, e25, e26, e27]))))))) (by kernel_rfl) ?_
    refine fork_ok (fun h3 => ?_) (fun h3 => ?_)
    · simp only [Bool.not_eq_true', Bool.not_eq_false', leI_t, leI_f, eqI_t, eqI_f, inR_t, inR_f, isSo_t, isSo_f] at h3
      have hin : inR (k : Int) ns.length = true := by rw [inR_t]; omega
      have hlt : Nat.blt (k : Int).toNat ns.length = true := by rw [Nat.blt_eq]; omega
      obtain ⟨hc, ha⟩ := hs _ (getD_mem ns (k : Int) ndNone (by omega) (by omega))
      have hroom : (true && (Nat.ble (ns.take k).length (ns.take k).length && (Nat.ble (((ns.take k).length + 1) * 104) 140737488355328 && Nat.ble ((ns.take k).length + 1) 17592186044416))) = true := by
        simp only [Bool.true_and, Bool.and_eq_true, Nat.ble_eq]; omega
      refine need_t hin (need_t hlt (need_so ⟨rfl, Or.inr hc⟩ (need_so ⟨rfl, Or.inr ha⟩ (need_t hroom ?_))))
      have et : ns.take (k + 1) = ns.take k ++ [ndN ns (k : Int)] := by
        unfold ndN
        rw [List.take_add_one, List.getD_eq_getElem?_getD]
        have hg : ns[k]? = some ns[k] := List.getElem?_eq_getElem (by omega)
        rw [Int.toNat_natCast, hg]; rfl
      have := ih (k + 1) (by omega) (by omega)
      rw [et] at this
      refine LoopToT.ren [0, 1, 2, 3, 9] rfl ?_ ?_ this
      · exact dnF_ren _ (by simp) (by rw [w64_in (by omega)]; rfl)
      · exact dnM_ren (by decide) rfl rfl rfl rfl (NRows.app1 _ (NRows.base _) (fun σ j hj => by
          rcases j with _ | _ | _ | _ | _ | _ | j
          · exact rfl
          · exact rfl
          · exact rfl
          · exact RenV.free σ (ndA_free (ndN ns (k : Int)) 3)
          · exact RenV.free σ (ndA_free (ndN ns (k : Int)) 4)
          · exact rfl
          · omega))
    · simp only [Bool.not_eq_true', Bool.not_eq_false', leI_t, leI_f, eqI_t, eqI_f, inR_t, inR_f, isSo_t, isSo_f] at h3
      have hk : k = ns.length := by omega
      subst hk
      rw [List.take_length]
      exact ⟨_, _, [0, 1, 2, 3, 4], rfl, dnF_ren _ rfl rfl, dnM_ren (by decide) rfl rfl rfl rfl (NRows.base _), rfl, rfl, rfl⟩
theorem dn_loop (ns : List NdV) (os : List Int) (h0 : 0 < ns.length) (hn : ns.length ≤ 1024) (hs : ∀ x ∈ ns, x.cls.length ≤ 1024 ∧ x.atts.length ≤ 1024) :
    LoopToT 4 Try.prog (theBody Try.prog 22 8) (ns.length + 1) (dnF ns.length ([] : List NdV).length 0) (dnM ns os []) (RG 4 fun ex F M => ex = .exit 1 ∧ F = dnF2 ns.length ns.length ns.length ∧ M = dnM2 ns os ns) := by
  refine roundT plain mixed 4 [cClS (ndN ns 0).cls, cClA (ndN ns 0).atts] [] 400 30 22 8 Try.func22 rfl (by kernel_rfl) (true :: false :: false :: false :: true :: (ff29 (true :: true :: true :: (ff10 [])))) ((.br (.yes (.yes (.yes (.yes (.yes .done))))) .done)) (let k : Int := 0; let out : List NdV := []; (let e1 := (@ByteArray.mk (@Array.mk _ [])); let e2 := (@Value.tuple (@Array.mk _ [])); let e3 := (@AV.view (((ns.getD (k).toNat ndNone)).cls).length 1 (fun y0 => (fun y1 => (@AV.lit ([(@Value.string (((ns.getD (k).toNat ndNone)).cls.getD y0 e1))].getD y1 e2))))); let e4 := (((@ndN ns k)).cls); let e5 := (@AV.view e4.length 1 (fun y0 => (fun y1 => (@AV.lit ([(@Value.string (((@ndN ns k)).cls.getD y0 e1))].getD y1 e2))))); let e6 := (@AV.view (((ns.getD (k).toNat ndNone)).atts).length 2 (fun y0 => (fun y1 => (@AV.lit ([(@Value.string ((((ns.getD (k).toNat ndNone)).atts.getD y0 attrNone)).name), (@Value.string ((((ns.getD (k).toNat ndNone)).atts.getD y0 attrNone)).value)].getD y1 e2))))); let e7 := (((@ndN ns k)).atts); let e8 := (@AV.view e7.length 2 (fun y0 => (fun y1 => (@AV.lit ([(@Value.string ((((@ndN ns k)).atts.getD y0 attrNone)).name), (@Value.string ((((@ndN ns k)).atts.getD y0 attrNone)).value)].getD y1 e2))))); let e9 := ((out).length + 1); let e10 := (some (@AV.own 1 (ns).length 6)); let e11 := (some (int (((ns).length : Nat) : Int))); let e12 := (int ((ns.getD (k).toNat ndNone)).par); let e13 := (@AV.lit (@Value.string ((ns.getD (k).toNat ndNone)).tag)); let e14 := (@AV.lit (@Value.string ((ns.getD (k).toNat ndNone)).id)); let e15 := (@AV.view e4.length 1 (fun y2 => (fun y3 => (@AV.lit ([(@Value.string (((@ndN ns k)).cls.getD y2 e1))].getD y3 e2))))); let e16 := (@AV.view e7.length 2 (fun y2 => (fun y3 => (@AV.lit ([(@Value.string ((((@ndN ns k)).atts.getD y2 attrNone)).name), (@Value.string ((((@ndN ns k)).atts.getD y2 attrNone)).value)].getD y3 e2))))); let e17 := (@AV.lit (@Value.string ((ns.getD (k).toNat ndNone)).text)); let e18 := (@Value.string e1); let e19 := (@Value.slice none 0 0); let e20 := (@Array.toList _ (@Array.mk _ [(@Value.int IntKind.i64 (0 : Int)), e18, e18, e19, e19, e18])); let e21 := (@List.map _ _ AV.lit (@Array.toList _ (@Array.mk _ [(@List.get _ e20 (@Fin.mk _ 0 (@Nat.le_of_ble_eq_true _ _ (@Eq.refl _ true)))), (@List.get _ e20 (@Fin.mk _ 1 (@Nat.le_of_ble_eq_true _ _ (@Eq.refl _ true)))), (@List.get _ e20 (@Fin.mk _ 2 (@Nat.le_of_ble_eq_true _ _ (@Eq.refl _ true)))), (@List.get _ e20 (@Fin.mk _ 3 (@Nat.le_of_ble_eq_true _ _ (@Eq.refl _ true)))), (@List.get _ e20 (@Fin.mk _ 4 (@Nat.le_of_ble_eq_true _ _ (@Eq.refl _ true)))), (@List.get _ e20 (@Fin.mk _ 5 (@Nat.le_of_ble_eq_true _ _ (@Eq.refl _ true))))]))); let e22 := (0 + ((e12 :: e13 :: e14 :: e5 :: e8 :: [e17])).length); let e23 := (@AV.lit e18); let e24 := (@AV.lit e19); let e25 := (some (@Blk.mk [] 3 (some (@Rw.mk (os).length 1 (@zcell os))))); let e26 := (some (@Blk.mk [] 40 (some (@Rw.mk (ns).length 6 (@ndcell ns))))); let e27 := (some (@Blk.mk [(@AV.own 1 (ns).length 6), (@AV.own 2 (os).length 1)] 70 none)); (.fork (!(leI (((ns).length : Nat) : Int) k)) (.need (@inR k (ns).length) (.need (@Nat.blt (k).toNat (ns).length) (.need (@isSo (@And ((@HAppend.hAppend _ _ _ _ (@HAppend.hAppend _ _ _ _ [] [e3]) []) = [e5]) (@Or (false = true) (e4.length ≤ 1024)))) (.need (@isSo (@And ((@HAppend.hAppend _ _ _ _ (@HAppend.hAppend _ _ _ _ [] [e6]) []) = [e8]) (@Or (false = true) (e7.length ≤ 1024)))) (.need (Bool.true && ((@Nat.ble (out).length (out).length) && ((@Nat.ble (e9 * 104) 140737488355328) && (@Nat.ble e9 17592186044416)))) (.leaf (Ex.norm, (((some (@AV.ptr 0 0)) :: none :: none :: none :: (some (@AV.own ((((4 + 1) + 1) + 1) + 1) e9 6)) :: (nn29 (e10 :: e11 :: (some (int (w64 (k + (1 : Int))))) :: (nn10 [])))), (@Mem.mk (((((4 + 1) + 1) + 1) + 1) + 1) (((((0 + 1) + 1) + 1) + 1) + 1) ((some (@Blk.mk [] 40 (some (@Rw.mk e9 6 (@appc (out).length (@ndcell out) (fun y0 => (fun y1 => (@getA (@List.take _ 6 (e12 :: e13 :: e14 :: e15 :: e16 :: (e17 :: (@List.drop _ (0 + ((e12 :: e13 :: e14 :: e15 :: e16 :: [e17])).length) e21)))) ((y0 * 6) + y1))))))))) :: ((some (@Blk.mk (e12 :: e13 :: e14 :: e5 :: e8 :: (e17 :: (@List.drop _ e22 e21))) 40 none)) :: ((some (@Blk.mk (e12 :: e13 :: e14 :: e5 :: e8 :: (e17 :: (@List.drop _ e22 [(int (0 : Int)), e23, e23, e24, e24, e23]))) 40 none)) :: (some (@Blk.mk (e12 :: e13 :: e14 :: e5 :: e8 :: (@List.drop _ (4 + ([e8]).length) (e12 :: e13 :: e14 :: e5 :: (@List.drop _ (3 + ([e5]).length) [e12, e13, e14, e3, e6, e17])))) 40 none)) :: [(some (@Blk.mk (e12 :: e13 :: e14 :: e3 :: e6 :: e17 :: (@List.drop _ (0 + ([e12, e13, e14, e3, e6, e17]).length) [(int (0 : Int)), e23, e23, e24, e24, e23])) 40 none)), none, e25, e26, e27])))))))))))) (.leaf ((@Ex.exit 1), (((some (@AV.ptr 0 0)) :: none :: none :: none :: (some (@AV.own 3 (out).length 6)) :: (nn29 (e10 :: e11 :: (some (int k)) :: (nn10 [])))), (@Mem.mk 4 0 [(some (@Blk.mk [] 40 (some (@Rw.mk (out).length 6 (@ndcell out))))), e25, e26, e27]))))))) (by kernel_rfl) ?_
  refine fork_ok (fun h3 => ?_) (fun h3 => ?_)
  · simp only [Bool.not_eq_true', Bool.not_eq_false', leI_t, leI_f, eqI_t, eqI_f, inR_t, inR_f, isSo_t, isSo_f] at h3
    have hin : inR (0 : Int) ns.length = true := by rw [inR_t]; omega
    have hlt : Nat.blt (0 : Int).toNat ns.length = true := by rw [Nat.blt_eq]; exact h0
    obtain ⟨hc, ha⟩ := hs _ (getD_mem ns (0 : Int) ndNone (by omega) (by omega))
    refine need_t hin (need_t hlt (need_so ⟨rfl, Or.inr hc⟩ (need_so ⟨rfl, Or.inr ha⟩ (need_t rfl ?_))))
    have et : ns.take 1 = [] ++ [ndN ns 0] := by
      unfold ndN
      match ns, h0 with
      | x :: r, _ => rfl
    have := dn_loop2 ns os hn hs ns.length 1 (by omega) (by omega)
    rw [et] at this
    refine LoopToT.ren [0, 1, 2, 3, 8] rfl ?_ ?_ this
    · exact dnF_ren _ (by simp) rfl
    · exact dnM_ren (by decide) rfl rfl rfl rfl (NRows.app1 _ (NRows.base _) (fun σ j hj => by
        rcases j with _ | _ | _ | _ | _ | _ | j
        · exact rfl
        · exact rfl
        · exact rfl
        · exact RenV.free σ (ndA_free (ndN ns 0) 3)
        · exact RenV.free σ (ndA_free (ndN ns 0) 4)
        · exact rfl
        · omega))
  · simp only [Bool.not_eq_true', Bool.not_eq_false', leI_t, leI_f, eqI_t, eqI_f, inR_t, inR_f, isSo_t, isSo_f] at h3
    omega
noncomputable abbrev lpDn (ns : List NdV) (os : List Int) : Lp Try.prog where
  f := 22
  key := 8
  S := formS (fun _ M => some M.stamp) (fun _ => dnF ns.length 0 0) (fun k => ⟨4, k, some ⟨[], 40, some ⟨0, 6, mkc dnZ⟩⟩ :: (bdM ns os).bs⟩) (fun _ => 0 < ns.length ∧ ns.length ≤ 1024 ∧ ∀ x ∈ ns, x.cls.length ≤ 1024 ∧ x.atts.length ≤ 1024) (fun _ => .leaf (.exit 1, dnF2 ns.length ns.length ns.length, dnM2 ns os ns)) (true :: false :: false :: false :: true :: (ff29 (true :: true :: true :: (ff10 []))))
  one := by kernel_rfl
  ok := formS_ok fun k ⟨h0, h1, h2⟩ => by
    refine ⟨ns.length + 1, ?_⟩
    have h3 := LoopToT.out (dn_loop ns os h0 h1 h2)
    have key : LoopToT 4 Try.prog (theBody Try.prog 22 8) (ns.length + 1) (dnF ns.length 0 0) ⟨4, 0, some ⟨[], 40, some ⟨0, 6, mkc dnZ⟩⟩ :: (bdM ns os).bs⟩ _ :=
      LoopToT.ren [0, 1, 2, 3] rfl (dnF_id _) (dnM_id ns os) h3
    exact (LoopTo.stampB 0 (LoopToT.to key (Nat.le_refl 4))).mono fun ex F M hg => by
      obtain ⟨rfl, rfl, rfl⟩ := hg
      rfl
end Sy
end Go.Proofs.Ytglkdhmikpejnaa
namespace Go.Proofs.Ytglkdhmikpejnaa
open Go Go.RowKit Pl Sy
abbrev Sy.nview (ns : List NdV) : AV := .view ns.length 6 (ndcell ns)
theorem Sy.nview_free (ns : List NdV) : Free (nview ns) := fun i j => ndA_free _ j
def DonC (ns : List NdV) : Prop := 0 < ns.length ∧ ns.length ≤ 1024 ∧ ∀ x ∈ ns, x.cls.length ≤ 1024 ∧ x.atts.length ≤ 1024
theorem Sy.don_t (ns : List NdV) (h : DonC ns) : CallTo Try.prog 22 [.ptr 0 0] (bdM ns []) fun v M' => v = .tup [.own 4 ns.length 6, int 0] ∧ M' = ⟨5, 0, [some (nrowB ns), none, some (irowB []), some (nrowB ns), some (bdB 1 ns.length 2 0)]⟩ :=
  to (G := fun r => r.1 = .tup [.own 4 ns.length 6, int 0] ∧ r.2 = ⟨5, 0, [some (nrowB ns), none, some (irowB []), some (nrowB ns), some (bdB 1 ns.length 2 0)]⟩) [] [lpDn ns []] 400 30 (.auto 0 (.br (.auto 5 (.br .done (.yes .done))) (.auto 6 .done))) (let os : List Int := []; (let e1 := (((ns).length : Nat) : Int); let e2 := (@Value.slice none 0 0); let e3 := (some (@Blk.mk [] 3 (some (@Rw.mk (os).length 1 (@zcell os))))); let e4 := (some (@Blk.mk [] 40 (some (@Rw.mk (ns).length 6 (@ndcell ns))))); let e5 := (some (@Blk.mk [(@AV.own 1 (ns).length 6), (@AV.own 2 (os).length 1)] 70 none)); let e6 := (some (@AV.own 1 (ns).length 6)); let e7 := (@Value.string (@ByteArray.mk (@Array.mk _ []))); (.fork (!(eqI e1 (0 : Int))) (.fork (!(leI (((os).length : Nat) : Int) (0 : Int))) (.leaf ((@AV.tup [(@AV.lit e2), (int (34 : Int))]), (@Mem.mk 3 0 [e3, e4, e5]))) (.need ((leI (0 : Int) e1) && ((leI (e1 * (104 : Int)) (140737488355328 : Int)) && (leI e1 (17592186044416 : Int)))) (.need (@isSo (@And (((some (@AV.ptr 0 0)) :: none :: none :: none :: (some (@AV.own 3 0 6)) :: (nn29 (e6 :: (some (int e1)) :: (some (int (0 : Int))) :: (nn10 [])))) = ((some (@AV.ptr 0 0)) :: none :: none :: none :: (some (@AV.own 3 0 6)) :: (nn29 (e6 :: (some (int e1)) :: (some (int (0 : Int))) :: (nn10 []))))) ((@Mem.mk (3 + 1) 0 [(some (@Blk.mk [] 40 (some (@Rw.mk 0 6 (@mkc (@Value.agg (@Array.mk _ [(@Value.int IntKind.i64 (0 : Int)), e7, e7, e2, e2, e7]))))))), e3, e4, e5]) = (@Mem.mk 4 0 [(some (@Blk.mk [] 40 (some (@Rw.mk 0 6 (@mkc dnZ))))), e3, e4, e5])))) (.need (@isSo (@And (0 < (ns).length) (@And ((ns).length ≤ 1024) (∀ (x : NdV), x ∈ ns → x.cls.length ≤ 1024 ∧ x.atts.length ≤ 1024)))) (.leaf ((@AV.tup [(@AV.own 4 (ns).length 6), (int (0 : Int))]), (@Mem.mk 5 0 [e4, none, e3, e4, e5]))))))) (.leaf ((@AV.tup [(@AV.lit e2), (int (34 : Int))]), (@Mem.mk 3 0 [e3, e4, e5])))))) (by kernel_rfl) (by
    obtain ⟨h0, h1, h2⟩ := h
    have e1 : eqI ((ns.length : Nat) : Int) 0 = false := by rw [eqI_f]; omega
    refine fork_t (by rw [e1]; rfl) (fork_f rfl (need_t ?_ (need_so ⟨rfl, rfl⟩ (need_so ⟨h0, h1, h2⟩ ⟨rfl, rfl⟩))))
    simp only [Bool.and_eq_true, leI_t]
    omega)
theorem Sy.don_v (ns : List NdV) (h : DonC ns) : CallTo Try.prog 22 [.ptr 0 0] (bdM ns []) fun v M' => v = .tup [nview ns, int 0] ∧ BEnd M' ns [] := fun w0 ρ us w hr hW => by
  refine (don_t ns h w0 ρ us w hr hW).mono ?_
  rintro x w' ⟨ρ', u, v, M', rfl, q1, q2, q3, rfl, rfl⟩
  simp only [rel, rels] at q2
  obtain ⟨l, rfl, u1, l1, rfl, hu1, u2, l2, rfl, rfl, rfl⟩ := q2
  rcases hu1 with ⟨_, e, _⟩ | ⟨g, tot, cap, hg, rfl, c1, c2, c3⟩
  · exact absurd e (by have := h.1; omega)
  · obtain ⟨cur, q4, q5, q6, q7, q8⟩ := q3.freeze (b := 4) (B := nrowB ns) rfl hg
    refine ⟨quiet ρ' g cur, _, .tup [nview ns, int 0], _, rfl, q1.trans q7, ?_, q8, rfl, 1, _, _, 2, _, _, rfl, rfl, rfl, NEq.base _, ZRows.base []⟩
    simp only [rel, rels]
    refine ⟨_, rfl, _, _, rfl, ⟨some ⟨g, 0, none⟩, cap, rfl, c1, c2, fun e => (by cases e), fun _ => ⟨g, 0, rfl, fun i j hi hj => ?_⟩⟩, _, _, rfl, rfl, rfl⟩
    obtain ⟨x, r1, r2, r3⟩ := q6.2 _ rfl i j hi hj
    refine ⟨x, ?_, r2.ext q7, r3⟩
    simp only [quiet, if_true, Nat.zero_add]
    exact r1
noncomputable def Sy.cDon (ns : List NdV) : Con Try.prog where
  f := 22
  run := fun args M => match bdGet args M with
    | some x => some (.tup [nview ns, int 0], bRes M x.bb x.x x.y ns [])
    | none => none
  ob := fun args M => match bdGet args M with
    | some x => some (isSo (M.get x.bb = some (bdB x.x ns.length x.y 0) ∧ M.get x.x = some (nrowB ns) ∧ M.get x.y = some (irowB []) ∧ x.rest = [] ∧ DonC ns))
    | none => none
  ok := fun args M v M' hr hob => by
    cases hg : bdGet args M with
    | none => rw [hg] at hr; cases hr
    | some x =>
      rw [hg] at hr hob
      simp at hr
      obtain ⟨rfl, rfl⟩ := hr
      have h1 := hob _ rfl
      rw [isSo_t] at h1
      obtain ⟨g0, g1, g2, hrest, hC⟩ := h1
      rw [bdGet_ok hg, hrest]
      refine ⟨?_, conB_frame (don_v ns hC) trivial ⟨nview_free ns, trivial, trivial⟩ g0 g1 g2⟩
      unfold bRes
      exact ((((Grow.put M _ _).trans (Grow.put _ _ _)).trans (Grow.put _ _ _)).trans (Grow.push _ _)).trans (Grow.push _ _)
end Go.Proofs.Ytglkdhmikpejnaa
namespace Go.Proofs.Ytglkdhmikpejnaa
open Go Go.RowKit Pl Sy
namespace Sy
abbrev stF (v : List ByteArray) (k : Int) : Fr := (some ((@AV.view (v).length 1 (fun x893229 => (fun x65168 => (@AV.lit ([(@Value.string (v.getD x893229 (@ByteArray.mk (@Array.mk _ []))))].getD x65168 (@Value.tuple (@Array.mk _ [])))))))) :: some ((@AV.view (v).length 1 (fun x629832 => (fun x108895 => (@AV.lit ([(@Value.string (v.getD x629832 (@ByteArray.mk (@Array.mk _ []))))].getD x108895 (@Value.tuple (@Array.mk _ [])))))))) :: none :: none :: some ((boo false)) :: some (int k) :: (nn20 []))
end Sy
theorem bytesEq_self (l : List UInt8) : bytesEq l l = true := by
  rw [bytesEq_eq]; simp
theorem eqI_self (x : Int) : eqI x x = true := by rw [eqI_t]
theorem Sy.st_loop (v : List ByteArray) (hl : v.length ≤ 17592186044416) : ∀ (n k : Nat), k ≤ v.length → v.length - k < n →
    LoopTo Try.prog (theBody Try.prog 44 5) n (stF v k) M0 fun ex F M => ex = .exit 0 ∧ F = stF v v.length ∧ M = M0 := by
  intro n
  induction n with
  | zero => intro k h1 h2; omega
  | succ n ih =>
    intro k h1 h2
    refine roundL [] [] 400 30 44 5 Try.func44 rfl (by kernel_rfl) (true :: true :: false :: false :: true :: true :: (ff20 [])) (.br (.yes (.yes (.br .done .done))) .done) (let k : Int := k; (let e1 := (@ByteArray.mk (@Array.mk _ [])); let e2 := (@Array.toList _ (@ByteArray.data (v.getD (k).toNat e1))); let e3 := (some (@AV.view (v).length 1 (fun y0 => (fun y1 => (@AV.lit ([(@Value.string (v.getD y0 e1))].getD y1 (@Value.tuple (@Array.mk _ [])))))))); (.fork (!(leI (((v).length : Nat) : Int) k)) (.need (@inR k (v).length) (.need (@inR k (v).length) (.fork (!(@bytesEq e2 e2)) (.leaf (Ex.ret, ((e3 :: e3 :: none :: none :: (some (boo false)) :: (some (int k)) :: (nn20 [])), (@Mem.mk 0 0 [])))) (.leaf (Ex.norm, ((e3 :: e3 :: none :: none :: (some (boo false)) :: (some (int (w64 (k + (1 : Int))))) :: (nn20 [])), (@Mem.mk 0 0 []))))))) (.leaf ((@Ex.exit 0), ((e3 :: e3 :: none :: none :: (some (boo false)) :: (some (int k)) :: (nn20 [])), (@Mem.mk 0 0 []))))))) (by kernel_rfl) ?_
    refine fork_ok (fun h => ?_) (fun h => ?_)
    · simp only [Bool.not_eq_true', Bool.not_eq_false', leI_t, leI_f, eqI_t, eqI_f, inR_t, inR_f, isSo_t, isSo_f] at h
      have hr : inR k v.length = true := by rw [inR_t]; omega
      refine need_t hr (need_t hr (fork_ok (fun h2 => ?_) (fun h2 => ?_)))
      · rw [bytesEq_self] at h2
        cases h2
      · have e : (w64 ((k : Int) + 1)) = ((k + 1 : Nat) : Int) := by rw [w64_in (by omega)]; rfl
        have := ih (k + 1) (by omega) (by omega)
        rw [← e] at this
        exact this
    · simp only [Bool.not_eq_true', Bool.not_eq_false', leI_t, leI_f, eqI_t, eqI_f, inR_t, inR_f, isSo_t, isSo_f] at h
      have hk : k = v.length := by omega
      subst hk
      exact ⟨rfl, rfl, rfl⟩
namespace Sy
noncomputable abbrev lp_st (v : List ByteArray) : Lp Try.prog where
  f := 44
  key := 5
  S := formS (fun _ _ => some ()) (fun _ => stF v 0) (fun _ => M0) (fun _ => v.length ≤ 17592186044416) (fun _ => .leaf (.exit 0, stF v (v.length : Nat), M0)) (true :: true :: false :: false :: true :: true :: (ff20 []))
  one := by kernel_rfl
  ok := formS_ok fun _ h => ⟨v.length + 1, (st_loop v h (v.length + 1) 0 (by omega) (by omega)).mono fun ex F M hg => by
    obtain ⟨rfl, rfl, rfl⟩ := hg
    rfl⟩
end Sy
theorem Sy.st_t (v : List ByteArray) (h : v.length ≤ 17592186044416) : CallTo Try.prog 44 [cview v, cview v] M0 fun x _ => x = boo true :=
  toV [] [lp_st v] 400 30 (.br .done .done) (let e1 := (some (@AV.view (v).length 1 (fun y0 => (fun y1 => (@AV.lit ([(@Value.string (v.getD y0 (@ByteArray.mk (@Array.mk _ []))))].getD y1 (@Value.tuple (@Array.mk _ [])))))))); (.fork (!(eqI (((v).length : Nat) : Int) (((v).length : Nat) : Int))) (.leaf (boo false)) (.need (@isSo (@And ((e1 :: e1 :: (none :: none :: (some (boo false)) :: (some (int (0 : Int))) :: (nn20 []))) = (e1 :: e1 :: none :: none :: (some (boo false)) :: (some (int (0 : Int))) :: (nn20 []))) ((@Mem.mk 0 0 []) = M0))) (.need (@isSo ((v).length ≤ 17592186044416)) (.leaf (boo true)))))) (by kernel_rfl) (by
    (repeat' (first
      | (refine fork_f ?_ ?_; (focus (simp only [bytesEq_self, eqI_self, Bool.not_true, Bool.and_true, Bool.or_false]; done)))
      | (refine fork_t ?_ ?_; (focus (simp only [bytesEq_self, eqI_self, Bool.not_true, Bool.not_false, Bool.and_true, Bool.or_false]; done)))
      | (refine need_so ?_ ?_; (focus (first | exact ⟨rfl, rfl⟩ | exact ⟨rfl, h⟩ | exact ⟨rfl, h.2.2.1.1⟩ | exact h | exact h.2.2.1.1 | exact h.2.2.2.1.1)))
      | (refine need_t ?_ ?_; (focus (simp only [bytesEq_self, eqI_self, Bool.not_true, Bool.not_false, Bool.and_true]; done)))))
    rfl)
noncomputable abbrev Sy.c_st (v : List ByteArray) : Con Try.prog := at1 44 [cview v, cview v] (boo true) (v.length ≤ 17592186044416) fun h => ⟨⟨⟨viewOf_free _ _ _ _, viewOf_free _ _ _ _, trivial⟩, trivial⟩, st_t v h⟩
namespace Sy
abbrev lkM (n : NdV) : Mem := (@Mem.mk ((0 + 1) + 1) 0 [(some (@Blk.mk [(int (n).par), (@AV.lit (@Value.string (n).tag)), (@AV.lit (@Value.string (n).id)), (@AV.view ((n).cls).length 1 (fun x765228 => (fun x496699 => (@AV.lit ([(@Value.string ((n).cls.getD x765228 (@ByteArray.mk (@Array.mk _ []))))].getD x496699 (@Value.tuple (@Array.mk _ []))))))), (@AV.view ((n).atts).length 2 (fun x226447 => (fun x381294 => (@AV.lit ([(@Value.string (((n).atts.getD x226447 attrNone)).name), (@Value.string (((n).atts.getD x226447 attrNone)).value)].getD x381294 (@Value.tuple (@Array.mk _ []))))))), (@AV.lit (@Value.string (n).text))] 40 none)), (some (@Blk.mk [(int (n).par), (@AV.lit (@Value.string (n).tag)), (@AV.lit (@Value.string (n).id)), (@AV.view ((n).cls).length 1 (fun x576165 => (fun x305885 => (@AV.lit ([(@Value.string ((n).cls.getD x576165 (@ByteArray.mk (@Array.mk _ []))))].getD x305885 (@Value.tuple (@Array.mk _ []))))))), (@AV.view ((n).atts).length 2 (fun x930144 => (fun x336824 => (@AV.lit ([(@Value.string (((n).atts.getD x930144 attrNone)).name), (@Value.string (((n).atts.getD x930144 attrNone)).value)].getD x336824 (@Value.tuple (@Array.mk _ []))))))), (@AV.lit (@Value.string (n).text))] 40 none))])
abbrev lkF (n : NdV) (k : Int) : Fr := (none :: none :: some ((@AV.ptr 0 0)) :: some ((@AV.ptr (0 + 1) 0)) :: some ((boo false)) :: some (int k) :: (nn6 (nn48 [])))
end Sy
theorem Sy.lk_loop (nd : NdV) (hl : nd.atts.length ≤ 17592186044416) : ∀ (n k : Nat), k ≤ nd.atts.length → nd.atts.length - k < n →
    LoopTo Try.prog (theBody Try.prog 23 5) n (lkF nd k) (lkM nd) fun ex F M => ex = .exit 0 ∧ F = lkF nd nd.atts.length ∧ M = lkM nd := by
  intro n
  induction n with
  | zero => intro k h1 h2; omega
  | succ n ih =>
    intro k h1 h2
    refine roundL [] [] 400 30 23 5 Try.func23 rfl (by kernel_rfl) (false :: false :: true :: true :: true :: true :: (ff6 (ff48 []))) (.br (.yes (.yes (.br .done .done))) .done) (let k : Int := k; let n := nd; (let e1 := (@Array.toList _ (@ByteArray.data (((n).atts.getD (k).toNat attrNone)).name)); let e2 := (@Array.toList _ (@ByteArray.data (((n).atts.getD (k).toNat attrNone)).value)); let e3 := (@Value.tuple (@Array.mk _ [])); let e4 := (some (@Blk.mk [(int (n).par), (@AV.lit (@Value.string (n).tag)), (@AV.lit (@Value.string (n).id)), (@AV.view ((n).cls).length 1 (fun y0 => (fun y1 => (@AV.lit ([(@Value.string ((n).cls.getD y0 (@ByteArray.mk (@Array.mk _ []))))].getD y1 e3))))), (@AV.view ((n).atts).length 2 (fun y0 => (fun y1 => (@AV.lit ([(@Value.string (((n).atts.getD y0 attrNone)).name), (@Value.string (((n).atts.getD y0 attrNone)).value)].getD y1 e3))))), (@AV.lit (@Value.string (n).text))] 40 none)); (.fork (!(leI ((((n).atts).length : Nat) : Int) k)) (.need (@inR k ((n).atts).length) (.need (@inR k ((n).atts).length) (.fork (!((@bytesEq e1 e1) && ((@bytesEq e2 e2) && true))) (.leaf (Ex.ret, ((none :: none :: (some (@AV.ptr 0 0)) :: (some (@AV.ptr 1 0)) :: (some (boo false)) :: (some (int k)) :: (nn6 (nn48 []))), (@Mem.mk 2 0 [e4, e4])))) (.leaf (Ex.norm, ((none :: none :: (some (@AV.ptr 0 0)) :: (some (@AV.ptr 1 0)) :: (some (boo false)) :: (some (int (w64 (k + (1 : Int))))) :: (nn6 (nn48 []))), (@Mem.mk 2 0 [e4, e4]))))))) (.leaf ((@Ex.exit 0), ((none :: none :: (some (@AV.ptr 0 0)) :: (some (@AV.ptr 1 0)) :: (some (boo false)) :: (some (int k)) :: (nn6 (nn48 []))), (@Mem.mk 2 0 [e4, e4]))))))) (by kernel_rfl) ?_
    refine fork_ok (fun h => ?_) (fun h => ?_)
    · simp only [Bool.not_eq_true', Bool.not_eq_false', leI_t, leI_f, eqI_t, eqI_f, inR_t, inR_f, isSo_t, isSo_f] at h
      have hr : inR k nd.atts.length = true := by rw [inR_t]; omega
      have e : (w64 ((k : Int) + 1)) = ((k + 1 : Nat) : Int) := by rw [w64_in (by omega)]; rfl
      have := ih (k + 1) (by omega) (by omega)
      rw [← e] at this
      refine need_t hr (need_t hr (fork_f ?_ ?_))
      · simp only [bytesEq_self, Bool.and_true, Bool.not_true]
      · exact this
    · simp only [Bool.not_eq_true', Bool.not_eq_false', leI_t, leI_f, eqI_t, eqI_f, inR_t, inR_f, isSo_t, isSo_f] at h
      have hk : k = nd.atts.length := by omega
      subst hk
      exact ⟨rfl, rfl, rfl⟩
namespace Sy
noncomputable abbrev lp_lk (n : NdV) : Lp Try.prog where
  f := 23
  key := 5
  S := formS (fun _ _ => some ()) (fun _ => lkF n 0) (fun _ => lkM n) (fun _ => n.atts.length ≤ 17592186044416) (fun _ => .leaf (.exit 0, lkF n (n.atts.length : Nat), lkM n)) (false :: false :: true :: true :: true :: true :: (ff6 (ff48 [])))
  one := by kernel_rfl
  ok := formS_ok fun _ h => ⟨n.atts.length + 1, (lk_loop n h (n.atts.length + 1) 0 (by omega) (by omega)).mono fun ex F M hg => by
    obtain ⟨rfl, rfl, rfl⟩ := hg
    rfl⟩
end Sy
theorem Sy.lk_t (n : NdV) (h : n.Ok) : CallTo Try.prog 23 [ndG n, ndG n] M0 fun x _ => x = boo true :=
  toV [c_st n.cls] [lp_lk n] 400 30 (.br (.auto 4 (.br (.auto 4 (.br (.auto 3 (.yes (.auto 9 (.br .done .done)))) (.auto 14 .done))) (.auto 20 .done))) (.auto 26 .done)) (let e1 := (@Array.toList _ (@ByteArray.data (n).tag)); let e2 := (@Array.toList _ (@ByteArray.data (n).id)); let e3 := (@Array.toList _ (@ByteArray.data (n).text)); let e4 := (@Value.tuple (@Array.mk _ [])); let e5 := (@AV.view ((n).cls).length 1 (fun y0 => (fun y1 => (@AV.lit ([(@Value.string ((n).cls.getD y0 (@ByteArray.mk (@Array.mk _ []))))].getD y1 e4))))); let e6 := ((((n).atts).length : Nat) : Int); let e7 := (some (@Blk.mk [(int (n).par), (@AV.lit (@Value.string (n).tag)), (@AV.lit (@Value.string (n).id)), e5, (@AV.view ((n).atts).length 2 (fun y0 => (fun y1 => (@AV.lit ([(@Value.string (((n).atts.getD y0 attrNone)).name), (@Value.string (((n).atts.getD y0 attrNone)).value)].getD y1 e4))))), (@AV.lit (@Value.string (n).text))] 40 none)); (.fork (!(!(@bytesEq e1 e1))) (.fork (!(!(@bytesEq e2 e2))) (.fork (!(!(@bytesEq e3 e3))) (.need (@isSo (@And ((@HAppend.hAppend _ _ _ _ (@HAppend.hAppend _ _ _ _ [] [e5, e5]) []) = [e5, e5]) (((n).cls).length ≤ 17592186044416))) (.fork (!(eqI e6 e6)) (.leaf (boo false)) (.need (@isSo (@And ((none :: none :: ((some (@AV.ptr 0 0)) :: (some (@AV.ptr (0 + 1) 0)) :: (some (boo false)) :: (some (int (0 : Int))) :: (nn6 (nn48 [])))) = (none :: none :: (some (@AV.ptr 0 0)) :: (some (@AV.ptr 1 0)) :: (some (boo false)) :: (some (int (0 : Int))) :: (nn6 (nn48 [])))) ((@Mem.mk ((0 + 1) + 1) 0 [e7, e7]) = (@Mem.mk 2 0 [e7, e7])))) (.need (@isSo (((n).atts).length ≤ 17592186044416)) (.leaf (boo true)))))) (.leaf (boo false))) (.leaf (boo false))) (.leaf (boo false)))) (by kernel_rfl) (by
    (repeat' (first
      | (refine fork_f ?_ ?_; (focus (simp only [bytesEq_self, eqI_self, Bool.not_true, Bool.and_true, Bool.or_false]; done)))
      | (refine fork_t ?_ ?_; (focus (simp only [bytesEq_self, eqI_self, Bool.not_true, Bool.not_false, Bool.and_true, Bool.or_false]; done)))
      | (refine need_so ?_ ?_; (focus (first | exact ⟨rfl, rfl⟩ | exact ⟨rfl, h⟩ | exact ⟨rfl, h.2.2.1.1⟩ | exact h | exact h.2.2.1.1 | exact h.2.2.2.1.1)))
      | (refine need_t ?_ ?_; (focus (simp only [bytesEq_self, eqI_self, Bool.not_true, Bool.not_false, Bool.and_true]; done)))))
    rfl)
noncomputable abbrev Sy.c_lk (n : NdV) : Con Try.prog := at1 23 [ndG n, ndG n] (boo true) (n.Ok) fun h => ⟨⟨⟨ndG_free n, ndG_free n, trivial⟩, trivial⟩, lk_t n h⟩
abbrev NdsOk (ns : List NdV) : Prop := ns.length ≤ 17592186044416 ∧ ∀ n ∈ ns, n.Ok
theorem NdsOk.at {ns : List NdV} (h : NdsOk ns) (k : Int) (h0 : 0 ≤ k) (h1 : k < ns.length) : (ndN ns k).Ok := h.2 _ (getD_mem ns k _ h0 h1)
namespace Sy
abbrev smF (ns : List NdV) (k : Int) : Fr := (some ((@AV.view (ns).length 6 (@ndcell ns))) :: some ((@AV.view (ns).length 6 (@ndcell ns))) :: none :: none :: some ((boo false)) :: some (int k) :: (nn34 []))
end Sy
theorem Sy.sm_loop (ns : List NdV) (hl : NdsOk ns) : ∀ (n k : Nat), k ≤ ns.length → ns.length - k < n →
    LoopTo Try.prog (theBody Try.prog 12 5) n (smF ns k) (M0) fun ex F M => ex = .exit 0 ∧ F = smF ns ns.length ∧ M = M0 := by
  intro n
  induction n with
  | zero => intro k h1 h2; omega
  | succ n ih =>
    intro k h1 h2
    have hl' := hl.1
    refine roundL [c_lk (ndN ns (k : Int))] [] 400 30 12 5 Try.func12 rfl (by kernel_rfl) (true :: true :: false :: false :: true :: true :: (ff34 [])) (.br (.yes (.yes (.br (.auto 1 (.yes (.auto 3 (.yes (.auto 1 (.yes (.auto 2 .done))))))) (.auto 10 .done)))) .done) (let k : Int := k; (let e1 := (@inR k (ns).length); let e2 := (@AV.agg [(@ndcell ns (k).toNat 0), (@ndcell ns (k).toNat 1), (@ndcell ns (k).toNat 2), (@ndcell ns (k).toNat 3), (@ndcell ns (k).toNat 4), (@ndcell ns (k).toNat 5)]); let e3 := (@Value.tuple (@Array.mk _ [])); let e4 := (@AV.agg [(int ((@ndN ns k)).par), (@AV.lit (@Value.string ((@ndN ns k)).tag)), (@AV.lit (@Value.string ((@ndN ns k)).id)), (@AV.view (((@ndN ns k)).cls).length 1 (fun y0 => (fun y1 => (@AV.lit ([(@Value.string (((@ndN ns k)).cls.getD y0 (@ByteArray.mk (@Array.mk _ []))))].getD y1 e3))))), (@AV.view (((@ndN ns k)).atts).length 2 (fun y0 => (fun y1 => (@AV.lit ([(@Value.string ((((@ndN ns k)).atts.getD y0 attrNone)).name), (@Value.string ((((@ndN ns k)).atts.getD y0 attrNone)).value)].getD y1 e3))))), (@AV.lit (@Value.string ((@ndN ns k)).text))]); let e5 := (some (@AV.view (ns).length 6 (@ndcell ns))); (.fork (!(leI (((ns).length : Nat) : Int) k)) (.need e1 (.need e1 (.fork (!(!(eqI ((ns.getD (k).toNat ndNone)).par ((ns.getD (k).toNat ndNone)).par))) (.need e1 (.need e1 (.need (@isSo (@And ((@HAppend.hAppend _ _ _ _ (@HAppend.hAppend _ _ _ _ [] [e2, e2]) []) = [e4, e4]) (@And ((@ByteArray.size ((@ndN ns k)).tag) ≤ 9223372036854775807) (@And ((@ByteArray.size ((@ndN ns k)).id) ≤ 9223372036854775807) (@And (@And ((((@ndN ns k)).cls).length ≤ 17592186044416) (∀ (s : ByteArray), s ∈ (ndN ns k).cls → s.size ≤ maxLen)) (@And (@And ((((@ndN ns k)).atts).length ≤ 17592186044416) (∀ (t : AttrV), t ∈ (ndN ns k).atts → t.Ok)) ((@ByteArray.size ((@ndN ns k)).text) ≤ 9223372036854775807))))))) (.leaf (Ex.norm, ((e5 :: e5 :: none :: none :: (some (boo false)) :: (some (int (w64 (k + (1 : Int))))) :: (nn34 [])), (@Mem.mk 0 0 []))))))) (.leaf (Ex.ret, ((e5 :: e5 :: none :: none :: (some (boo false)) :: (some (int k)) :: (nn34 [])), (@Mem.mk 0 0 []))))))) (.leaf ((@Ex.exit 0), ((e5 :: e5 :: none :: none :: (some (boo false)) :: (some (int k)) :: (nn34 [])), (@Mem.mk 0 0 []))))))) (by kernel_rfl) ?_
    refine fork_ok (fun h => ?_) (fun h => ?_)
    · simp only [Bool.not_eq_true', Bool.not_eq_false', leI_t, leI_f, eqI_t, eqI_f, inR_t, inR_f, isSo_t, isSo_f] at h
      have hr : inR k ns.length = true := by rw [inR_t]; omega
      have e : (w64 ((k : Int) + 1)) = ((k + 1 : Nat) : Int) := by rw [w64_in (by omega)]; rfl
      have := ih (k + 1) (by omega) (by omega)
      rw [← e] at this
      refine need_t hr (need_t hr (fork_t ?_ (need_t hr (need_t hr (need_so ⟨rfl, hl.at k (by omega) (by omega)⟩ ?_)))))
      · simp only [eqI_self, Bool.not_true, Bool.not_false]
      · exact this
    · simp only [Bool.not_eq_true', Bool.not_eq_false', leI_t, leI_f, eqI_t, eqI_f, inR_t, inR_f, isSo_t, isSo_f] at h
      have hk : k = ns.length := by omega
      subst hk
      exact ⟨rfl, rfl, rfl⟩
namespace Sy
noncomputable abbrev lp_sm (ns : List NdV) : Lp Try.prog where
  f := 12
  key := 5
  S := formS (fun _ _ => some ()) (fun _ => smF ns 0) (fun _ => M0) (fun _ => NdsOk ns) (fun _ => .leaf (.exit 0, smF ns (ns.length : Nat), M0)) (true :: true :: false :: false :: true :: true :: (ff34 []))
  one := by kernel_rfl
  ok := formS_ok fun _ h => ⟨ns.length + 1, (sm_loop ns h (ns.length + 1) 0 (by omega) (by omega)).mono fun ex F M hg => by
    obtain ⟨rfl, rfl, rfl⟩ := hg
    rfl⟩
end Sy
theorem Sy.sm_t (ns : List NdV) (h : NdsOk ns) : CallTo Try.prog 12 [nview ns, nview ns] M0 fun x _ => x = boo true :=
  toV [] [lp_sm ns] 400 30 (.br .done .done) (let e1 := (some (@AV.view (ns).length 6 (@ndcell ns))); (.fork (!(eqI (((ns).length : Nat) : Int) (((ns).length : Nat) : Int))) (.leaf (boo false)) (.need (@isSo (@And ((e1 :: e1 :: (none :: none :: (some (boo false)) :: (some (int (0 : Int))) :: (nn34 []))) = (e1 :: e1 :: none :: none :: (some (boo false)) :: (some (int (0 : Int))) :: (nn34 []))) ((@Mem.mk 0 0 []) = M0))) (.need (@isSo (@And ((ns).length ≤ 17592186044416) (∀ (n : NdV), n ∈ ns → n.Ok))) (.leaf (boo true)))))) (by kernel_rfl) (by
    (repeat' (first
      | (refine fork_f ?_ ?_; (focus (simp only [bytesEq_self, eqI_self, Bool.not_true, Bool.and_true, Bool.or_false]; done)))
      | (refine fork_t ?_ ?_; (focus (simp only [bytesEq_self, eqI_self, Bool.not_true, Bool.not_false, Bool.and_true, Bool.or_false]; done)))
      | (refine need_so ?_ ?_; (focus (first | exact ⟨rfl, rfl⟩ | exact ⟨rfl, h⟩ | exact ⟨rfl, h.2.2.1.1⟩ | exact h | exact h.2.2.1.1 | exact h.2.2.2.1.1)))
      | (refine need_t ?_ ?_; (focus (simp only [bytesEq_self, eqI_self, Bool.not_true, Bool.not_false, Bool.and_true]; done)))))
    rfl)
noncomputable abbrev Sy.c_sm (ns : List NdV) : Con Try.prog := at1 12 [nview ns, nview ns] (boo true) (NdsOk ns) fun h => ⟨⟨⟨nview_free ns, nview_free ns, trivial⟩, trivial⟩, sm_t ns h⟩
end Go.Proofs.Ytglkdhmikpejnaa
namespace Go.Proofs.Ytglkdhmikpejnaa
open Go Go.RowKit Pl Sy
def pN (ns : List NdV) (k : Nat) : Int := (ns.getD k ndNone).par
def tgB (ns : List NdV) (k : Nat) : Bool := !bytesEq (ns.getD k ndNone).tag.data.toList []
def upI (ns : List NdV) (i : Int) : Int := up (pN ns) i.toNat
def undB (ns : List NdV) (i j : Int) : Bool := under (pN ns) i.toNat j
def depI (ns : List NdV) (i : Int) : Int := dep (pN ns) i.toNat
def stdB (ns : List NdV) (i : Int) : Bool := standsN (pN ns) (tgB ns) i.toNat
theorem Sy.up_t (ns : List NdV) (i : Int) (h : inR i ns.length = true) : CallTo Try.prog 30 [nview ns, int i] M0 fun v _ => v = int (upI ns i) :=
  toV [] [] 400 30 (.yes (.br (.auto 2 (.br .done .done)) (.auto 3 .done))) (.need (@inR i (ns).length) (.fork (leI (0 : Int) ((ns.getD (i).toNat ndNone)).par) (.fork (!(leI i ((ns.getD (i).toNat ndNone)).par)) (.leaf (int ((ns.getD (i).toNat ndNone)).par)) (.leaf (int (-1 : Int)))) (.leaf (int (-1 : Int))))) (by kernel_rfl) (by
    have e : upI ns i = if 0 ≤ (ns.getD i.toNat ndNone).par ∧ (ns.getD i.toNat ndNone).par < i then (ns.getD i.toNat ndNone).par else -1 := by
      unfold upI up pN
      rw [inR_t] at h
      rw [show ((i.toNat : Nat) : Int) = i by omega]
    rw [e]
    refine need_t h (fork_ok (fun h1 => fork_ok (fun h2 => ?_) (fun h2 => ?_)) (fun h1 => ?_))
    · simp only [Bool.not_eq_true', Bool.not_eq_false', leI_t, leI_f, eqI_t, eqI_f, inR_t, inR_f, isSo_t, isSo_f] at h1
      simp only [Bool.not_eq_true', Bool.not_eq_false', leI_t, leI_f, eqI_t, eqI_f, inR_t, inR_f, isSo_t, isSo_f] at h2
      rw [if_pos (by omega)]; rfl
    · simp only [Bool.not_eq_true', Bool.not_eq_false', leI_t, leI_f, eqI_t, eqI_f, inR_t, inR_f, isSo_t, isSo_f] at h1
      simp only [Bool.not_eq_true', Bool.not_eq_false', leI_t, leI_f, eqI_t, eqI_f, inR_t, inR_f, isSo_t, isSo_f] at h2
      rw [if_neg (by omega)]; rfl
    · simp only [Bool.not_eq_true', Bool.not_eq_false', leI_t, leI_f, eqI_t, eqI_f, inR_t, inR_f, isSo_t, isSo_f] at h1
      rw [if_neg (by omega)]; rfl)
noncomputable abbrev Sy.cUpN (ns : List NdV) : Con Try.prog := atX 30 (fun args => match args with | [_, .lit (.int .i64 i)] => some i | _ => none) (fun i => [nview ns, int i]) (fun i => int (upI ns i)) (fun i => inR i ns.length = true) fun i h => ⟨⟨⟨nview_free ns, trivial, trivial⟩, trivial⟩, up_t ns i h⟩
namespace Sy
abbrev udF (ns : List NdV) (j k : Int) (b : Bool) : Fr := (some ((@AV.view (ns).length 6 (@ndcell ns))) :: none :: some ((int j)) :: none :: none :: none :: some (boo b) :: some (int k) :: (nn11 []))
abbrev udE (b : Bool) : Fr := (nn6 (some (boo b) :: (nn12 [])))
end Sy
def undX (ns : List NdV) (k j : Int) : Bool := underF (pN ns) k j
theorem up_in (ns : List NdV) (i : Int) (h0 : 0 ≤ i) : -1 ≤ upI ns i ∧ upI ns i < i := by
  unfold upI
  have h1 := up_ge (pN ns) i.toNat
  have h2 := up_lt (pN ns) i.toNat
  omega
theorem undX_hit (ns : List NdV) (k j : Int) (h : 0 ≤ k) (he : k = j) : undX ns k j = true := underF_hit _ j h he
theorem undX_miss (ns : List NdV) (k j : Int) (h : 0 ≤ k) (he : ¬ k = j) : undX ns k j = undX ns (upI ns k) j := underF_miss _ j h he
theorem undX_none (ns : List NdV) (k j : Int) (h : k < 0) : undX ns k j = false := underF_none _ j h
theorem undB_from (ns : List NdV) (i j : Int) : undB ns i j = undX ns (upI ns i) j := under_from _ _ j
def UdG (ns : List NdV) (j k : Int) (ex : Ex) (F : Fr) (M : Mem) : Prop := M = M0 ∧ ∃ k' b, F = udF ns j k' b ∧ ((undX ns k j = true ∧ b = true ∧ ex = .ret) ∨ (undX ns k j = false ∧ b = false ∧ ex = .exit 0))
theorem UdG_up (ns : List NdV) (j k : Int) (h : 0 ≤ k) (he : ¬ k = j) : UdG ns j (upI ns k) = UdG ns j k := by
  unfold UdG
  rw [undX_miss ns k j h he]
theorem Sy.und_loop (ns : List NdV) (j : Int) (hl : ns.length ≤ 17592186044416) : ∀ (n : Nat) (k : Int), k < ns.length → -1 ≤ k → k < n →
    LoopTo Try.prog (theBody Try.prog 31 3) (n + 1) (udF ns j k false) M0 (UdG ns j k) := by
  intro n
  induction n with
  | zero =>
    intro k h0 h1 h2
    refine roundL [cUpN ns] [] 400 30 31 3 Try.func31 rfl (by kernel_rfl) (true :: false :: true :: false :: false :: false :: true :: true :: (ff11 [])) (.br (.br .done (.yes .done)) .done) (let e1 := (@AV.view (ns).length 6 (@ndcell ns)); (.fork (leI (0 : Int) k) (.fork (eqI k j) (.leaf (Ex.ret, (((some e1) :: none :: (some (int j)) :: none :: none :: none :: (some (boo true)) :: (some (int k)) :: (nn11 [])), (@Mem.mk 0 0 [])))) (.need (@isSo (@And ((@HAppend.hAppend _ _ _ _ (@HAppend.hAppend _ _ _ _ [] [e1, (int k)]) []) = [e1, (int k)]) ((@inR k (ns).length) = true))) (.leaf (Ex.norm, (((some e1) :: none :: (some (int j)) :: none :: none :: none :: (some (boo false)) :: (some (int (@upI ns k))) :: (nn11 [])), (@Mem.mk 0 0 [])))))) (.leaf ((@Ex.exit 0), (((some e1) :: none :: (some (int j)) :: none :: none :: none :: (some (boo false)) :: (some (int k)) :: (nn11 [])), (@Mem.mk 0 0 [])))))) (by kernel_rfl) ?_
    refine fork_ok (fun h => ?_) (fun h => ?_)
    · simp only [Bool.not_eq_true', Bool.not_eq_false', leI_t, leI_f, eqI_t, eqI_f, inR_t, inR_f, isSo_t, isSo_f] at h
      omega
    · simp only [Bool.not_eq_true', Bool.not_eq_false', leI_t, leI_f, eqI_t, eqI_f, inR_t, inR_f, isSo_t, isSo_f] at h
      exact ⟨rfl, k, false, rfl, .inr ⟨undX_none ns k j (by omega), rfl, rfl⟩⟩
  | succ n ih =>
    intro k h0 h1 h2
    refine roundL [cUpN ns] [] 400 30 31 3 Try.func31 rfl (by kernel_rfl) (true :: false :: true :: false :: false :: false :: true :: true :: (ff11 [])) (.br (.br .done (.yes .done)) .done) (let e1 := (@AV.view (ns).length 6 (@ndcell ns)); (.fork (leI (0 : Int) k) (.fork (eqI k j) (.leaf (Ex.ret, (((some e1) :: none :: (some (int j)) :: none :: none :: none :: (some (boo true)) :: (some (int k)) :: (nn11 [])), (@Mem.mk 0 0 [])))) (.need (@isSo (@And ((@HAppend.hAppend _ _ _ _ (@HAppend.hAppend _ _ _ _ [] [e1, (int k)]) []) = [e1, (int k)]) ((@inR k (ns).length) = true))) (.leaf (Ex.norm, (((some e1) :: none :: (some (int j)) :: none :: none :: none :: (some (boo false)) :: (some (int (@upI ns k))) :: (nn11 [])), (@Mem.mk 0 0 [])))))) (.leaf ((@Ex.exit 0), (((some e1) :: none :: (some (int j)) :: none :: none :: none :: (some (boo false)) :: (some (int k)) :: (nn11 [])), (@Mem.mk 0 0 [])))))) (by kernel_rfl) ?_
    refine fork_ok (fun h => ?_) (fun h => ?_)
    · simp only [Bool.not_eq_true', Bool.not_eq_false', leI_t, leI_f, eqI_t, eqI_f, inR_t, inR_f, isSo_t, isSo_f] at h
      refine fork_ok (fun h3 => ?_) (fun h3 => ?_)
      · simp only [Bool.not_eq_true', Bool.not_eq_false', leI_t, leI_f, eqI_t, eqI_f, inR_t, inR_f, isSo_t, isSo_f] at h3
        exact ⟨rfl, k, true, rfl, .inl ⟨undX_hit ns k j h h3, rfl, rfl⟩⟩
      · simp only [Bool.not_eq_true', Bool.not_eq_false', leI_t, leI_f, eqI_t, eqI_f, inR_t, inR_f, isSo_t, isSo_f] at h3
        have hu := up_in ns k h
        refine need_so ⟨rfl, by rw [inR_t]; omega⟩ ?_
        have := ih (upI ns k) (by omega) (by omega) (by omega)
        rw [UdG_up ns j k h h3] at this
        exact this
    · simp only [Bool.not_eq_true', Bool.not_eq_false', leI_t, leI_f, eqI_t, eqI_f, inR_t, inR_f, isSo_t, isSo_f] at h
      exact ⟨rfl, k, false, rfl, .inr ⟨undX_none ns k j (by omega), rfl, rfl⟩⟩
namespace Sy
noncomputable abbrev lp_und (ns : List NdV) : Lp Try.prog where
  f := 31
  key := 3
  S := formS (fun F M => match slotI F 2, slotI F 7 with | some j, some k => some (j, k) | _, _ => none) (fun x => udF ns x.1 x.2 false) (fun _ => M0) (fun x => ns.length ≤ 17592186044416 ∧ x.2 < ns.length ∧ -1 ≤ x.2) (fun x => .fork (undX ns x.2 x.1) (.leaf (.ret, udE true, M0)) (.leaf (.exit 0, udE false, M0))) (true :: false :: true :: false :: false :: false :: true :: true :: (ff11 []))
  one := by kernel_rfl
  ok := formS_ok fun x ⟨h1, h2, h3⟩ => by
    obtain ⟨j, k⟩ := x
    refine ⟨(k.toNat + 1) + 1, ?_⟩
    refine ((Sy.und_loop ns j h1 (k.toNat + 1) k h2 h3 (by omega)).out (ff6 (true :: (ff12 [])))).mono fun ex F M hg => ?_
    obtain ⟨F0, ⟨hM, k', b, hF, hg⟩, rfl⟩ := hg
    rcases hg with ⟨q1, rfl, rfl⟩ | ⟨q1, rfl, rfl⟩
    · exact .inl ⟨q1, by rw [hM, hF]; rfl⟩
    · exact .inr ⟨q1, by rw [hM, hF]; rfl⟩
end Sy
theorem Sy.und_t (ns : List NdV) (i j : Int) (hl : ns.length ≤ 17592186044416) (h : inR i ns.length = true) : CallTo Try.prog 31 [nview ns, int i, int j] M0 fun v _ => v = boo (undB ns i j) :=
  toV [cUpN ns] [lp_und ns] 400 30 (.yes (.br .done .done)) (let e1 := (@AV.view (ns).length 6 (@ndcell ns)); (.need (@isSo (@And ((@HAppend.hAppend _ _ _ _ (@HAppend.hAppend _ _ _ _ [] [e1, (int i)]) []) = [e1, (int i)]) ((@inR i (ns).length) = true))) (.need (@isSo (@And (((some e1) :: none :: (some (int j)) :: (none :: none :: none :: (some (boo false)) :: (some (int (@upI ns i))) :: (nn11 []))) = ((some e1) :: none :: (some (int j)) :: none :: none :: none :: (some (boo false)) :: (some (int (@upI ns i))) :: (nn11 []))) ((@Mem.mk 0 0 []) = M0))) (.need (@isSo (@And ((ns).length ≤ 17592186044416) (@And ((@upI ns i) < (((ns).length : Nat) : Int)) ((-1 : Int) ≤ (@upI ns i))))) (.fork (@undX ns (@upI ns i) j) (.leaf (boo true)) (.leaf (boo false))))))) (by kernel_rfl) (by
    have h' := h
    rw [inR_t] at h'
    have hu := up_in ns i h'.1
    rw [undB_from]
    refine need_so ⟨rfl, h⟩ (need_so ⟨rfl, rfl⟩ (need_so ⟨hl, by omega, hu.1⟩ (fork_ok (fun q => ?_) (fun q => ?_))))
    · rw [q]; rfl
    · rw [q]; rfl)
noncomputable abbrev Sy.cUnd (ns : List NdV) : Con Try.prog := atX 31 (fun args => match args with | [_, .lit (.int .i64 i), .lit (.int .i64 j)] => some (i, j) | _ => none) (fun x => [nview ns, int x.1, int x.2]) (fun x => boo (undB ns x.1 x.2)) (fun x => ns.length ≤ 17592186044416 ∧ inR x.1 ns.length = true) fun x h => ⟨⟨⟨nview_free ns, trivial, trivial, trivial⟩, trivial⟩, und_t ns x.1 x.2 h.1 h.2⟩
noncomputable abbrev Sy.cDepC (ns : List NdV) (C : Int → Prop) (h : ∀ i, C i → CallTo Try.prog 16 [nview ns, int i] M0 fun v _ => v = int (depI ns i)) : Con Try.prog := atX 16 (fun args => match args with | [_, .lit (.int .i64 i)] => some i | _ => none) (fun i => [nview ns, int i]) (fun i => int (depI ns i)) C fun i hC => ⟨⟨⟨nview_free ns, trivial, trivial⟩, trivial⟩, h i hC⟩
theorem Sy.dep_t0 (ns : List NdV) (hl : ns.length ≤ 17592186044416) (i : Int) (C : Int → Prop) (h : ∀ i, C i → CallTo Try.prog 16 [nview ns, int i] M0 fun v _ => v = int (depI ns i)) (hi : inR i ns.length = true) (hC : ∀ b, 0 ≤ b → b < i → C b) : CallTo Try.prog 16 [nview ns, int i] M0 fun v _ => v = int (depI ns i) :=
  toV [cUpN ns, cDepC ns C h] [] 400 30 (.br (.auto 3 (.br .done (.yes (.br .done (.yes (.yes .done)))))) (.auto 4 .done)) (let e1 := (@AV.view (ns).length 6 (@ndcell ns)); let e2 := (@isSo (@And ((@HAppend.hAppend _ _ _ _ (@HAppend.hAppend _ _ _ _ [] [e1, (int i)]) []) = [e1, (int i)]) ((@inR i (ns).length) = true))); (.fork (!(!(leI (0 : Int) i))) (.fork (leI (((ns).length : Nat) : Int) i) (.leaf (int (0 : Int))) (.need e2 (.fork (!(leI (0 : Int) (@upI ns i))) (.leaf (int (1 : Int))) (.need e2 (.need (@isSo (@And ((@HAppend.hAppend _ _ _ _ (@HAppend.hAppend _ _ _ _ [] [e1, (int (@upI ns i))]) []) = [e1, (int (@upI ns i))]) (C (@upI ns i)))) (.leaf (int (w64 ((1 : Int) + (@depI ns (@upI ns i))))))))))) (.leaf (int (0 : Int))))) (by kernel_rfl) (by
    have h' := hi
    rw [inR_t] at h'
    have hu := up_in ns i h'.1
    refine fork_ok (fun q => ?_) (fun q => ?_)
    · refine fork_ok (fun q2 => ?_) (fun q2 => ?_)
      · simp only [Bool.not_eq_true', Bool.not_eq_false', leI_t, leI_f, eqI_t, eqI_f, inR_t, inR_f, isSo_t, isSo_f] at q2
        omega
      · refine need_so ⟨rfl, hi⟩ (fork_ok (fun q3 => ?_) (fun q3 => ?_))
        · simp only [Bool.not_eq_true', Bool.not_eq_false', leI_t, leI_f, eqI_t, eqI_f, inR_t, inR_f, isSo_t, isSo_f] at q3
          have e : depI ns i = 1 := by
            unfold depI
            rw [dep_root _ _ (by unfold upI at q3; omega)]; rfl
          exact leaf_int e.symm
        · simp only [Bool.not_eq_true', Bool.not_eq_false', leI_t, leI_f, eqI_t, eqI_f, inR_t, inR_f, isSo_t, isSo_f] at q3
          have e : depI ns i = 1 + depI ns (upI ns i) := by
            unfold depI
            rw [dep_up _ _ (by unfold upI at q3; omega)]
            unfold upI
            omega
          have hd : depI ns (upI ns i) ≤ upI ns i + 1 ∧ 0 ≤ depI ns (upI ns i) := by
            have := dep_le (pN ns) (upI ns i).toNat
            unfold depI
            omega
          refine need_so ⟨rfl, hi⟩ (need_so ⟨rfl, hC _ q3 hu.2⟩ (leaf_int ?_))
          rw [e, w64_in (by omega)]
    · simp only [Bool.not_eq_true', Bool.not_eq_false', leI_t, leI_f, eqI_t, eqI_f, inR_t, inR_f, isSo_t, isSo_f] at q
      omega)
theorem Sy.dep_t (ns : List NdV) (hl : ns.length ≤ 17592186044416) (i : Int) (hi : inR i ns.length = true) : CallTo Try.prog 16 [nview ns, int i] M0 fun v _ => v = int (depI ns i) := by
  have key : ∀ (n : Nat) (i : Int), i.toNat < n → inR i ns.length = true → CallTo Try.prog 16 [nview ns, int i] M0 fun v _ => v = int (depI ns i) := by
    intro n
    induction n with
    | zero => intro i hi; omega
    | succ n ih => intro i h1 h2; exact Sy.dep_t0 ns hl i (fun b => b.toNat < n ∧ inR b ns.length = true) (fun b hb => ih b hb.1 hb.2) h2 (fun b b0 b1 => ⟨by omega, by rw [inR_t] at h2 ⊢; omega⟩)
  exact key (i.toNat + 1) i (by omega) hi
noncomputable abbrev Sy.cDep (ns : List NdV) : Con Try.prog := atX 16 (fun args => match args with | [_, .lit (.int .i64 i)] => some i | _ => none) (fun i => [nview ns, int i]) (fun i => int (depI ns i)) (fun i => ns.length ≤ 17592186044416 ∧ inR i ns.length = true) fun i h => ⟨⟨⟨nview_free ns, trivial, trivial⟩, trivial⟩, dep_t ns h.1 i h.2⟩
theorem Sy.std_t (ns : List NdV) (i : Int) (hl : ns.length ≤ 17592186044416) (hi : inR i ns.length = true) : CallTo Try.prog 15 [nview ns, int i] M0 fun v _ => v = boo (stdB ns i) :=
  toV [cUpN ns, cUnd ns] [] 400 30 (.br (.yes (.br (.auto 0 (.yes (.auto 3 .done))) (.auto 4 .done))) (.yes (.br (.auto 1 (.yes (.auto 3 (.br (.auto 3 (.br (.auto 3 (.yes (.auto 2 .done))) (.auto 6 .done))) (.auto 10 .done))))) (.auto 17 .done)))) (let e1 := (@Array.toList _ (@ByteArray.data (@ByteArray.mk (@Array.mk _ [])))); let e2 := (@AV.view (ns).length 6 (@ndcell ns)); let e3 := (@upI ns i); let e4 := (w64 (i - (1 : Int))); (.fork (eqI i (0 : Int)) (.need (@inR (0 : Int) (ns).length) (.fork (eqI ((ns.getD 0 ndNone)).par (-1 : Int)) (.need (@inR (0 : Int) (ns).length) (.leaf (boo (!(@bytesEq (@Array.toList _ (@ByteArray.data ((ns.getD 0 ndNone)).tag)) e1))))) (.leaf (boo false)))) (.need (@isSo (@And ((@HAppend.hAppend _ _ _ _ (@HAppend.hAppend _ _ _ _ [] [e2, (int i)]) []) = [e2, (int i)]) ((@inR i (ns).length) = true))) (.fork (leI (0 : Int) e3) (.need (@inR e3 (ns).length) (.fork (!(@bytesEq (@Array.toList _ (@ByteArray.data ((ns.getD (e3).toNat ndNone)).tag)) e1)) (.fork (!(eqI e3 e4)) (.need (@isSo (@And ((@HAppend.hAppend _ _ _ _ (@HAppend.hAppend _ _ _ _ [] [e2, (int e4), (int e3)]) []) = [e2, (int e4), (int e3)]) (@And ((ns).length ≤ 17592186044416) ((@inR e4 (ns).length) = true)))) (.leaf (boo (@undB ns e4 e3)))) (.leaf (boo true))) (.leaf (boo false)))) (.leaf (boo false)))))) (by kernel_rfl) (by
    have h' := hi
    rw [inR_t] at h'
    have hu := up_in ns i h'.1
    refine fork_ok (fun q => ?_) (fun q => ?_)
    · simp only [Bool.not_eq_true', Bool.not_eq_false', leI_t, leI_f, eqI_t, eqI_f, inR_t, inR_f, isSo_t, isSo_f] at q
      subst q
      have e : stdB ns 0 = (decide (pN ns 0 = -1) && tgB ns 0) := by
        unfold stdB standsN
        exact if_pos rfl
      refine need_t hi (fork_ok (fun q2 => need_t hi ?_) (fun q2 => ?_))
      · simp only [Bool.not_eq_true', Bool.not_eq_false', leI_t, leI_f, eqI_t, eqI_f, inR_t, inR_f, isSo_t, isSo_f] at q2
        rw [e, show decide (pN ns 0 = -1) = true from decide_eq_true q2]
        rfl
      · simp only [Bool.not_eq_true', Bool.not_eq_false', leI_t, leI_f, eqI_t, eqI_f, inR_t, inR_f, isSo_t, isSo_f] at q2
        rw [e, show decide (pN ns 0 = -1) = false from decide_eq_false q2]
        rfl
    · simp only [Bool.not_eq_true', Bool.not_eq_false', leI_t, leI_f, eqI_t, eqI_f, inR_t, inR_f, isSo_t, isSo_f] at q
      have e : stdB ns i = (decide (0 ≤ upI ns i) && tgB ns (upI ns i).toNat && inFrom (pN ns) ((i.toNat : Int) - 1) (upI ns i).toNat) := by
        unfold stdB standsN
        rw [if_neg (by omega)]
        rfl
      refine need_so ⟨rfl, hi⟩ (fork_ok (fun q2 => ?_) (fun q2 => ?_))
      · simp only [Bool.not_eq_true', Bool.not_eq_false', leI_t, leI_f, eqI_t, eqI_f, inR_t, inR_f, isSo_t, isSo_f] at q2
        rw [show decide (0 ≤ upI ns i) = true from decide_eq_true q2, Bool.true_and] at e
        have ei : (i.toNat : Int) - 1 = ((i.toNat - 1 : Nat) : Int) := by omega
        rw [ei, inFrom_under] at e
        refine need_t (by rw [inR_t]; omega) (fork_ok (fun q3 => ?_) (fun q3 => ?_))
        · have q3' : tgB ns (upI ns i).toNat = true := q3
          rw [q3', Bool.true_and] at e
          have hw : w64 (i - 1) = i - 1 := w64_in (by omega)
          refine fork_ok (fun q4 => need_so ⟨rfl, hl, by rw [inR_t]; omega⟩ ?_) (fun q4 => ?_)
          · rw [hw] at q4 ⊢
            simp only [Bool.not_eq_true', Bool.not_eq_false', leI_t, leI_f, eqI_t, eqI_f, inR_t, inR_f, isSo_t, isSo_f] at q4
            rw [e, show decide (((upI ns i).toNat : Int) = ((i.toNat - 1 : Nat) : Int)) = false from decide_eq_false (by omega), Bool.false_or]
            unfold undB
            rw [show (((upI ns i).toNat : Nat) : Int) = upI ns i by omega, show (i - 1).toNat = i.toNat - 1 by omega]
            rfl
          · rw [hw] at q4
            simp only [Bool.not_eq_true', Bool.not_eq_false', leI_t, leI_f, eqI_t, eqI_f, inR_t, inR_f, isSo_t, isSo_f] at q4
            rw [e, show decide (((upI ns i).toNat : Int) = ((i.toNat - 1 : Nat) : Int)) = true from decide_eq_true (by omega), Bool.true_or]
            rfl
        · have q3' : tgB ns (upI ns i).toNat = false := q3
          rw [q3', Bool.false_and] at e
          rw [e]; rfl
      · simp only [Bool.not_eq_true', Bool.not_eq_false', leI_t, leI_f, eqI_t, eqI_f, inR_t, inR_f, isSo_t, isSo_f] at q2
        rw [show decide (0 ≤ upI ns i) = false from decide_eq_false (by omega)] at e
        rw [e]; rfl)
noncomputable abbrev Sy.cStd (ns : List NdV) : Con Try.prog := atX 15 (fun args => match args with | [_, .lit (.int .i64 i)] => some i | _ => none) (fun i => [nview ns, int i]) (fun i => boo (stdB ns i)) (fun i => ns.length ≤ 17592186044416 ∧ inR i ns.length = true) fun i h => ⟨⟨⟨nview_free ns, trivial, trivial⟩, trivial⟩, std_t ns i h.1 h.2⟩
def TreeOk (ns : List NdV) : Prop := (ns.length ≤ 1024 ∧ ∀ n ∈ ns, n.Ok) ∧ ∀ k : Nat, k < ns.length → ndB (ndN ns k) = true ∧ stdB ns k = true ∧ depI ns k ≤ 64
namespace Sy
end Sy
namespace Sy
end Sy
def OsAt (os : List Int) (rs : List Nat) : Prop := os = rs.reverse.map fun k : Nat => (k : Int)
structure BSt (k : Nat) (ns : List NdV) (os : List Int) : Prop where
  bi : ∃ rs, OsAt os rs ∧ BI (pN ns) (tgB ns) ns.length rs
  right : ∀ n ∈ ns, ndB n = true ∧ n.Ok
  len : ns.length ≤ k
  deep : os.length ≤ 64
theorem BSt.start (k : Nat) : BSt k [] [] := ⟨⟨[], rfl, BI.start _ _⟩, fun n h => (by cases h), Nat.zero_le _, Nat.zero_le _⟩
theorem OsAt.len {os : List Int} {rs : List Nat} (h : OsAt os rs) : os.length = rs.length := by rw [h]; simp
def headI (rs : List Nat) : Int := match rs with | [] => -1 | a :: _ => (a : Int)
theorem OsAt.last {os : List Int} {rs : List Nat} (h : OsAt os rs) : lastI os = headI rs := by
  unfold lastI
  cases rs with
  | nil =>
    rw [h.len]
    exact if_pos rfl
  | cons a r =>
    rw [h.len, if_neg (by rw [eqI_t]; simp only [List.length_cons]; omega)]
    rw [h]
    simp [List.getD_eq_getElem?_getD, headI]
theorem OsAt.push {os : List Int} {rs : List Nat} (h : OsAt os rs) (n : Nat) : OsAt (os ++ [(n : Int)]) (n :: rs) := by
  unfold OsAt at h ⊢
  rw [h]
  simp
theorem OsAt.pop {os : List Int} {rs : List Nat} (h : OsAt os rs) : OsAt os.dropLast rs.tail := by
  unfold OsAt at h ⊢
  rw [h]
  cases rs with
  | nil => rfl
  | cons a r => simp
theorem pN_app (ns : List NdV) (x : NdV) : (∀ j, j < ns.length → pN (ns ++ [x]) j = pN ns j) ∧ pN (ns ++ [x]) ns.length = x.par := by
  constructor
  · intro j hj
    unfold pN
    simp only [List.getD_eq_getElem?_getD]
    rw [List.getElem?_append_left hj]
  · unfold pN
    simp [List.getD_eq_getElem?_getD]
theorem tgB_app (ns : List NdV) (x : NdV) : (∀ j, j < ns.length → tgB (ns ++ [x]) j = tgB ns j) ∧ tgB (ns ++ [x]) ns.length = !bytesEq x.tag.data.toList [] := by
  constructor
  · intro j hj
    unfold tgB
    simp only [List.getD_eq_getElem?_getD]
    rw [List.getElem?_append_left hj]
  · unfold tgB
    simp [List.getD_eq_getElem?_getD]
theorem putN_right {n : NdV} (os : List Int) (h : ndB n = true) (hk : n.Ok) : ndB (putN n os) = true ∧ (putN n os).Ok := ⟨h, hk⟩
theorem wordN_right {n : NdV} (os : List Int) (h : textL n.text.data.toList = true) (hk : n.Ok) : ndB (wordN n os) = true ∧ (wordN n os).Ok := by
  constructor
  · unfold ndB wordN
    refine Eq.trans (if_pos rfl) ?_
    show (true && (true && (true && textL n.text.data.toList))) = true
    rw [h]; rfl
  · obtain ⟨_, _, _, _, h5⟩ := hk
    exact ⟨by show 0 ≤ _; omega, by show 0 ≤ _; omega, ⟨by show 0 ≤ _; omega, fun s hs => (by cases hs)⟩, ⟨by show 0 ≤ _; omega, fun s hs => (by cases hs)⟩, h5⟩
theorem BSt.push {k : Nat} {ns : List NdV} {os : List Int} (h : BSt k ns os) (x : NdV) (hx : ndB x = true ∧ x.Ok) (hp : x.par = lastI os) (hd : os.length ≠ 64) (h0 : os = [] → ns.length = 0 ∧ (!bytesEq x.tag.data.toList []) = true) :
    BSt (k + 1) (ns ++ [x]) os ∧ ((!bytesEq x.tag.data.toList []) = true → BSt (k + 1) (ns ++ [x]) (os ++ [(ns.length : Int)])) := by
  obtain ⟨⟨rs, hr, hb⟩, hrt, hl, hdp⟩ := h
  have hrl := hr.len
  have hright : ∀ n ∈ ns ++ [x], ndB n = true ∧ n.Ok := fun n hn => by
    rcases List.mem_append.1 hn with hn | hn
    · exact hrt n hn
    · rw [List.mem_singleton.1 hn]; exact hx
  have hlen : (ns ++ [x]).length = ns.length + 1 := by simp
  obtain ⟨q1, q2⟩ := BI.put (q := pN (ns ++ [x])) (tg' := tgB (ns ++ [x])) hb (pN_app ns x).1 (tgB_app ns x).1 (by rw [(pN_app ns x).2, hp, hr.last]; cases rs <;> rfl) (fun e => by
    subst e
    have : os = [] := List.eq_nil_of_length_eq_zero (by simpa using hrl)
    rw [(tgB_app ns x).2]
    exact h0 this) (by omega)
  refine ⟨⟨⟨rs, hr, by rw [hlen]; exact q1⟩, hright, by omega, hdp⟩, fun ht => ⟨⟨ns.length :: rs, hr.push _, by rw [hlen]; exact q2 (by rw [(tgB_app ns x).2]; exact ht)⟩, hright, by omega, by simp; omega⟩⟩
theorem BSt.pop {k : Nat} {ns : List NdV} {os : List Int} (h : BSt k ns os) : BSt (k + 1) ns os.dropLast := by
  obtain ⟨⟨rs, hr, hb⟩, hrt, hl, hdp⟩ := h
  refine ⟨⟨rs.tail, hr.pop, ?_⟩, hrt, by omega, by rw [List.length_dropLast]; omega⟩
  cases rs with
  | nil => exact hb
  | cons a r => exact hb.close
theorem BSt.tree {k : Nat} {ns : List NdV} {os : List Int} (h : BSt k ns os) (hk : k ≤ 1024) : TreeOk ns := by
  obtain ⟨⟨rs, hr, hb⟩, hrt, hl, hdp⟩ := h
  refine ⟨⟨by omega, fun n hn => (hrt n hn).2⟩, fun j hj => ⟨(hrt _ (getD_mem ns (j : Int) _ (by omega) (by omega))).1, hb.stand j hj, ?_⟩⟩
  have := hb.deep j hj
  unfold depI
  rw [Int.toNat_natCast]
  omega
theorem ndB_lens {n : NdV} (h : ndB n = true) : n.cls.length ≤ 1024 ∧ n.atts.length ≤ 1024 := by
  unfold ndB at h
  split at h
  · simp only [Bool.and_eq_true, eqI_t] at h
    omega
  · simp only [Bool.and_eq_true, leI_t] at h
    omega
end Go.Proofs.Ytglkdhmikpejnaa
namespace Go.Proofs.Ytglkdhmikpejnaa
open Go Go.RowKit Pl Sy
inductive Ft where
  | nil
  | cons (n : NdV) (k nx : Ft)
def setP (n : NdV) (p : Int) : NdV := ⟨p, n.tag, n.id, n.cls, n.atts, n.text⟩
namespace Ft
def sz : Ft → Nat
  | nil => 0
  | cons _ k nx => 1 + k.sz + nx.sz
def fl : Ft → Nat → Int → List NdV
  | nil, _, _ => []
  | cons n k nx, i, p => setP n p :: (k.fl (i + 1) (i : Nat) ++ nx.fl (i + 1 + k.sz) p)
def isN : Ft → Bool
  | nil => true
  | cons .. => false
theorem isN_t {F : Ft} (h : F.isN = true) : F = nil := by
  cases F with
  | nil => rfl
  | cons n k nx => cases h
theorem fl_len : ∀ (F : Ft) (i : Nat) (p : Int), (F.fl i p).length = F.sz
  | nil, i, p => rfl
  | cons n k nx, i, p => by
    simp only [fl, sz, List.length_cons, List.length_append, fl_len k, fl_len nx]
    omega
def snoc : Ft → NdV → Ft
  | nil, x => cons x nil nil
  | cons n k nx, x => cons n k (nx.snoc x)
theorem snoc_fl (x : NdV) : ∀ (F : Ft) (i : Nat) (p : Int), (F.snoc x).fl i p = F.fl i p ++ [setP x p]
  | nil, i, p => rfl
  | cons n k nx, i, p => by simp only [snoc, fl, snoc_fl x nx, List.cons_append, List.append_assoc]
theorem snoc_isN (x : NdV) (F : Ft) : (F.snoc x).isN = false := by cases F <;> rfl
def rp : Ft → Nat → List Nat
  | nil, _ => []
  | cons n k nx, i => if nx.isN = true then i :: k.rp (i + 1) else nx.rp (i + 1 + k.sz)
theorem snoc_rp (x : NdV) : ∀ (F : Ft) (i : Nat), (F.snoc x).rp i = [i + F.sz]
  | nil, i => rfl
  | cons n k nx, i => by
    simp only [snoc, rp, snoc_isN, sz]
    rw [if_neg (by decide), snoc_rp x nx]
    congr 1
    omega
theorem rp_nil (n : NdV) (k : Ft) (i : Nat) : (cons n k nil).rp i = i :: k.rp (i + 1) := by
  rw [rp, if_pos (show (nil : Ft).isN = true from rfl)]
theorem rp_in : ∀ (F : Ft) (i q : Nat), q ∈ F.rp i → i ≤ q ∧ q < i + F.sz
  | nil, i, q, h => by cases h
  | cons n k nx, i, q, h => by
    simp only [rp] at h
    simp only [sz]
    split at h
    · rcases List.mem_cons.1 h with rfl | h
      · omega
      · have := rp_in k (i + 1) q h; omega
    · have := rp_in nx (i + 1 + k.sz) q h; omega
def ins : Ft → Nat → Nat → NdV → Ft
  | nil, _, _, _ => nil
  | cons n k nx, i, q, x => if nx.isN = true then (if q = i then cons n (k.snoc x) nil else cons n (k.ins (i + 1) q x) nil) else cons n k (nx.ins (i + 1 + k.sz) q x)
theorem ins_isN (x : NdV) (F : Ft) (i q : Nat) (h : F.isN = false) : (F.ins i q x).isN = false := by
  cases F with
  | nil => cases h
  | cons n k nx =>
    simp only [ins]
    split
    · split <;> rfl
    · rfl
theorem ins_fl (x : NdV) : ∀ (F : Ft) (i q : Nat) (p : Int), q ∈ F.rp i → (F.ins i q x).fl i p = F.fl i p ++ [setP x (q : Nat)]
  | nil, i, q, p, h => by cases h
  | cons n k nx, i, q, p, h => by
    simp only [rp] at h
    simp only [ins]
    split at h
    · rename_i e
      obtain rfl := isN_t e
      rw [if_pos (show (nil : Ft).isN = true from rfl)]
      by_cases hq : q = i
      · subst hq
        rw [if_pos rfl]
        simp only [fl, snoc_fl, List.append_nil, List.cons_append]
      · rw [if_neg hq]
        have h : q ∈ k.rp (i + 1) := by
          rcases List.mem_cons.1 h with h | h
          · exact absurd h hq
          · exact h
        simp only [fl, ins_fl x k (i + 1) q _ h, List.append_nil, List.cons_append]
    · rename_i e
      rw [if_neg e]
      simp only [fl, ins_fl x nx (i + 1 + k.sz) q _ h, List.cons_append, List.append_assoc]
theorem ins_rp (x : NdV) : ∀ (F : Ft) (i q y : Nat), q ∈ F.rp i → (y ∈ (F.ins i q x).rp i ↔ (y ∈ F.rp i ∧ y ≤ q) ∨ y = i + F.sz)
  | nil, i, q, y, h => by cases h
  | cons n k nx, i, q, y, h => by
    simp only [rp] at h
    simp only [ins]
    split at h
    · rename_i e
      obtain rfl := isN_t e
      rw [if_pos (show (nil : Ft).isN = true from rfl)]
      simp only [rp_nil, sz]
      by_cases hq : q = i
      · subst hq
        rw [if_pos rfl]
        simp only [rp_nil, snoc_rp, List.mem_cons, List.not_mem_nil, or_false]
        constructor
        · rintro (h | h)
          · exact .inl ⟨.inl h, by omega⟩
          · exact .inr (by omega)
        · rintro (⟨h | h, h2⟩ | h)
          · exact .inl h
          · have := rp_in k (q + 1) y h; omega
          · exact .inr (by omega)
      · rw [if_neg hq]
        have h : q ∈ k.rp (i + 1) := by
          rcases List.mem_cons.1 h with h | h
          · exact absurd h hq
          · exact h
        have hi := rp_in k (i + 1) q h
        simp only [rp_nil, List.mem_cons, ins_rp x k (i + 1) q y h]
        constructor
        · rintro (h | ⟨h, h2⟩ | h)
          · exact .inl ⟨.inl h, by omega⟩
          · exact .inl ⟨.inr h, h2⟩
          · exact .inr (by omega)
        · rintro (⟨h | h, h2⟩ | h)
          · exact .inl h
          · exact .inr (.inl ⟨h, h2⟩)
          · exact .inr (.inr (by omega))
    · rename_i e
      rw [if_neg e]
      have e2 : nx.isN = false := by simpa using e
      simp only [rp, sz]
      rw [if_neg (by rw [ins_isN x nx _ _ e2]; decide), if_neg e, ins_rp x nx (i + 1 + k.sz) q y h]
      constructor
      · rintro (h | h)
        · exact .inl h
        · exact .inr (by omega)
      · rintro (h | h)
        · exact .inl h
        · exact .inr (by omega)
end Ft
theorem setP_self (x : NdV) : setP x x.par = x := rfl
theorem forest_of (ns : List NdV) (h : ∀ k : Nat, k < ns.length → stdB ns (k : Nat) = true) : ∀ m, 0 < m → m ≤ ns.length → ∃ n k, ns.take m = (Ft.cons n k .nil).fl 0 (-1) ∧ ∀ y, y ∈ (Ft.cons n k .nil).rp 0 ↔ y = m - 1 ∨ y ∈ ups (pN ns) (m - 1) := by
  intro m
  induction m with
  | zero => intro h0; omega
  | succ m ih =>
    intro _ hm
    have hs := h m (by omega)
    have hg : ns.take (m + 1) = ns.take m ++ [ns.getD m ndNone] := by
      rw [List.take_add_one, List.getD_eq_getElem?_getD, List.getElem?_eq_getElem (by omega)]
      rfl
    have hx : (ns.getD m ndNone).par = pN ns m := rfl
    generalize ns.getD m ndNone = x at hg hx
    by_cases h0 : m = 0
    · subst h0
      have hs : (decide (pN ns 0 = -1) && tgB ns 0) = true := hs
      rw [Bool.and_eq_true, decide_eq_true_eq] at hs
      refine ⟨x, .nil, ?_, fun y => ?_⟩
      · rw [hg]
        show [] ++ [x] = [setP x (-1)]
        rw [← hs.1, ← hx, setP_self]; rfl
      · have e : ups (pN ns) 0 = [] := by
          have := up_lt (pN ns) 0
          rw [ups_eq, if_neg (by omega)]
        rw [show (0 + 1 - 1 : Nat) = 0 from rfl, e]
        simp [Ft.rp, Ft.isN]
    · obtain ⟨n, k, h1, h2⟩ := ih (by omega) (by omega)
      have e : stdB ns (m : Nat) = (decide (0 ≤ up (pN ns) m) && tgB ns (up (pN ns) m).toNat && inFrom (pN ns) ((m : Int) - 1) (up (pN ns) m).toNat) := by
        unfold stdB standsN
        rw [Int.toNat_natCast, if_neg h0]
      rw [e, Bool.and_eq_true, Bool.and_eq_true, decide_eq_true_eq] at hs
      obtain ⟨⟨s1, s2⟩, s3⟩ := hs
      rw [show (m : Int) - 1 = ((m - 1 : Nat) : Int) by omega, inFrom_under, Bool.or_eq_true, decide_eq_true_eq] at s3
      have hu := up_lt (pN ns) m
      obtain ⟨q, hq⟩ : ∃ q : Nat, up (pN ns) m = q := ⟨(up (pN ns) m).toNat, by omega⟩
      rw [hq, Int.toNat_natCast] at s3
      have s3 : q = m - 1 ∨ q ∈ ups (pN ns) (m - 1) := by
        rcases s3 with s3 | s3
        · exact .inl (by omega)
        · exact .inr ((under_mem _ _ _).1 s3)
      have hqr : q ∈ (Ft.cons n k .nil).rp 0 := (h2 q).2 s3
      have hpar : x.par = (q : Nat) := by
        rw [hx, ← hq]
        unfold up at hq ⊢
        split at hq
        · rename_i c; rw [if_pos c]
        · omega
      have hsz : (Ft.cons n k .nil).sz = m := by
        rw [← Ft.fl_len _ 0 (-1), ← h1, List.length_take]
        omega
      obtain ⟨k', hk'⟩ : ∃ k', (Ft.cons n k .nil).ins 0 q x = Ft.cons n k' .nil := by
        simp only [Ft.ins]
        rw [if_pos (show (Ft.nil).isN = true from rfl)]
        split
        · exact ⟨_, rfl⟩
        · exact ⟨_, rfl⟩
      refine ⟨n, k', ?_, fun y => ?_⟩
      · rw [← hk', Ft.ins_fl x _ 0 q (-1) hqr, hg, h1, ← hpar, setP_self]
      · rw [← hk', Ft.ins_rp x _ 0 q y hqr, hsz, h2 y, show m + 1 - 1 = m from rfl, ups_eq (pN ns) m, if_pos (by omega), hq, Int.toNat_natCast, List.mem_cons]
        constructor
        · rintro (⟨c1, c2⟩ | c)
          · by_cases hy : y = q
            · exact .inr (.inl hy)
            · right; right
              rcases c1 with c1 | c1
              · omega
              · rcases s3 with s3 | s3
                · rw [s3]; exact c1
                · exact ups_chain _ (m - 1) q y s3 c1 (by omega)
          · exact .inl (by omega)
        · rintro (c | c | c)
          · exact .inr (by omega)
          · subst c
            exact .inl ⟨s3, Nat.le_refl _⟩
          · have hlt := ups_lt _ _ _ c
            refine .inl ⟨.inr ?_, by omega⟩
            rcases s3 with s3 | s3
            · rw [← s3]; exact c
            · exact ups_trans _ _ _ _ s3 c
theorem tree_forest {ns : List NdV} (h : TreeOk ns) (h0 : 0 < ns.length) : ∃ n k, ns = (Ft.cons n k .nil).fl 0 (-1) := by
  obtain ⟨n, k, h1, _⟩ := forest_of ns (fun k hk => (h.2 k hk).2.1) ns.length h0 (Nat.le_refl _)
  rw [List.take_length] at h1
  exact ⟨n, k, h1⟩
end Go.Proofs.Ytglkdhmikpejnaa
namespace Go.Proofs.Ytglkdhmikpejnaa.Sy
open Go Go.RowKit
variable [Dfs]
def pent (k e : Int) : PanicEntry := { v := .iface 46 (.agg #[.int .i64 k, .int .i64 e]), recovered := false }
def PanTo (P : Program) (f : FuncId) (args : List AV) (M : Mem) (k e : Int) : Prop := ∀ w0 ρ us w, rels ρ args us → WR w0 ρ M w →
  Calls P f us.toArray w fun x w' => ∃ ρ' M', x = .panicked [pent k e] ∧ Ext ρ ρ' ∧ WR w0 ρ' M' w'
structure PanR where
  ob : Option Bool
  b : Bool
  k : Int
  e : Int
abbrev PanT := FuncId → List AV → Mem → Option PanR
def PanOk (P : Program) (pan : PanT) : Prop := ∀ f args M r, pan f args M = some r → owed r.ob → r.b = true → PanTo P f args M r.k r.e
inductive ExP where
  | norm
  | exit (id : Nat)
  | ret
  | goto (l : Nat)
  | pan (k e : Int)
def ExP.to : ExP → Exit
  | .norm => .normal
  | .exit id => .exit id
  | .ret => .ret
  | .goto l => .goto l
  | .pan k e => .panic [pent k e]
def EndP (w0 : World) (ρ' : Rho) : ExP → Fr → Mem → Act → World → Prop
  | .pan _ _, _, _, a', w' => a'.defers = Dfs.ds ∧ ∃ M'', WR w0 ρ' M'' w'
  | _, F', M', a', w' => FR ρ' F' a' ∧ WR w0 ρ' M' w'
noncomputable def panOf (P : Program) (pan : PanT) (F : Fr) (M : Mem) (o : Oper) : Option PanR := match o.op with
  | .call c => match calleeA F c with
    | some (f, args) => match P.funcs[f]? with
      | some fn => match fn.body.isSome with
        | true => pan f args M
        | false => none
      | none => none
    | none => none
  | _ => none
theorem panOf_sound {P : Program} (hP : Plainly P) {pan : PanT} (hpan : PanOk P pan) {w0 : World} {ρ : Rho} {M : Mem} {w : World} {F : Fr} {a : Act} (hF : FR ρ F a) (hW : WR w0 ρ M w) {o : Oper} {r : PanR} (he : panOf P pan F M o = some r) (hob : owed r.ob) (hb : r.b = true)
    {K : Act → World → Prop} {Q : Exit → Act → World → Prop} (hQ : ∀ ρ' M' w', Ext ρ ρ' → WR w0 ρ' M' w' → Q (.panic [pent r.k r.e]) a w') : o.wp P a w K Q := by
  unfold panOf at he
  split at he
  · rename_i c ho
    split at he
    · rename_i f args hc
      split at he
      · rename_i fn hf
        split at he
        · rename_i hbd
          obtain ⟨us, h1, h2⟩ := calleeA_sound hF hc P hf hbd (hP f fn hf) o.type w
          have h3 := hpan f args M r he hob hb w0 ρ us w h1 hW
          unfold Oper.wp execOp
          simp only [ho]
          rw [h2]
          simp only [Oper.upon_enter]
          refine h3.mono ?_
          rintro x w' ⟨ρ', M', rfl, q1, q2⟩
          exact hQ ρ' M' w' q1 q2
        · cases he
      · cases he
    · cases he
  · cases he
noncomputable def opsP {β : Type} (P : Program) (call : CallT) (pan : PanT) (inl : Inl β) (ops : Array Oper) : List Oper → Fr → Mem → D → (Fr → Mem → D → Tr β) → (Int → Int → Mem → D → Tr β) → Tr β
  | [], F, M, d, k, kp => k F M d
  | o :: rest, F, M, d, k, kp => wantK ops F o d fun b F d1 => match b with
    | true => match panOf P pan F M o with
      | some r => owedK r.ob d1 fun d2 => ask d2 r.b fun x d3 => match x with
        | true => kp r.k r.e M d3
        | false => opK P call inl F M d3 o fun v M' d4 => opsP P call pan inl ops rest (putF F o.dst (some v)) M' d4 k kp
      | none => opK P call inl F M d1 o fun v M' d2 => opsP P call pan inl ops rest (putF F o.dst (some v)) M' d2 k kp
    | false => opsP P call pan inl ops rest (putF F o.dst (some (.lit undef))) M d1 k kp
theorem opsP_sound {β : Type} {G : β → Prop} {P : Program} (hP : Plainly P) {call : CallT} (hcall : CallOk P call) {pan : PanT} (hpan : PanOk P pan) {inl : Inl β} (hinl : InlOk P inl) {w0 : World} (ops : Array Oper) : ∀ (l : List Oper) {ρ : Rho} {F : Fr} {M : Mem} {w : World} {a : Act} {d : D} {k : Fr → Mem → D → Tr β} {kp : Int → Int → Mem → D → Tr β},
    FR ρ F a → WR w0 ρ M w → (opsP P call pan inl ops l F M d k kp).Ok G → ∀ {Q : Exit → Act → World → Prop}, (∀ F' M' d' ρ' a' w', (k F' M' d').Ok G → Ext ρ ρ' → FR ρ' F' a' → WR w0 ρ' M' w' → Q .normal a' w') →
      (∀ kk e M1 d' ρ' M' a' w', (kp kk e M1 d').Ok G → Ext ρ ρ' → a'.defers = Dfs.ds → WR w0 ρ' M' w' → Q (.panic [pent kk e]) a' w') → wpList P ops Q l a w
  | [], ρ, F, M, w, a, d, k, kp, hF, hW, h, Q, hQ, hQp => hQ F M d ρ a w h (Ext.refl _) hF hW
  | o :: rest, ρ, F, M, w, a, d, k, kp, hF, hW, h, Q, hQ, hQp => by
    simp only [opsP] at h
    refine wpList_step fun K hK => ?_
    obtain ⟨b, d1, hw, h⟩ := wantK_ok h
    rw [wantedA_sound hF hw]
    have go : ∀ {d}, (opK P call inl F M d o fun v M' d2 => opsP P call pan inl ops rest (putF F o.dst (some v)) M' d2 k kp).Ok G → o.wp P a w K Q := fun h =>
      opK_sound hP hcall hinl hF hW h fun v M' d' ρ' u w' h0 h1 h2 h3 => hK _ _ (opsP_sound hP hcall hpan hinl ops rest ((hF.ext h1).put o.dst h2) h3 h0 (fun F2 M2 d2 ρ2 a2 w2 q0 q1 q2 q3 => hQ F2 M2 d2 ρ2 a2 w2 q0 (h1.trans q1) q2 q3) (fun kk e M1 d2 ρ2 M2 a2 w2 q0 q1 q2 q3 => hQp kk e M1 d2 ρ2 M2 a2 w2 q0 (h1.trans q1) q2 q3))
    cases b with
    | true =>
      rw [if_pos rfl]
      simp only at h
      cases hp : panOf P pan F M o with
      | none =>
        simp only [hp] at h
        exact go h
      | some r =>
        simp only [hp] at h
        obtain ⟨hob, d2, h⟩ := owedK_ok h
        obtain ⟨d3, h⟩ := ask_ok h
        cases hb : r.b with
        | true =>
          simp only [hb] at h
          exact panOf_sound hP hpan hF hW hp hob hb fun ρ' M' w' q1 q2 => hQp r.k r.e M d3 ρ' M' a w' h q1 hF.defers q2
        | false =>
          simp only [hb] at h
          exact go h
    | false =>
      simp only [Bool.false_eq_true, if_false]
      exact hK _ _ (opsP_sound hP hcall hpan hinl ops rest (hF.put o.dst (by simp [rel])) hW h hQ hQp)
def calleeC (o : Oper) : Option (Option FuncId) := match o.op with
  | .call c => match c.callee with
    | .value (.func f) => some (some f)
    | .builtin _ => some none
    | _ => none
  | _ => some none
noncomputable def pretend (call : CallT) (dm : FuncId → Option AV) : CallT where
  run := fun f args M => match dm f with | some v => some (v, M) | none => call.run f args M
  ob := fun f args M => match dm f with | some _ => none | none => call.ob f args M
  has := fun f args M => match dm f with | some _ => true | none => call.has f args M
theorem pretend_grow {call : CallT} (h : CallGrow call) (dm : FuncId → Option AV) : CallGrow (pretend call dm) := fun f args M v M' h1 h2 => by
  have h1 : (match dm f with | some v => some (v, M) | none => call.run f args M) = some (v, M') := h1
  have h2 : owed (match dm f with | some _ => none | none => call.ob f args M) := h2
  cases hd : dm f with
  | some x =>
    rw [hd] at h1
    simp at h1
    rw [← h1.2]
    exact Grow.refl _
  | none =>
    rw [hd] at h1 h2
    exact h f args M v M' h1 h2
theorem calleeA_C {F : Fr} {o : Oper} {c : Call} (ho : o.op = .call c) {f f' : FuncId} {args : List AV} (h : calleeC o = some (some f)) (hA : calleeA F c = some (f', args)) : f' = f := by
  unfold calleeC at h
  simp only [ho] at h
  split at h
  · rename_i g hc
    simp at h
    subst h
    unfold calleeA at hA
    simp only [hc] at hA
    split at hA
    · rename_i f2 first cap args2 h1 h2
      simp at hA
      simp [evX] at h1
      rw [← hA.1, ← h1.1]
    · rename_i f2 first cap args2 h1 h2
      simp at hA
      simp [evX] at h1
    · cases hA
  · simp at h
  · cases h
theorem pretend_same {P : Program} {call : CallT} {dm : FuncId → Option AV} {o : Oper} (h : calleeC o = some none ∨ ∃ f, calleeC o = some (some f) ∧ dm f = none) (F : Fr) (M : Mem) : evOp1 P (pretend call dm) F M o = evOp1 P call F M o ∧ obOp1 P (pretend call dm) F M o = obOp1 P call F M o := by
  unfold evOp1 obOp1
  cases ho : o.op with
  | call c =>
    simp only
    cases hA : calleeA F c with
    | none => exact ⟨rfl, rfl⟩
    | some fa =>
      obtain ⟨f', args⟩ := fa
      rcases h with h | ⟨f, h, hd⟩
      · exfalso
        unfold calleeC at h
        simp only [ho] at h
        split at h
        · simp at h
        · rename_i b hc
          unfold calleeA at hA
          simp only [hc] at hA
          cases hA
        · cases h
      · have e := calleeA_C ho h hA
        subst e
        simp only [pretend, hd]
        exact ⟨trivial, trivial⟩
  | _ => exact ⟨rfl, rfl⟩
theorem inv_pan {P : Program} {call : CallT} (hcall : CallGrow call) {ops : Array Oper} (hS : StatOk P ops) {es : List (AV × Mem)} {F0 : Fr} {M0 : Mem} {w0 : World} {ρ0 : Rho} (hs : evSeq P call ops ops.toList F0 M0 = some es)
    {listed : Array Bool} {a : Act} {w : World} (h : Inv P ops es F0 M0 w0 ρ0 listed a w) {i : Nat} (hi : i ∈ Region.ready .any ops listed) {o : Oper} (ho : ops[i]? = some o) (hE : isEff o = true) (hfl : fl P ops i = false) (hg : o.guard = none) {Q : Exit → Act → World → Prop} {K : Act → World → Prop}
    (hpan : ∀ ρ1, Ext ρ0 ρ1 → FR ρ1 (rst (frAt ops.toList es F0 i) (o.looksAt ops)) a → WR w0 ρ1 (memAt es M0 i) w → o.wp P a w K Q) : wpOp P ops Q i K a w := by
  obtain ⟨hi0, o1, ho1, hpre⟩ := mem_ready.1 hi
  rw [ho] at ho1
  simp at ho1
  subst ho1
  have hlt : i < ops.size := (Array.getElem?_eq_some_iff.1 ho).1
  have hlt' : i < listed.size := by rw [h.size]; exact hlt
  have hif : listed.getD i false = false := by
    rw [Array.getD_eq_getD_getElem?, Array.getElem?_eq_getElem hlt'] at hi0 ⊢
    simpa using hi0
  have hp : ∀ p ∈ preds o, listed.getD p false = true := fun p hp => by
    obtain ⟨e, he, hb, rfl⟩ := mem_preds.1 hp
    exact hpre e he hb
  obtain ⟨hlen, hspec⟩ := evSeq_spec _ _ _ _ hs
  have hlen' : es.length = ops.size := by simpa using hlen
  obtain ⟨ρ, i0, G, c1, ca, cb, c4⟩ := h.st
  have hi0le : i0 ≤ ops.size := by
    rcases c1 with rfl | ⟨e, o', e1, _, rfl⟩
    · omega
    · have := (Array.getElem?_eq_some_iff.1 e1).1; omega
  have hge : i0 ≤ i := by
    rcases Nat.lt_or_ge i i0 with hh | hh
    · have := ca i o ho hE hh
      rw [hif] at this; cases this
    · exact hh
  unfold wpOp
  simp only [ho]
  have done : ∀ (e : Nat) (o' : Oper), ops[e]? = some o' → isEff o' = true → e < i → listed.getD e false = true := fun e o' h1 h2 h3 => by
    rcases hS.eff i o e o' ho h1 h3 hE h2 with hr | hr
    · exact h.closed.ready ho hp hr
    · rw [hfl] at hr; cases hr
  obtain ⟨ρ1, s1⟩ := St.upto hS hs (i - i0) c4 (by omega) (fun e o' h1 h2 h3 => by
    cases he : isEff o' with
    | false => exact .inl rfl
    | true =>
      right
      have hl := done e o' h3 he (by omega)
      cases hfe : fl P ops e with
      | true => exact ⟨rfl, hl⟩
      | false => have := cb e o' h3 he hfe hl; omega)
  rw [show i0 + (i - i0) = i by omega] at s1
  have hF := s1.done.at hS hlen' h.closed ho hif hp (fun j p d _ hj _ _ _ => hj)
  have hw : Region.wanted o (yielded ops a.tmps) = true := by unfold Region.wanted; rw [hg]
  rw [hw, if_pos rfl]
  left
  exact hpan ρ1 s1.ext hF s1.wr
def panStat (P : Program) (ops : Array Oper) (dm : FuncId → Bool) (ip : Nat) : Bool := match ops[ip]? with
  | some o => isEff o && (!fl P ops ip && (o.guard.isNone && ops.toList.zipIdx.all fun oj => oj.2 == ip || match calleeC oj.1 with
    | some none => true
    | some (some f) => !dm f || ((masks ops.toList []).getD oj.2 0).testBit ip
    | none => false))
  | none => false
theorem any_of_pan {P : Program} (hP : Plainly P) {callT : CallT} (hcallT : CallOk P callT) {dm : FuncId → Option AV} {ops : Array Oper} (hS : StatOk P ops) {es : List (AV × Mem)} {F0 : Fr} {M0 : Mem} {w0 : World} {ρ0 : Rho} (hs : evSeq P (pretend callT dm) ops ops.toList F0 M0 = some es) (hL : LoadsOk P ops es F0 M0) (hO : ∀ x ∈ obSeq P (pretend callT dm) ops ops.toList es F0 M0, x = true) {ip : Nat} (hst : panStat P ops (fun f => (dm f).isSome) ip = true) {Q : Exit → Act → World → Prop}
    (hpan : ∀ o, ops[ip]? = some o → ∀ ρ1 a w K, Ext ρ0 ρ1 → FR ρ1 (rst (frAt ops.toList es F0 ip) (o.looksAt ops)) a → WR w0 ρ1 (memAt es M0 ip) w → o.wp P a w K Q) :
    ∀ (fuel : Nat) (listed : Array Bool) (a : Act) (w : World), unl listed = fuel → listed.getD ip false = false → Inv P ops es F0 M0 w0 ρ0 listed a w → wpAny P .any ops Q fuel listed a w := by
  unfold panStat at hst
  cases hop : ops[ip]? with
  | none => rw [hop] at hst; cases hst
  | some op =>
  rw [hop] at hst
  simp only [Bool.and_eq_true, Bool.not_eq_true', Option.isNone_iff_eq_none, List.all_eq_true, Bool.or_eq_true, beq_iff_eq] at hst
  obtain ⟨hE, hfl, hg, hall⟩ := hst
  have hip : ip < ops.size := (Array.getElem?_eq_some_iff.1 hop).1
  have hm : ∀ p j, ((masks ops.toList []).getD p 0).testBit j = true → Reach ops p j := masks_sound ops.toList [] (fun j => by simp) (fun p j hb => by simp at hb)
  have fin : ∀ (listed : Array Bool) (a : Act) (w : World), listed.getD ip false = false → Inv P ops es F0 M0 w0 ρ0 listed a w → Region.ready .any ops listed = [] → Q .normal a w := fun listed a w hj h hr => by
    have := all_of_ready hS h.size hr ip hip
    rw [hj] at this; cases this
  intro fuel
  induction fuel with
  | zero =>
    intro listed a w hu hj h
    have hr : Region.ready .any ops listed = [] := by
      rcases hx : Region.ready .any ops listed with _ | ⟨x, xs⟩
      · rfl
      · have hm : x ∈ Region.ready .any ops listed := by rw [hx]; simp
        have h1 := (mem_ready.1 hm).1
        rw [unl_zero hu x] at h1
        cases h1
    exact ⟨hr, fin listed a w hj h hr⟩
  | succ fuel ih =>
    intro listed a w hu hj h
    refine ⟨fin listed a w hj h, fun i hi => ?_⟩
    by_cases hip' : i = ip
    · subst hip'
      exact inv_pan (pretend_grow hcallT.grow dm) hS hs h hi hop hE hfl hg fun ρ1 q1 q2 q3 => hpan op hop ρ1 a w _ q1 q2 q3
    · have hsame : ∀ o, ops[i]? = some o → ∀ F M, evOp1 P (pretend callT dm) F M o = evOp1 P callT F M o ∧ obOp1 P (pretend callT dm) F M o = obOp1 P callT F M o := fun o ho F M => by
        have h1 := hall (o, i) (mem_zipIdx ho)
        rcases h1 with h1 | h1
        · exact absurd h1 hip'
        · simp only at h1
          split at h1
          · rename_i hc
            exact pretend_same (.inl hc) F M
          · rename_i f hc
            cases hd : dm f with
            | none => exact pretend_same (.inr ⟨f, hc, hd⟩) F M
            | some v =>
              exfalso
              rw [hd] at h1
              simp only [Option.isSome_some, Bool.not_true, Bool.false_eq_true, false_or, Bool.or_eq_true] at h1
              obtain ⟨_, o1, ho1, hpre⟩ := mem_ready.1 hi
              have hp : ∀ p ∈ preds o1, listed.getD p false = true := fun p hp => by
                obtain ⟨e, he, hb, rfl⟩ := mem_preds.1 hp
                exact hpre e he hb
              have := h.closed.ready ho1 hp (hm i ip h1)
              rw [hj] at this; cases this
          · cases h1
      refine inv_op hP (pretend_grow hcallT.grow dm) hcallT hS hs hL hO h hsame hi fun a' w' h' => ih _ a' w' ?_ ?_ h'
      · have := unl_set (mem_ready.1 hi).1
        omega
      · rw [getD_setB, if_neg (fun hh => hip' hh.1)]
        exact hj
theorem drawPan_core {P : Program} (hP : Plainly P) (hm : P.follows .mixedOrders = true) {callT : CallT} (hcallT : CallOk P callT) {dm : FuncId → Option AV} {w0 : World} {ops : Array Oper} {ρ : Rho} {F : Fr} {M : Mem} {w : World} {a : Act} (hF : FR ρ F a) (hW : WR w0 ρ M w)
    (hst : stat P ops = true) {es : List (AV × Mem)} (hs : evSeq P (pretend callT dm) ops ops.toList F M = some es) (hL : LoadsOk P ops es F M) (hO : ∀ x ∈ obSeq P (pretend callT dm) ops ops.toList es F M, x = true) {ip : Nat} (hps : panStat P ops (fun f => (dm f).isSome) ip = true) {id : Nat} {Q : Exit → Act → World → Prop}
    (hpan : ∀ o, ops[ip]? = some o → ∀ ρ1 a w K, Ext ρ ρ1 → FR ρ1 (rst (frAt ops.toList es F ip) (o.looksAt ops)) a → WR w0 ρ1 (memAt es M ip) w → o.wp P a w K Q) : (Code.region id ops true).wp P Q a w := by
  have hfalse : ∀ j, (Array.replicate ops.size false).getD j false = false := fun j => by
    rw [Array.getD_eq_getD_getElem?, Array.getElem?_replicate]
    split <;> rfl
  refine wp_region_any hm (any_of_pan hP hcallT (stat_spec hst) hs hL hO hps hpan ops.size _ a _ ?_ (hfalse ip) ⟨by simp, ?_, ρ, 0, fun _ => 0, .inl rfl, ?_, ?_, ⟨Ext.refl _, ?_, ⟨hF.len, hF.defers, ?_, ?_⟩, ?_, ?_⟩⟩)
  · unfold unl
    rw [Array.toList_replicate, List.filter_replicate]
    simp
  · intro i o ho hl
    rw [hfalse] at hl; cases hl
  · intro e o ho hh hlt
    omega
  · intro e o ho hh hf hl
    rw [hfalse] at hl; cases hl
  · have : memAt es M 0 = M := by cases es <;> rfl
    rw [this]
    exact hW.drew
  · intro j o t v M2 h1 h2 h3
    rw [hfalse] at h3; cases h3
  · intro t v _ hv
    exact hF.val t v hv
  · intro e o _ he
    have := he.2.2
    rw [hfalse] at this; cases this
  · intro e e' he
    have := he.2.2
    rw [hfalse] at this; cases this
theorem panOf_congr {P : Program} {pan : PanT} {F F' : Fr} {M : Mem} {o : Oper} (h : ∀ x ∈ o.op.operands, evX F x = evX F' x) : panOf P pan F M o = panOf P pan F' M o := by
  unfold panOf
  cases ho : o.op <;> simp only
  rename_i c
  have hc : calleeA F c = calleeA F' c := by
    simp only [ho, Op.operands, Call.operands] at h
    unfold calleeA
    cases hc : c.callee <;> simp only [hc] at h ⊢
    rename_i x
    rw [h x (by simp), mapX_congr (xs := c.args.toList) (fun y hy => h y (by simp at hy; simp [hy]))]
  rw [hc]
def calledFrom (ops : Array Oper) (ip : Nat) : List FuncId := (ops.toList.drop ip).filterMap fun o => match calleeC o with | some (some f) => some f | _ => none
noncomputable def dmOf (ops : Array Oper) (dum : FuncId → Option AV) (ip : Nat) (f : FuncId) : Option AV := match (calledFrom ops ip).any (Nat.beq f) with
  | true => dum f
  | false => none
def panIdx (ops : Array Oper) (has : FuncId → Bool) : List Nat := (ops.toList.zipIdx.filter fun oi => match calleeC oi.1 with | some (some f) => has f | _ => false).map (·.2)
structure PanS where
  pan : PanT
  has : FuncId → Bool
  dum : FuncId → Option AV
noncomputable def drawP {β : Type} (P : Program) (call : CallT) (ps : PanS) (ops : Array Oper) : List Nat → Fr → Mem → D → (Fr → Mem → D → Tr β) → (Int → Int → Mem → D → Tr β) → Tr β
  | [], F, M, d, k, kp => drawK P call ops F M d k
  | ip :: rest, F, M, d, k, kp => match stat P ops && panStat P ops (fun f => (dmOf ops ps.dum ip f).isSome) ip with
    | true => seqK P (pretend call (dmOf ops ps.dum ip)) ops ops.toList F M d fun es d1 => match ops[ip]? with
      | some o => match panOf P ps.pan (frAt ops.toList es F ip) (memAt es M ip) o with
        | some r => owedK r.ob d1 fun d2 => ask d2 r.b fun x d3 => match x with
          | true => match loadsOb P ops es F M with
            | some l => needsK l (kp r.k r.e (memAt es M ip)) d3
            | none => .bad 5
          | false => drawP P call ps ops rest F M d3 k kp
        | none => .bad 24
      | none => .bad 25
    | false => .bad 26
theorem drawP_sound {β : Type} {G : β → Prop} {P : Program} (hP : Plainly P) (hm : P.follows .mixedOrders = true) {call : CallT} (hcall : CallOk P call) {ps : PanS} (hpan : PanOk P ps.pan) {w0 : World} {ops : Array Oper} : ∀ (l : List Nat) {ρ : Rho} {F : Fr} {M : Mem} {w : World} {a : Act} {d : D} {k : Fr → Mem → D → Tr β} {kp : Int → Int → Mem → D → Tr β},
    FR ρ F a → WR w0 ρ M w → (drawP P call ps ops l F M d k kp).Ok G → ∀ {id : Nat} {Q : Exit → Act → World → Prop}, (∀ F' M' d' ρ' a' w', (k F' M' d').Ok G → Ext ρ ρ' → FR ρ' F' a' → WR w0 ρ' M' w' → Q .normal a' w') →
      (∀ kk e M1 d' ρ' M' a' w', (kp kk e M1 d').Ok G → Ext ρ ρ' → a'.defers = Dfs.ds → WR w0 ρ' M' w' → Q (.panic [pent kk e]) a' w') → (Code.region id ops true).wp P Q a w
  | [], ρ, F, M, w, a, d, k, kp, hF, hW, h, id, Q, hQ, hQp => drawK_sound hP hm hcall hF hW h hQ
  | ip :: rest, ρ, F, M, w, a, d, k, kp, hF, hW, h, id, Q, hQ, hQp => by
    simp only [drawP] at h
    split at h
    · rename_i hst
      rw [Bool.and_eq_true] at hst
      obtain ⟨es, d1, h1, h2, h3⟩ := seqK_ok _ _ _ _ _ (fun _ _ _ _ _ _ => trivial) h
      split at h3
      · rename_i o ho
        split at h3
        · rename_i r hr
          obtain ⟨hob, d2, h3⟩ := owedK_ok h3
          obtain ⟨d3, h3⟩ := ask_ok h3
          cases hb : r.b with
          | true =>
            simp only [hb] at h3
            split at h3
            · rename_i l hL
              obtain ⟨q1, d4, q2⟩ := needsK_ok h3
              refine drawPan_core hP hm hcall hF hW hst.1 h1 (.ob hL q1) h2 hst.2 fun o' ho' ρ1 a1 w1 K r1 r2 r3 => ?_
              rw [ho] at ho'
              simp at ho'
              subst ho'
              rw [← panOf_congr (F := rst (frAt ops.toList es F ip) (o.looksAt ops)) (fun x hx => rst_ev x hx)] at hr
              exact panOf_sound hP hpan r2 r3 hr hob hb fun ρ' M' w' s1 s2 => hQp r.k r.e _ d4 ρ' M' a1 w' q2 (r1.trans s1) r2.defers s2
            · exact h3.elim
          | false =>
            simp only [hb] at h3
            exact drawP_sound hP hm hcall hpan rest hF hW h3 hQ hQp
        · exact h3.elim
      · exact h3.elim
    · exact h.elim
abbrev SummP := Fr → Mem → Tr (ExP × Fr × Mem)
def ExP.of : Ex → ExP
  | .norm => .norm
  | .exit id => .exit id
  | .ret => .ret
def ScopeTo (P : Program) (c : Code) (F : Fr) (M : Mem) (G : ExP → Fr → Mem → Prop) : Prop := ∀ w0 ρ a w (Q : Exit → Act → World → Prop), FR ρ F a → WR w0 ρ M w →
  (∀ ex F' M' ρ' a' w', G ex F' M' → Ext ρ ρ' → EndP w0 ρ' ex F' M' a' w' → Q ex.to a' w') → (Code.scope c).wp P Q a w
noncomputable def codeP {β : Type} (P : Program) (call : CallT) (ps : PanS) (inl : Inl β) (lp : Nat → Option Summ) (sc : Option SummP) : Code → Fr → Mem → D → (ExP → Fr → Mem → D → Tr β) → Tr β
  | .skip, F, M, d, k => k .norm F M d
  | .label _, F, M, d, k => k .norm F M d
  | .region _ ops draw, F, M, d, k => match draw with
    | true => drawP P call ps ops (panIdx ops ps.has) F M d (fun F' M' d' => k .norm F' M' d') (fun kk e M' d' => k (.pan kk e) [] M' d')
    | false => opsP P call ps.pan inl ops ops.toList F M d (fun F' M' d' => k .norm F' M' d') (fun kk e M' d' => k (.pan kk e) [] M' d')
  | .seq a b, F, M, d, k => codeP P call ps inl lp sc a F M d fun ex F' M' d' => match ex with
    | .norm => codeP P call ps inl lp sc b F' M' d' k
    | .exit id => k (.exit id) F' M' d'
    | .ret => k .ret F' M' d'
    | .goto l => k (.goto l) F' M' d'
    | .pan kk e => k (.pan kk e) F' M' d'
  | .cond c t e, F, M, d, k => match litX F c with
    | some (.bool b) => ask d b fun r d' => match r with
      | true => codeP P call ps inl lp sc t (refX F c true) M d' k
      | false => codeP P call ps inl lp sc e (refX F c false) M d' k
    | _ => .bad 10
  | .block id body, F, M, d, k => codeP P call ps inl lp sc body F M d fun ex F' M' d' => match ex with
    | .norm => k .norm F' M' d'
    | .exit id' => if id' = id then k .norm F' M' d' else k (.exit id') F' M' d'
    | .ret => k .ret F' M' d'
    | .goto l => k (.goto l) F' M' d'
    | .pan kk e => k (.pan kk e) F' M' d'
  | .loop body, F, M, d, k => match lp (codeId body) with
    | some S => bindT (S F M) d fun r d' => k (ExP.of r.1) r.2.1 r.2.2 d'
    | none => .bad 22
  | .scope body, F, M, d, k => match sc with
    | some S => bindT (S F M) d fun r d' => k r.1 r.2.1 r.2.2 d'
    | none => .bad 23
  | .exit id, F, M, d, k => k (.exit id) F M d
  | .goto l, F, M, d, k => k (.goto l) F M d
  | .ret, F, M, d, k => k .ret F M d
  | _, _, _, _, _ => .bad 11
def ScOk (P : Program) (sc : Option SummP) : Code → Prop
  | .seq a b => ScOk P sc a ∧ ScOk P sc b
  | .cond _ a b => ScOk P sc a ∧ ScOk P sc b
  | .block _ b => ScOk P sc b
  | .scope b => ∀ S, sc = some S → ∀ F M (H : ExP × Fr × Mem → Prop), (S F M).Ok H → ScopeTo P b F M fun ex F' M' => H (ex, F', M')
  | _ => True
theorem codeP_sound {β : Type} {G : β → Prop} {P : Program} (hP : Plainly P) (hm : P.follows .mixedOrders = true) {call : CallT} (hcall : CallOk P call) {ps : PanS} (hpan : PanOk P ps.pan) {inl : Inl β} (hinl : InlOk P inl) {lp : Nat → Option Summ} {sc : Option SummP} {w0 : World} : ∀ (c : Code) (hlp : LoopsOk P lp c) (hsc : ScOk P sc c) {ρ : Rho} {F : Fr} {M : Mem} {w : World} {a : Act} {d : D} {k : ExP → Fr → Mem → D → Tr β}, FR ρ F a → WR w0 ρ M w →
    (codeP P call ps inl lp sc c F M d k).Ok G → ∀ {Q : Exit → Act → World → Prop}, (∀ ex F' M' d' ρ' a' w', (k ex F' M' d').Ok G → Ext ρ ρ' → EndP w0 ρ' ex F' M' a' w' → Q ex.to a' w') → c.wp P Q a w := by
  intro c
  induction c with
  | skip => intro hlp hsc ρ F M w a d k hF hW h Q hQ; exact wp_skip (hQ .norm F M d ρ a w h (Ext.refl _) ⟨hF, hW⟩)
  | label l => intro hlp hsc ρ F M w a d k hF hW h Q hQ; exact wp_label (hQ .norm F M d ρ a w h (Ext.refl _) ⟨hF, hW⟩)
  | exit id => intro hlp hsc ρ F M w a d k hF hW h Q hQ; exact wp_exit (hQ (.exit id) F M d ρ a w h (Ext.refl _) ⟨hF, hW⟩)
  | goto l => intro hlp hsc ρ F M w a d k hF hW h Q hQ; exact wp_goto (hQ (.goto l) F M d ρ a w h (Ext.refl _) ⟨hF, hW⟩)
  | ret => intro hlp hsc ρ F M w a d k hF hW h Q hQ; exact wp_ret (hQ .ret F M d ρ a w h (Ext.refl _) ⟨hF, hW⟩)
  | region id ops draw =>
    intro hlp hsc ρ F M w a d k hF hW h Q hQ
    cases draw with
    | true => exact drawP_sound hP hm hcall hpan _ hF hW h (fun F' M' d' ρ' a' w' q0 q1 q2 q3 => hQ .norm F' M' d' ρ' a' w' q0 q1 ⟨q2, q3⟩) (fun kk e M1 d' ρ' M' a' w' q0 q1 q2 q3 => hQ (.pan kk e) [] M1 d' ρ' a' w' q0 q1 ⟨q2, M', q3⟩)
    | false => exact wp_region_list (opsP_sound hP hcall hpan hinl ops ops.toList hF hW h (fun F' M' d' ρ' a' w' q0 q1 q2 q3 => hQ .norm F' M' d' ρ' a' w' q0 q1 ⟨q2, q3⟩) (fun kk e M1 d' ρ' M' a' w' q0 q1 q2 q3 => hQ (.pan kk e) [] M1 d' ρ' a' w' q0 q1 ⟨q2, M', q3⟩))
  | seq x y ihx ihy =>
    intro hlp hsc ρ F M w a d k hF hW h Q hQ
    refine wp_seq (ihx hlp.1 hsc.1 hF hW h fun ex F' M' d' ρ' a' w' h0 h1 h2 => ?_)
    cases ex with
    | norm => exact ihy hlp.2 hsc.2 h2.1 h2.2 h0 fun ex2 F2 M2 d2 ρ2 a2 w2 q0 q1 q2 => hQ ex2 F2 M2 d2 ρ2 a2 w2 q0 (h1.trans q1) q2
    | exit id => exact hQ (.exit id) F' M' d' ρ' a' w' h0 h1 h2
    | ret => exact hQ .ret F' M' d' ρ' a' w' h0 h1 h2
    | goto l => exact hQ (.goto l) F' M' d' ρ' a' w' h0 h1 h2
    | pan kk e => exact hQ (.pan kk e) F' M' d' ρ' a' w' h0 h1 h2
  | cond c t e iht ihe =>
    intro hlp hsc ρ F M w a d k hF hW h Q hQ
    simp only [codeP] at h
    split at h
    · rename_i b hc
      obtain ⟨d', h⟩ := ask_ok h
      cases b with
      | true => rw [refX_eq hc] at h; exact wp_cond_true (litX_sound hF hc) (iht hlp.1 hsc.1 hF hW h hQ)
      | false => rw [refX_eq hc] at h; exact wp_cond_false (litX_sound hF hc) (ihe hlp.2 hsc.2 hF hW h hQ)
    · exact h.elim
  | block id body ih =>
    intro hlp hsc ρ F M w a d k hF hW h Q hQ
    refine wp_block (ih hlp hsc hF hW h fun ex F' M' d' ρ' a' w' h0 h1 h2 => ?_)
    cases ex with
    | norm => exact hQ .norm F' M' d' ρ' a' w' h0 h1 h2
    | exit id' =>
      simp only at h0
      by_cases hid : id' = id
      · rw [if_pos hid] at h0
        simp only [ExP.to, Exit.inBlock, hid, if_true]
        exact hQ .norm F' M' d' ρ' a' w' h0 h1 h2
      · rw [if_neg hid] at h0
        simp only [ExP.to, Exit.inBlock, hid, if_false]
        exact hQ (.exit id') F' M' d' ρ' a' w' h0 h1 h2
    | ret => exact hQ .ret F' M' d' ρ' a' w' h0 h1 h2
    | goto l => exact hQ (.goto l) F' M' d' ρ' a' w' h0 h1 h2
    | pan kk e => exact hQ (.pan kk e) F' M' d' ρ' a' w' h0 h1 h2
  | loop body ih =>
    intro hlp hsc ρ F M w a d k hF hW h Q hQ
    simp only [codeP] at h
    simp only [LoopsOk] at hlp
    cases hl : lp (codeId body) with
    | some S =>
      simp only [hl] at h hlp
      obtain ⟨m, hm'⟩ := hlp F M _ (bindT_ok h)
      refine wp_loop_rounds m (hm' w0 ρ a w Q hF hW fun ex F' M' ρ' a' w' hg q1 q2 q3 => ?_)
      obtain ⟨d', hg⟩ := hg
      cases ex with
      | norm => exact hQ .norm F' M' d' ρ' a' w' hg q1 ⟨q2, q3⟩
      | exit id => exact hQ (.exit id) F' M' d' ρ' a' w' hg q1 ⟨q2, q3⟩
      | ret => exact hQ .ret F' M' d' ρ' a' w' hg q1 ⟨q2, q3⟩
    | none => simp only [hl] at h; exact h.elim
  | scope body ih =>
    intro hlp hsc ρ F M w a d k hF hW h Q hQ
    simp only [codeP] at h
    cases hs : sc with
    | some S =>
      simp only [hs] at h
      exact hsc S hs F M _ (bindT_ok h) w0 ρ a w Q hF hW fun ex F' M' ρ' a' w' hg q1 q2 => by
        obtain ⟨d', hg⟩ := hg
        exact hQ ex F' M' d' ρ' a' w' hg q1 q2
    | none => simp only [hs] at h; exact h.elim
  | _ => intro hlp hsc ρ F M w a d k hF hW h; exact h.elim
def Exit.jmp (J : Nat → Act → World → Prop) (Q : Exit → Act → World → Prop) : Exit → Act → World → Prop
  | .goto l, a, w => J l a w
  | e, a, w => Q e a w
def wpJ (P : Program) (c : Code) (Q : Exit → Act → World → Prop) : Nat → Code → Act → World → Prop
  | 0, _, _, _ => False
  | n + 1, x, a, w => x.wp P (Exit.jmp (fun l a' w' => ∃ rest, findLabel c l = some rest ∧ wpJ P c Q n rest a' w') Q) a w
theorem scope_of_jumps {P : Program} {c : Code} {Q : Exit → Act → World → Prop} {n : Nat} {a : Act} {w : World} (h : wpJ P c Q n c a w) : (Code.scope c).wp P Q a w := by
  intro b k cs
  have key : ∀ n x a w, wpJ P c Q n x a w → ∃ e a' w', Q e a' w' ∧ Arrives P (lone (b.at a (.code x :: .inScope c :: k)) cs w) b k cs e a' w' := by
    intro n
    induction n with
    | zero => intro x a w h; exact h.elim
    | succ n ih =>
      intro x a w h
      obtain ⟨e, a₁, w₁, hq, harr⟩ := h b (.inScope c :: k) cs
      cases e with
      | normal => exact ⟨.normal, a₁, w₁, hq, Steps.trans harr (.one step_inScope)⟩
      | exit id => exact ⟨.exit id, a₁, w₁, hq, fun k' hk => harr k' (by simp [exitTo, hk])⟩
      | goto l =>
        obtain ⟨rest, hf, hJ⟩ := hq
        obtain ⟨e₂, a₂, w₂, hq₂, harr₂⟩ := ih rest a₁ w₁ hJ
        have hg : gotoIn l (.inScope c :: k) = some (.code rest :: .inScope c :: k) := by simp [gotoIn, hf]
        exact ⟨e₂, a₂, w₂, hq₂, .of_steps (harr _ hg) harr₂⟩
      | ret => exact ⟨_, a₁, w₁, hq, harr⟩
      | panic ch => exact ⟨_, a₁, w₁, hq, harr⟩
      | outgrown => exact ⟨_, a₁, w₁, hq, harr⟩
  obtain ⟨e, a', w', hq, harr⟩ := key n c a w h
  exact ⟨e, a', w', hq, .of_steps (.one step_scope) harr⟩
end Go.Proofs.Ytglkdhmikpejnaa.Sy
namespace Go.Proofs.Ytglkdhmikpejnaa.Sy
open Go Go.RowKit
def scopesOf : Code → List Code
  | .seq a b => scopesOf a ++ scopesOf b
  | .cond _ a b => scopesOf a ++ scopesOf b
  | .block _ b => scopesOf b
  | .scope b => [b]
  | _ => []
theorem scOk_of {P : Program} {sc : Option SummP} : ∀ (c : Code), (∀ b ∈ scopesOf c, ∀ S, sc = some S → ∀ F M (H : ExP × Fr × Mem → Prop), (S F M).Ok H → ScopeTo P b F M fun ex F' M' => H (ex, F', M')) → ScOk P sc c
  | .seq a b, h => ⟨scOk_of a fun x hx => h x (by simp [scopesOf, hx]), scOk_of b fun x hx => h x (by simp [scopesOf, hx])⟩
  | .cond _ a b, h => ⟨scOk_of a fun x hx => h x (by simp [scopesOf, hx]), scOk_of b fun x hx => h x (by simp [scopesOf, hx])⟩
  | .block _ b, h => scOk_of b fun x hx => h x (by simp [scopesOf, hx])
  | .scope b, h => h b (by simp [scopesOf])
  | .loop b, h => trivial
  | .skip, _ | .label _, _ | .region .., _ | .exit _, _ | .ret, _ | .goto _, _ | .refuse _, _ | .rangeFunc .., _ => trivial
theorem scOk_none {P : Program} (c : Code) : ScOk P none c := scOk_of c fun _ _ S h => by cases h
def scopesIn (P : Program) (f : FuncId) : List Code := match P.funcs[f]? with
  | some fn => match fn.body with
    | some c => scopesOf c
    | none => []
  | none => []
def theScope (P : Program) (f : FuncId) : Code := (scopesIn P f).headD .skip
structure Sc (P : Program) (f : FuncId) where
  S : SummP
  one : Nat.beq (scopesIn P f).length 1 = true
  ok : ∀ F M (H : ExP × Fr × Mem → Prop), (S F M).Ok H → ScopeTo P (theScope P f) F M fun ex F' M' => H (ex, F', M')
theorem Sc.scOk {P : Program} {f : FuncId} (s : Sc P f) {fn : Func} {c : Code} (hf : P.funcs[f]? = some fn) (hb : fn.body = some c) : ScOk P (some s.S) c := scOk_of c fun b hbm S hS => by
  simp at hS
  subst hS
  have hmem : b ∈ scopesIn P f := by
    unfold scopesIn
    rw [hf]
    simp only [hb]
    exact hbm
  have h1 := s.one
  have h2 := s.ok
  unfold theScope at h2
  match hl : scopesIn P f, hmem, h1, h2 with
  | [x], hmem, _, h2 =>
    simp at hmem
    subst hmem
    exact h2
  | [], hmem, _, _ => cases hmem
  | _ :: _ :: _, _, h1, _ => cases h1
inductive RP where
  | ret (v : AV) (M : Mem)
  | pan (k e : Int)
def CallP (P : Program) (f : FuncId) (args : List AV) (M : Mem) (G : RP → Prop) : Prop := ∀ w0 ρ us w, rels ρ args us → WR w0 ρ M w →
  Calls P f us.toArray w fun x w' => (∃ ρ' u v M', x = .returned u ∧ Ext ρ ρ' ∧ rel ρ' v u ∧ WR w0 ρ' M' w' ∧ G (.ret v M')) ∨ ∃ k e ρ' M', x = .panicked [pent k e] ∧ Ext ρ ρ' ∧ WR w0 ρ' M' w' ∧ G (.pan k e)
theorem CallP.to {P : Program} {f : FuncId} {args : List AV} {M : Mem} {G : RP → Prop} (h : CallP P f args M G) (hn : ∀ k e, ¬ G (.pan k e)) : CallTo P f args M fun v M' => G (.ret v M') := fun w0 ρ us w hr hW => by
  refine (h w0 ρ us w hr hW).mono ?_
  rintro x w' (h1 | ⟨k, e, _, _, _, _, _, hg⟩)
  · exact h1
  · exact absurd hg (hn k e)
theorem CallP.pan {P : Program} {f : FuncId} {args : List AV} {M : Mem} {G : RP → Prop} {k e : Int} (h : CallP P f args M G) (hn : ∀ v M', ¬ G (.ret v M')) (he : ∀ k' e', G (.pan k' e') → k' = k ∧ e' = e) : PanTo P f args M k e := fun w0 ρ us w hr hW => by
  refine (h w0 ρ us w hr hW).mono ?_
  rintro x w' (⟨_, _, v, M', _, _, _, _, hg⟩ | ⟨k', e', ρ', M', rfl, q1, q2, hg⟩)
  · exact absurd hg (hn v M')
  · obtain ⟨rfl, rfl⟩ := he k' e' hg
    exact ⟨ρ', M', rfl, q1, q2⟩
noncomputable def funP {β : Type} (P : Program) (call : CallT) (ps : PanS) (lp : FuncId → Nat → Option Summ) (sc : Option SummP) (n m : Nat) (f : FuncId) (args : List AV) (M : Mem) (d : D) (k : RP → D → Tr β) : Tr β := match P.funcs[f]? with
  | some fn => match fn.body with
    | some c => codeP P call ps (callK P call lp n m) (lp f) sc c (frame args fn.ntmps) M d fun ex F' M' d' => match ex with
      | .norm => endK (resultsA P F' M' fn) fun v => k (.ret v M') d'
      | .ret => endK (resultsA P F' M' fn) fun v => k (.ret v M') d'
      | .pan kk e => k (.pan kk e) d'
      | .exit _ => .bad 14
      | .goto _ => .bad 27
    | none => .bad 15
  | none => .bad 16
theorem funP_sound {P : Program} (hP : Plainly P) (hm : P.follows .mixedOrders = true) {call : CallT} (hcall : CallOk P call) {ps : PanS} (hpan : PanOk P ps.pan) {lp : FuncId → Nat → Option Summ} (hlp : AllLoops P lp) {sc : Option SummP} {f : FuncId} (hsc : ∀ fn c, P.funcs[f]? = some fn → fn.body = some c → ScOk P sc c) (n m : Nat) {args : List AV} {M : Mem} {d : D} {G : RP → Prop}
    (h : (funP P call ps lp sc n m f args M d fun r _ => .leaf r).Ok G) : CallP P f args M G := fun w0 ρ us w hr hW => by
  unfold funP at h
  cases hf : P.funcs[f]? with
  | none => simp only [hf] at h; exact h.elim
  | some fn =>
    cases hb : fn.body with
    | none => simp only [hf, hb] at h; exact h.elim
    | some c =>
      simp only [hf, hb] at h
      refine calls_of_wp hf hb (codeP_sound hP hm hcall hpan (callK_ok hP hm hcall hlp n m) c (hlp f fn c hf hb) (hsc fn c hf hb) (frame_start hr fn.ntmps) hW h fun ex F' M' d' ρ' a' w' h0 h1 h2 => ?_)
      have fin : (endK (resultsA P F' M' fn) fun v => (.leaf (.ret v M') : Tr RP)).Ok G → FR ρ' F' a' → WR w0 ρ' M' w' → ∃ v u, rel ρ' v u ∧ (results fn a'.tmps).run P w' = .ok u w' ∧ G (.ret v M') := fun h0 h2 h3 => by
        cases hres : resultsA P F' M' fn with
        | none => rw [hres] at h0; exact h0.elim
        | some v =>
          rw [hres] at h0
          obtain ⟨u, q1, q2⟩ := resultsA_sound h2 h3 hres
          exact ⟨v, u, q1, q2, h0⟩
      cases ex with
      | norm =>
        obtain ⟨v, u, q1, q2, q3⟩ := fin h0 h2.1 h2.2
        exact bodyPost_end q2 h2.1.defers (.inl ⟨ρ', u, v, M', rfl, h1, q1, h2.2, q3⟩)
      | ret =>
        obtain ⟨v, u, q1, q2, q3⟩ := fin h0 h2.1 h2.2
        exact bodyPost_ret q2 h2.1.defers (.inl ⟨ρ', u, v, M', rfl, h1, q1, h2.2, q3⟩)
      | exit id => exact h0.elim
      | goto l => exact h0.elim
      | pan kk e =>
        obtain ⟨q1, M2, q2⟩ := h2
        exact ⟨q1, .inr ⟨kk, e, ρ', M2, rfl, h1, q2, h0⟩⟩
def JumpT (T : Nat) (P : Program) (c : Code) (n : Nat) (x : Code) (F : Fr) (M : Mem) (G : ExP → Fr → Mem → Prop) : Prop := ∀ w0 ρ a w (Q : Exit → Act → World → Prop), FR ρ F a → WR w0 ρ M w →
  (∀ ex F' M' ρ' a' w', G ex F' M' → Ext (cutR T ρ) ρ' → EndP w0 ρ' ex F' M' a' w' → Q ex.to a' w') → wpJ P c Q n x a w
theorem JumpT.mono {T : Nat} {P : Program} {c : Code} {n : Nat} {x : Code} {F : Fr} {M : Mem} {G H : ExP → Fr → Mem → Prop} (h : JumpT T P c n x F M G) (hG : ∀ ex F M, G ex F M → H ex F M) : JumpT T P c n x F M H := fun w0 ρ a w Q hF hW hQ => h w0 ρ a w Q hF hW fun ex F' M' ρ' a' w' hg => hQ ex F' M' ρ' a' w' (hG ex F' M' hg)
theorem JumpT.stamp {T : Nat} {P : Program} {c : Code} {n : Nat} {x : Code} {F : Fr} {T0 s : Nat} {bs : List (Option Blk)} {G : ExP → Fr → Mem → Prop} (s' : Nat) (h : JumpT T P c n x F ⟨T0, s', bs⟩ G) : JumpT T P c n x F ⟨T0, s, bs⟩ G := fun w0 ρ a w Q hF hW hQ => h w0 ρ a w Q hF (hW.restamp s') hQ
theorem JumpT.to {T : Nat} {P : Program} {c : Code} {n : Nat} {F : Fr} {M : Mem} {G : ExP → Fr → Mem → Prop} (h : JumpT T P c n c F M G) (hT : M.top ≤ T) : ScopeTo P c F M G := fun w0 ρ a w Q hF hW hQ => scope_of_jumps (n := n) (h w0 ρ a w Q hF hW fun ex F' M' ρ' a' w' hg h1 h2 => hQ ex F' M' ρ' a' w' hg ⟨fun b g hb => h1.blk b g (by
    have := hW.dom b g hb
    simp only [Sy.cutR, if_pos (show b < T by omega)]; exact hb), fun b hb => h1.nil b (by
    have := (hW.nild b hb).1
    simp only [Sy.cutR, if_pos (show b < T by omega)]; exact hb), h1.still, h1.base, h1.mine⟩ h2)
theorem JumpT.ren {T : Nat} {P : Program} {c : Code} {n : Nat} {x : Code} {F F2 : Fr} {M M2 : Mem} {G : ExP → Fr → Mem → Prop} (l : List Nat) (h0 : l.take T = List.range T) (hF2 : RenF (nm l) F F2) (hM : RenM (nm l) M M2) (h : JumpT T P c n x F2 M2 G) : JumpT T P c n x F M G := fun w0 ρ a w Q hF hW hQ => by
  have id := nm_id h0
  refine h w0 _ a w Q (hF2.fr hF) (hW.ren hM) fun ex F' M' ρ' a' w' hg q1 q2 => hQ ex F' M' ρ' a' w' hg ⟨fun b g hb => q1.blk b g ?_, fun b hb => q1.nil b ?_, q1.still, q1.base, q1.mine⟩ q2
  · simp only [Sy.cutR] at hb ⊢
    split at hb
    · rename_i hlt; rw [if_pos hlt]; show (pull (nm l) ρ) b = _; rw [pull_blk (id b hlt)]; exact hb
    · cases hb
  · simp only [Sy.cutR] at hb ⊢
    split at hb
    · rename_i hlt; rw [if_pos hlt]; show (pull (nm l) ρ).nil b = _; rw [pull_nil (id b hlt)]; exact hb
    · cases hb
def EndJ (T : Nat) (P : Program) (c : Code) (n : Nat) (G : ExP → Fr → Mem → Prop) (ex : ExP) (F : Fr) (M : Mem) : Prop := match ex with
  | .goto l => ∃ rest, findLabel c l = some rest ∧ JumpT T P c n rest F M G
  | .norm => G .norm F M
  | .exit id => G (.exit id) F M
  | .ret => G .ret F M
  | .pan k e => G (.pan k e) F M
noncomputable def maskP (p : List Bool) (ex : ExP) (F : Fr) : Fr := match ex with
  | .pan _ _ => []
  | _ => maskF p F
theorem seg {P : Program} (hP : Plainly P) (hm : P.follows .mixedOrders = true) (T : Nat) {call : CallT} (hcall : CallOk P call) {ps : PanS} (hpan : PanOk P ps.pan) {inl : Inl (ExP × Fr × Mem)} (hinl : InlOk P inl) (c x : Code) (hl : (loopsOf x).isEmpty = true) (p : List Bool) {n : Nat} {F : Fr} {M : Mem} (d : D) (t : Tr (ExP × Fr × Mem)) {G : ExP → Fr → Mem → Prop}
    (h : codeP P call ps inl (fun _ => none) none x F M d (fun ex F' M' _ => .leaf (ex, maskP p ex F', M')) = t)
    (ht : t.Ok fun r => EndJ T P c n G r.1 r.2.1 r.2.2) : JumpT T P c (n + 1) x F M G := fun w0 ρ a w Q hF hW hQ => by
  subst h
  have hlp : LoopsOk P (fun _ => none) x := loopsOk_of x fun b hb => by
    have : loopsOf x = [] := by simpa using hl
    rw [this] at hb
    cases hb
  refine codeP_sound hP hm hcall hpan hinl x hlp (scOk_none x) hF hW ht fun ex F' M' d' ρ' a' w' h0 h1 h2 => ?_
  cases ex with
  | norm => exact hQ .norm _ _ _ a' w' h0 (h1.cutR T) ⟨h2.1.mask p, h2.2⟩
  | exit id => exact hQ (.exit id) _ _ _ a' w' h0 (h1.cutR T) ⟨h2.1.mask p, h2.2⟩
  | ret => exact hQ .ret _ _ _ a' w' h0 (h1.cutR T) ⟨h2.1.mask p, h2.2⟩
  | pan k e => exact hQ (.pan k e) _ _ _ a' w' h0 (h1.cutR T) h2
  | goto l =>
    obtain ⟨rest, hf, hJ⟩ := h0
    refine ⟨rest, hf, hJ w0 _ a' w' Q (h2.1.mask p) h2.2 fun ex2 F2 M2 ρ2 a2 w2 g r1 r2 => hQ ex2 F2 M2 ρ2 a2 w2 g ⟨fun b g hb => r1.blk b g (by
      simp only [Sy.cutR] at hb ⊢
      split at hb
      · rename_i hlt; rw [if_pos hlt]; exact h1.blk b g hb
      · cases hb), fun b hb => r1.nil b (by
      simp only [Sy.cutR] at hb ⊢
      split at hb
      · rename_i hlt; rw [if_pos hlt]; exact h1.nil b hb
      · cases hb), fun g o v hv => r1.still g o v (h1.still g o v hv), r1.base.trans h1.base, r1.mine.trans h1.mine⟩ r2⟩
structure PCon (P : Program) where
  f : FuncId
  pan : List AV → Mem → Option PanR
  dum : AV
  ok : ∀ args M r, pan args M = some r → owed r.ob → r.b = true → PanTo P f args M r.k r.e
noncomputable def pansOf {P : Program} (l : List (PCon P)) : PanT := fun f args M => List.rec (motive := fun _ => Option PanR) none (fun c _ ih => Bool.rec (motive := fun _ => Option PanR) ih (c.pan args M) (Nat.beq c.f f)) l
theorem pansOf_ok {P : Program} : ∀ l : List (PCon P), PanOk P (pansOf l)
  | [] => fun f args M r h => by cases h
  | c :: l => fun f args M r h hob hb => by
    have e : pansOf (c :: l) f args M = Bool.rec (motive := fun _ => Option PanR) (pansOf l f args M) (c.pan args M) (Nat.beq c.f f) := rfl
    rw [e] at h
    cases hc : Nat.beq c.f f with
    | true =>
      have e : c.f = f := Nat.eq_of_beq_eq_true hc
      subst e
      rw [hc] at h
      exact c.ok args M r h hob hb
    | false =>
      rw [hc] at h
      exact pansOf_ok l f args M r h hob hb
def dumOf {P : Program} (l : List (PCon P)) (more : List (FuncId × AV)) (f : FuncId) : Option AV := match l.find? (fun c => Nat.beq c.f f) with
  | some c => some c.dum
  | none => (more.find? (fun x => Nat.beq x.1 f)).map (·.2)
noncomputable def psOf {P : Program} (l : List (PCon P)) (more : List (FuncId × AV)) : PanS := ⟨pansOf l, fun f => l.any (fun c => Nat.beq c.f f), dumOf l more⟩
theorem PanTo.frameG {P : Program} {f : FuncId} {args argc : List AV} {M Mc M' : Mem} {k e : Int} {σ : Nat → Option Nat} (h : PanTo P f argc Mc k e) (hA : RenVs σ args argc) (hM : RenM σ M Mc) (hl : Live σ Mc) (ht : M.top ≤ M'.top)
    (hb : ∀ b B, M'.get b = some B → b < M.top ∧ (∀ c, σ c ≠ some b) ∧ M.get b = some B) : ∀ w0 ρ us w, rels ρ args us → WR w0 ρ M w →
  Calls P f us.toArray w fun x w' => ∃ ρ', x = .panicked [pent k e] ∧ Ext ρ ρ' ∧ WR w0 ρ' M' w' := fun w0 ρ us w hr hW => by
  refine (h w (sub σ ρ) us w ((hA.rels hr).pull_sub) (hW.enter hM)).mono ?_
  rintro x w2 ⟨ρ2, M2, rfl, hE, hW2⟩
  obtain ⟨r1, r2, r3⟩ := hW.leave (τ := fun _ => none) (M' := M') hM hl hW2 (hE.cutR Mc.top) ⟨ht, fun _ _ hx => (by cases hx), fun _ _ _ hx => (by cases hx), fun _ _ _ hx => (by cases hx), fun b B hx => .inl (hb b B hx)⟩
  exact ⟨_, rfl, r1, r2⟩
theorem PanTo.any {P : Program} {f : FuncId} {args argc : List AV} {M Mc : Mem} {k e : Int} {σ : Nat → Option Nat} (h : PanTo P f argc Mc k e) (hA : RenVs σ args argc) (hM : RenM σ M Mc) (hl : Live σ Mc) : PanTo P f args M k e := fun w0 ρ us w hr hW =>
  (PanTo.frameG (M' := ⟨M.top, 0, []⟩) h hA hM hl (Nat.le_refl _) (fun b B hx => by simp [Mem.get_def] at hx) w0 ρ us w hr hW).mono fun x w' ⟨ρ', h1, h2, h3⟩ => ⟨ρ', _, h1, h2, h3⟩
theorem toP (l : List (Con Try.prog)) (pl : List (PCon Try.prog)) (more : List (FuncId × AV)) (lp : List (Lp Try.prog)) (n m : Nat) {f : FuncId} {args : List AV} {M : Mem} (d : D) (t : Tr RP) {G : RP → Prop}
    (h : funP Try.prog (table l) (psOf pl more) (lpOf lp) none n m f args M d (fun r _ => .leaf r) = t) (ht : t.Ok G) : CallP Try.prog f args M G :=
  funP_sound plain mixed (table_ok l) (pansOf_ok pl) (lps_ok lp) (fun fn c _ _ => scOk_none c) n m (h ▸ ht)
theorem toS (l : List (Con Try.prog)) (pl : List (PCon Try.prog)) (more : List (FuncId × AV)) (lp : List (Lp Try.prog)) {f : FuncId} (s : Sc Try.prog f) (n m : Nat) {args : List AV} {M : Mem} (d : D) (t : Tr RP) {G : RP → Prop}
    (h : funP Try.prog (table l) (psOf pl more) (lpOf lp) (some s.S) n m f args M d (fun r _ => .leaf r) = t) (ht : t.Ok G) : CallP Try.prog f args M G :=
  funP_sound plain mixed (table_ok l) (pansOf_ok pl) (lps_ok lp) (fun fn c hf hb => s.scOk hf hb) n m (h ▸ ht)
def pieceAt (c : Code) (l : Nat) : Code := match l with
  | 0 => c
  | l + 1 => (findLabel c l).getD .skip
theorem segJ (T : Nat) (l : List (Con Try.prog)) (pl : List (PCon Try.prog)) (more : List (FuncId × AV)) (k m : Nat) (f : FuncId) (lab : Nat) (hl : (loopsOf (pieceAt (theScope Try.prog f) lab)).isEmpty = true) (p : List Bool) {n : Nat} {F : Fr} {M : Mem} (d : D) (t : Tr (ExP × Fr × Mem)) {G : ExP → Fr → Mem → Prop}
    (h : codeP Try.prog (table l) (psOf pl more) (callK Try.prog (table l) (lpOf ([] : List (Lp Try.prog))) k m) (fun _ => none) none (pieceAt (theScope Try.prog f) lab) F M d (fun ex F' M' _ => .leaf (ex, maskP p ex F', M')) = t)
    (ht : t.Ok fun r => EndJ T Try.prog (theScope Try.prog f) n G r.1 r.2.1 r.2.2) : JumpT T Try.prog (theScope Try.prog f) (n + 1) (pieceAt (theScope Try.prog f) lab) F M G :=
  seg plain mixed T (table_ok l) (pansOf_ok pl) (callK_ok plain mixed (table_ok l) (lps_ok ([] : List (Lp Try.prog))) k m) _ _ hl p d t h ht
end Go.Proofs.Ytglkdhmikpejnaa.Sy
namespace Go.Proofs.Ytglkdhmikpejnaa
open Go Go.RowKit Sy
theorem fail_w (k e : Int) (w : World) : Calls Try.prog 35 #[.int .i64 k, .int .i64 e] w fun x w' => x = .panicked [pent k e] ∧ w' = w := by
  go_enter Try.func35, Try.ntmps35
  go_wp2
  exact ⟨rfl, rfl, rfl⟩
namespace Sy
theorem fail_p (k e : Int) (M : Mem) : PanTo Try.prog 35 [int k, int e] M k e := fun w0 ρ us w hr hW => by
  simp only [rels, rel] at hr
  obtain ⟨u, us1, rfl, rfl, u2, us2, rfl, rfl, rfl⟩ := hr
  refine (fail_w k e w).mono ?_
  rintro x w' ⟨rfl, rfl⟩
  exact ⟨ρ, M, rfl, Ext.refl ρ, hW⟩
noncomputable abbrev pFail : PCon Try.prog where
  f := 35
  dum := .tup []
  pan := fun args M => match args with
    | [.lit (.int .i64 k), .lit (.int .i64 e)] => some ⟨none, true, k, e⟩
    | _ => none
  ok := fun args M r h hob hb => by
    split at h
    · simp at h
      subst h
      exact fail_p _ _ M
    · cases h
abbrev mrB (s : ByteArray) (a : Int) (z : AV) : Blk := ⟨[.lit (.string s), int a, z], 52, none⟩
abbrev mrM (s : ByteArray) (a : Int) (u : Value) : Mem := ⟨1, 0, [some (mrB s a (.lit u))]⟩
theorem WR.swap1 {w0 : World} {ρ : Rho} {M : Mem} {w : World} (h : WR w0 ρ M w) {b g tot : Nat} {B C : Blk} (hb : M.get b = some B) (hg : ρ b = some (g, tot)) (hC : C.elem = B.elem) (hH : ∀ cur, w.heap[g]? = some (.cells cur B.elem (0, 0)) → Holds ρ B cur → Holds ρ C cur) : WR w0 ρ (M.put b (some C)) w := by
  have hlt := Mem.get_lt hb
  have key : ∀ (x : Nat) (D : Blk), (M.put b (some C)).get x = some D → (x = b ∧ D = C) ∨ (x ≠ b ∧ M.get x = some D) := fun x D hx => by
    rcases Mem.get_put hlt hx with ⟨q1, q2⟩ | ⟨q1, q2⟩
    · simp at q2
      exact .inl ⟨q1, q2.symm⟩
    · exact .inr ⟨q1, q2⟩
  have old : ∀ (x : Nat) (D : Blk), (M.put b (some C)).get x = some D → ∃ D', M.get x = some D' := fun x D hx => by
    rcases key x D hx with ⟨rfl, _⟩ | ⟨_, q⟩
    · exact ⟨_, hb⟩
    · exact ⟨_, q⟩
  refine ⟨h.keep, fun x y hx => h.dom x y hx, fun x hx => h.nild x hx, fun x D g' t' hx hg' => ?_, fun x D hx => ?_, fun x x' D D' g1 t1 t2 h1 h2 h3 h4 => ?_, h.still, h.first, fun x D g' t' hx hg' => ?_⟩
  · rcases key x D hx with ⟨rfl, rfl⟩ | ⟨_, q⟩
    · rw [hg] at hg'
      simp at hg'
      obtain ⟨rfl, rfl⟩ := hg'
      obtain ⟨q1, cur, q2, q3, q4⟩ := h.holds hb hg
      exact ⟨q1, cur, by rw [hC]; exact q2, q3, hH cur q2 q4⟩
    · exact h.blk x D g' t' q hg'
  · rcases key x D hx with ⟨rfl, rfl⟩ | ⟨_, q⟩
    · exact .inl ⟨g, tot, hg⟩
    · exact h.has x D q
  · obtain ⟨_, q1⟩ := old x D h1
    obtain ⟨_, q2⟩ := old x' D' h2
    exact h.inj x x' _ _ g1 t1 t2 q1 q2 h3 h4
  · obtain ⟨_, q1⟩ := old x D hx
    exact h.apart x _ g' t' q1 hg'
theorem get_bs {M : Mem} {b : Nat} {B : Blk} (h : M.get b = some B) : M.top - 1 - b < M.bs.length := by
  rw [Mem.get_def] at h
  split at h
  · cases hx : M.bs[M.top - 1 - b]? with
    | none => rw [hx] at h; cases h
    | some y => exact (List.getElem?_eq_some_iff.1 hx).1
  · cases h
theorem put_get {M : Mem} {b : Nat} {B C : Blk} (h : M.get b = some B) : (M.put b (some C)).get b = some C := by
  have h1 := Mem.get_lt h
  have h2 := get_bs h
  rw [Mem.put_def, Mem.get_def]
  simp only [h1, if_true]
  rw [List.getElem?_set_self h2]
theorem meth_start {w0 : World} {ρ : Rho} {M : Mem} {w : World} (hW : WR w0 ρ M w) {rb : Nat} {s : ByteArray} {a : Int} {z : AV} (hb : M.get rb = some (mrB s a z)) : ∃ u g tot, rel ρ z u ∧ ρ rb = some (g, tot) ∧ WR w0 ρ (M.put rb (some (mrB s a (.lit u)))) w := by
  obtain ⟨g, tot, hg⟩ : ∃ g t, ρ rb = some (g, t) := by
    rcases hW.has rb _ hb with h1 | ⟨_, _, R, h2, _⟩
    · exact h1
    · cases h2
  obtain ⟨_, cur, hcur, hsz, hH⟩ := hW.holds hb hg
  obtain ⟨u, hu1, hu2⟩ := hH.1 2 z rfl
  refine ⟨u, g, tot, hu2, hg, hW.swap1 hb hg rfl fun cur' h1 h2 => ?_⟩
  rw [hcur] at h1
  simp at h1
  subst h1
  refine Holds.plain fun i v hv => ?_
  rcases i with _ | _ | _ | i
  · exact h2.1 0 v hv
  · exact h2.1 1 v hv
  · simp at hv
    subst hv
    exact ⟨u, hu1, by simp only [rel]⟩
  · simp at hv
theorem CallTo.meth {f : FuncId} {args0 : List AV} {v0 : AV} {s : ByteArray} {a a2 : Int} {z : AV} {M : Mem} {rb : Nat} (h : ∀ u, CallTo Try.prog f (.ptr 0 0 :: args0) (mrM s a u) fun v M' => Frz true 1 M' v v0 ∧ M'.get 0 = some (mrB s a2 (.lit u))) (hf : Frees args0) (hv : Free v0) (hb : M.get rb = some (mrB s a z)) :
    CallTo Try.prog f (.ptr rb 0 :: args0) M fun v M' => v = v0 ∧ M' = M.put rb (some (mrB s a2 z)) := fun w0 ρ us w hr hW => by
  obtain ⟨u, g, tot, hu, hg, hW1⟩ := meth_start hW hb
  have key := CallTo.frame1 (M := M.put rb (some (mrB s a (.lit u)))) (B0 := mrB s a (.lit u)) (B := mrB s a (.lit u)) (b := rb) (args := .ptr rb 0 :: args0) (args1 := .ptr 0 0 :: args0) ((h u).mono fun v M' ⟨q1, q2⟩ => ⟨q1, _, q2, rfl, Frz.lit _ _ _ _, Frz.lit _ _ _ _, Frz.lit _ _ _ _, trivial⟩)
    ⟨⟨rfl, rfl⟩, RenVs.free _ hf⟩ (put_get hb) ⟨rfl, ⟨rfl, rfl, rfl, trivial⟩, trivial⟩ rfl rfl rfl ⟨trivial, trivial, trivial, trivial⟩ hv
  refine (key w0 ρ us w hr hW1).mono ?_
  rintro x w' ⟨ρ', u', v, M', rfl, q1, q2, q3, rfl, rfl⟩
  refine ⟨ρ', u', v, M.put rb (some (mrB s a2 z)), rfl, q1, q2, ?_, rfl, rfl⟩
  have hb2 : ((M.put rb (some (mrB s a (.lit u)))).put rb (some (mrB s a2 (.lit u)))).get rb = some (mrB s a2 (.lit u)) := put_get (put_get hb)
  have h3 := q3.swap1 (C := mrB s a2 z) hb2 (q1.blk rb _ hg) rfl fun cur' h1 h2 => by
    refine Holds.plain fun i v hv => ?_
    rcases i with _ | _ | _ | i
    · exact h2.1 0 v hv
    · exact h2.1 1 v hv
    · simp at hv
      subst hv
      obtain ⟨u2, r1, r2⟩ := h2.1 2 (.lit u) rfl
      simp only [rel] at r2
      subst r2
      exact ⟨_, r1, hu.ext q1⟩
    · simp at hv
  have e : ((M.put rb (some (mrB s a (.lit u)))).put rb (some (mrB s a2 (.lit u)))).put rb (some (mrB s a2 z)) = ⟨M.top, M.stamp + 1 + 1 + 1, (M.put rb (some (mrB s a2 z))).bs⟩ := by
    simp only [Mem.put_def, List.set_set]
  rw [e] at h3
  exact h3.restamp (M.stamp + 1)
theorem PanTo.meth {f : FuncId} {args0 : List AV} {s : ByteArray} {a k e : Int} {z : AV} {M : Mem} {rb : Nat} (h : ∀ u, PanTo Try.prog f (.ptr 0 0 :: args0) (mrM s a u) k e) (hf : Frees args0) (hb : M.get rb = some (mrB s a z)) :
    PanTo Try.prog f (.ptr rb 0 :: args0) M k e := fun w0 ρ us w hr hW => by
  obtain ⟨u, g, tot, hu, hg, hW1⟩ := meth_start hW hb
  exact PanTo.any (M := M.put rb (some (mrB s a (.lit u)))) (args := .ptr rb 0 :: args0) (σ := nm [rb]) (argc := .ptr 0 0 :: args0) (h u) ⟨⟨rfl, rfl⟩, RenVs.free _ hf⟩ (.of rfl rfl (by simp) ⟨⟨rb, _, rfl, put_get hb, rfl, ⟨rfl, rfl, rfl, trivial⟩, trivial⟩, trivial⟩) (fun b c hbc => by
    rcases b with _ | b
    · exact ⟨_, rfl⟩
    · cases hbc) w0 ρ us w hr hW1
structure MrX where
  rb : Nat
  a : Int
  z : AV
  rest : List AV
noncomputable def mrGet (args : List AV) (M : Mem) : Option MrX := match args with
  | .ptr rb 0 :: rest => match M.get rb with
    | some ⟨[_, .lit (.int .i64 a), z], _, none⟩ => some ⟨rb, a, z, rest⟩
    | _ => none
  | _ => none
theorem mrGet_ok {args : List AV} {M : Mem} {x : MrX} (hg : mrGet args M = some x) : args = .ptr x.rb 0 :: x.rest := by
  unfold mrGet at hg
  split at hg
  · split at hg
    · simp at hg; subst hg; rfl
    · cases hg
  · cases hg
noncomputable def conM {Y : Type} (s : ByteArray) (f : FuncId) (get : List AV → Option Y) (args0 : Y → List AV) (v0 : Int → Y → AV) (at2 : Int → Y → Int) (C : Int → Y → Prop) (h : ∀ a y, C a y → (Frees (args0 y) ∧ Free (v0 a y)) ∧ ∀ u, CallTo Try.prog f (.ptr 0 0 :: args0 y) (mrM s a u) fun v M' => Frz true 1 M' v (v0 a y) ∧ M'.get 0 = some (mrB s (at2 a y) (.lit u))) : Con Try.prog where
  f := f
  run := fun args M => match mrGet args M with
    | some x => match get x.rest with
      | some y => some (v0 x.a y, M.put x.rb (some (mrB s (at2 x.a y) x.z)))
      | none => none
    | none => none
  ob := fun args M => match mrGet args M with
    | some x => match get x.rest with
      | some y => some (isSo (M.get x.rb = some (mrB s x.a x.z) ∧ x.rest = args0 y ∧ C x.a y))
      | none => none
    | none => none
  ok := fun args M v M' hr hob => by
    cases hg : mrGet args M with
    | none => rw [hg] at hr; cases hr
    | some x =>
      rw [hg] at hr hob
      cases hy : get x.rest with
      | none => simp only [hy] at hr; cases hr
      | some y =>
        simp only [hy] at hr hob
        simp at hr
        obtain ⟨rfl, rfl⟩ := hr
        have h1 := hob _ rfl
        rw [isSo_t] at h1
        obtain ⟨hb, hrest, hC⟩ := h1
        obtain ⟨⟨hf, hv⟩, h2⟩ := h x.a y hC
        refine ⟨Grow.put _ _ _, ?_⟩
        rw [mrGet_ok hg, hrest]
        exact CallTo.meth h2 hf hv hb
theorem put_same {M : Mem} {b : Nat} {B : Blk} (h : M.get b = some B) : M.put b (some B) = ⟨M.top, M.stamp + 1, M.bs⟩ := by
  have h2 := get_bs h
  rw [Mem.put_def]
  congr 1
  rw [Mem.get_def] at h
  split at h
  · cases hx : M.bs[M.top - 1 - b]? with
    | none => rw [hx] at h; cases h
    | some y =>
      rw [hx] at h
      cases y with
      | none => cases h
      | some C =>
        simp at h
        subst h
        exact set_same hx
  · cases h
noncomputable def conMr {Y : Type} (s : ByteArray) (f : FuncId) (get : List AV → Option Y) (args0 : Y → List AV) (v0 : Int → Y → AV) (C : Int → Y → Prop) (h : ∀ a y, C a y → (Frees (args0 y) ∧ Free (v0 a y)) ∧ ∀ u, CallTo Try.prog f (.ptr 0 0 :: args0 y) (mrM s a u) fun v M' => Frz true 1 M' v (v0 a y) ∧ M'.get 0 = some (mrB s a (.lit u))) : Con Try.prog where
  f := f
  run := fun args M => match mrGet args M with
    | some x => match get x.rest with
      | some y => some (v0 x.a y, M)
      | none => none
    | none => none
  ob := fun args M => match mrGet args M with
    | some x => match get x.rest with
      | some y => some (isSo (M.get x.rb = some (mrB s x.a x.z) ∧ x.rest = args0 y ∧ C x.a y))
      | none => none
    | none => none
  ok := fun args M v M' hr hob => by
    cases hg : mrGet args M with
    | none => rw [hg] at hr; cases hr
    | some x =>
      rw [hg] at hr hob
      cases hy : get x.rest with
      | none => simp only [hy] at hr; cases hr
      | some y =>
        simp only [hy] at hr hob
        simp at hr
        obtain ⟨rfl, rfl⟩ := hr
        have h1 := hob _ rfl
        rw [isSo_t] at h1
        obtain ⟨hb, hrest, hC⟩ := h1
        obtain ⟨⟨hf, hv⟩, h2⟩ := h x.a y hC
        refine ⟨Grow.refl _, ?_⟩
        rw [mrGet_ok hg, hrest]
        intro w0 ρ us w hr hW
        refine (CallTo.meth h2 hf hv hb w0 ρ us w hr hW).mono ?_
        rintro e w' ⟨ρ', u, v, M', q0, q1, q2, q3, rfl, rfl⟩
        rw [put_same hb] at q3
        exact ⟨ρ', u, _, M, q0, q1, q2, q3.restamp M.stamp, rfl, rfl⟩
noncomputable def panM {Y : Type} (s : ByteArray) (f : FuncId) (dum : AV) (get : List AV → Option Y) (args0 : Y → List AV) (bad : Int → Y → Bool) (kk ee : Int → Y → Int) (C : Int → Y → Prop) (h : ∀ a y, C a y → bad a y = true → Frees (args0 y) ∧ ∀ u, PanTo Try.prog f (.ptr 0 0 :: args0 y) (mrM s a u) (kk a y) (ee a y)) : PCon Try.prog where
  f := f
  dum := dum
  pan := fun args M => match mrGet args M with
    | some x => match get x.rest with
      | some y => some ⟨some (isSo (M.get x.rb = some (mrB s x.a x.z) ∧ x.rest = args0 y ∧ C x.a y)), bad x.a y, kk x.a y, ee x.a y⟩
      | none => none
    | none => none
  ok := fun args M r hr hob hbad => by
    cases hg : mrGet args M with
    | none => rw [hg] at hr; cases hr
    | some x =>
      rw [hg] at hr
      cases hy : get x.rest with
      | none => simp only [hy] at hr; cases hr
      | some y =>
        simp only [hy] at hr
        simp at hr
        subst hr
        have h1 := hob _ rfl
        rw [isSo_t] at h1
        obtain ⟨hb, hrest, hC⟩ := h1
        obtain ⟨hf, h2⟩ := h x.a y hC hbad
        rw [mrGet_ok hg, hrest]
        exact PanTo.meth h2 hf hb
end Sy
end Go.Proofs.Ytglkdhmikpejnaa
