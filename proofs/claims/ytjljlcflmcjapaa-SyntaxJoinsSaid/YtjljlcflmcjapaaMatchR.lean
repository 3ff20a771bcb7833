/-
  Contract of what closes an opening: the reference's. And whether a list is not too long.
-/
import Derived.Test.YtjljlcflmcjapaaMatchW
namespace Go.Proofs.Ytjljlcflmcjapaa
open Go.RowKit Pl
set_option linter.unusedVariables false

set_option maxHeartbeats 2000000 in
theorem match_rm (m : Nat) : ∀ {w : World} {a : Option Addr} {cap : Nat} {l : List TokV} (hl : RToks w a cap l) (i : Int) (hm : (l.length : Int) - i ≤ m ∨ i < 0),
    Calls Try.prog 28 #[.slice a l.length cap, .int .i64 i] w fun e w' => e = .returned (.int .i64 (mtc (kindsT l) i)) ∧ Below w.heap.size w w' := by
  induction m with
  | zero =>
    intro w a cap l hl i hm
    have hsm := hl.sm
    by_cases hneg : i < 0
    · have HV := Lib.hid (mt_out (l := l) (.inl hneg))
      have d1 : decide (i < 0) = true := by simpa using hneg
      clear hl hneg hm
      go_enter Try.func28, Try.ntmps28
      go_wp2_with fail
      go_ret
      exact ⟨ret_int HV.out.symm, Below.refl _ _⟩
    · have d1 : decide (i < 0) = false := by simpa using hneg
      have hbig : (l.length : Int) ≤ i := by omega
      have HV := Lib.hid (mt_out (l := l) (.inr hbig))
      have d2 : decide ((l.length : Int) ≤ i) = true := by simpa using hbig
      clear hl hneg hbig hm
      go_enter Try.func28, Try.ntmps28
      go_wp2_with fail
      go_ret
      exact ⟨ret_int HV.out.symm, Below.refl _ _⟩
  | succ M ih =>
    intro w a cap l hl i hm
    have hsm := hl.sm
    by_cases hneg : i < 0
    · have HV := Lib.hid (mt_out (l := l) (.inl hneg))
      have d1 : decide (i < 0) = true := by simpa using hneg
      clear hl hneg hm ih
      go_enter Try.func28, Try.ntmps28
      go_wp2_with fail
      go_ret
      exact ⟨ret_int HV.out.symm, Below.refl _ _⟩
    have d1 : decide (i < 0) = false := by simpa using hneg
    by_cases hbig : (l.length : Int) ≤ i
    · have HV := Lib.hid (mt_out (l := l) (.inr hbig))
      have d2 : decide ((l.length : Int) ≤ i) = true := by simpa using hbig
      clear hl hneg hbig hm ih
      go_enter Try.func28, Try.ntmps28
      go_wp2_with fail
      go_ret
      exact ⟨ret_int HV.out.symm, Below.refl _ _⟩
    obtain ⟨m, rfl⟩ := Int.eq_ofNat_of_zero_le (show 0 ≤ i by omega)
    have hmm : m < l.length := by omega
    have hMl : l.length - m ≤ M + 1 := by omega
    have d1 : decide ((m : Int) < 0) = false := by simp
    have d2 : decide ((l.length : Int) ≤ (m : Int)) = false := by simp; omega
    have d3 : decide (l.length ≤ m) = false := by simp; omega
    have IH : Hid (∀ (W : World), Below w.heap.size w W → ∀ k : Nat, m < k → Calls Try.prog 28 #[.slice a l.length cap, .int .i64 k] W fun e w' => e = .returned (.int .i64 (mtc (kindsT l) k)) ∧ Below W.heap.size W w') := fun W hb k hk => ih (hl.grow hb) k (by omega)
    clear hneg hbig hm ih
    obtain ⟨b, off, rfl, hb, hc⟩ := hl.at (fun e => by rw [e] at hmm; simp at hmm)
    have HCl := Lib.hid hc
    obtain ⟨c0, _, _⟩ := hc m hmm
    clear hc hl
    by_cases h0 : clo l[m].kind = 0
    · have HV := Lib.hid (mt_none hmm h0)
      have HC := Lib.hid (fun w => by have := closing_r l[m].kind w; rw [h0] at this; exact this)
      clear h0
      generalize l[m].kind = kd at *
      go_enter Try.func28, Try.ntmps28
      go_wp2_with (go_at_call 29; refine (HC.out _).mono ?_; rintro e w' ⟨rfl, rfl⟩)
      go_ret
      exact ⟨ret_int HV.out.symm, Below.refl _ _⟩
    have HV := Lib.hid (mt_some hmm h0)
    have HC := Lib.hid (fun w => closing_r l[m].kind w)
    have z0 : (clo l[m].kind == 0) = false := by simpa using h0
    have hcc := Lib.hid (clo_clo l[m].kind h0)
    have HR := Lib.hid (show runs (kindsT l) (m + 1) [clo l[m].kind] = runs (kindsT l) (m + 1) [clo l[m].kind] from rfl)
    generalize hRR : runs (kindsT l) (m + 1) [clo l[m].kind] = R at *
    clear h0
    generalize l[m].kind = kd at *
    generalize hcl : clo kd = cl at *
    have hRR' := Lib.hid hRR
    clear hRR
    have q1 : (0 : Int) ≤ (m : Int) := by omega
    have q2 : (m : Int) < (l.length : Int) := by omega
    go_enter Try.func28, Try.ntmps28
    go_wp2_with (go_at_call 29; refine (HC.out _).mono ?_; rintro e w' ⟨rfl, rfl⟩)
    go_loopw [5] (fun t wr => ∃ (k : Nat), t = .int .i64 k ∧ k ≤ l.length + 1 ∧ m < k ∧ Hid (runs (kindsT l) k [cl] = R) ∧ Below w.heap.size w wr) (fun t _ => l.length - (intOf t).toNat)
    case atStart => exact ⟨m + 1, by simp, by omega, by omega, hRR', Below.refl _ _⟩
    case round =>
      obtain ⟨k, rfl, hk, hmk, hO, hbl⟩ := hrel
      have hbw := Nat.lt_of_lt_of_le hb hbl.size
      have p1 := (hbl.cell (p := ⟨b, off + m * 3, none⟩) hb).trans c0
      by_cases hlt : k < l.length
      · have e1 : decide ((k : Int) < (l.length : Int)) = true := by simp; omega
        obtain ⟨q0, _, _⟩ := HCl.out k hlt
        have p2 := (hbl.cell (p := ⟨b, off + k * 3, none⟩) hb).trans q0
        have hkK : k < (kindsT l).length := by rw [kindsT_len]; exact hlt
        have HS := Lib.hid (runs_ref (K := kindsT l) (k := k) (c := cl) hkK hcc.out)
        have HK : Hid ((kindsT l)[k]'hkK = l[k].kind) := kindsT_get hlt
        have HIH := Lib.hid (fun u => IH.out (wext wr u) (hbl.trans ((wext_below wr u).mono hbl.size)) k hmk)
        have hmt : (k : Int) ≤ mtc (kindsT l) k ∧ mtc (kindsT l) k ≤ l.length := by
          unfold mtc
          rw [dif_pos ⟨by omega, by omega⟩]
          split
          · omega
          · have := runs_le (kindsT l) _ ((k : Int).toNat + 1) [clo ((kindsT l)[(k : Int).toNat]'(by omega))] (Nat.le_refl _)
            have hKL := kindsT_len l
            simp only [Int.toNat_natCast] at this ⊢
            omega
        clear q0 c0
        have r1 : (0 : Int) ≤ (k : Int) := by omega
        have r2 : (k : Int) < (l.length : Int) := by omega
        by_cases heq : l[k].kind = cl
        · have HF : Hid (mtc (kindsT l) m = (k : Int)) := by
            have := HS.out
            rw [HK.out, if_pos heq, hO.out] at this
            rw [Hid, HV.out, this]
          rw [heq] at p2
          clear HS HK heq hkK
          go_wp2_with fail
          refine wp_region_ext (by kernel_rfl) (by kernel_rfl) ?_
          repeat (go_big_quiet_step ((go_at_call 29; exact ext_of_same (HC.out _))))
          refine wpQuiet_nil ?_
          rintro _ ⟨u, rfl⟩
          have hbx := wext_below wr u
          go_wp2_with fail
          go_ret
          exact ⟨ret_int HF.out.symm, hbl.trans (hbx.mono hbl.size)⟩
        · have HF : Hid (runs (kindsT l) ((mtc (kindsT l) k).toNat + 1) [cl] = R) := by
            have := HS.out
            rw [HK.out, if_neg heq, hO.out] at this
            exact this.symm
          have z4 : (l[k].kind == cl) = false := by simpa using heq
          obtain ⟨mk, hmkk⟩ := Int.eq_ofNat_of_zero_le (show 0 ≤ mtc (kindsT l) k by omega)
          rw [hmkk] at HF HIH hmt
          clear heq hkK HK HS hmkk
          generalize l[k].kind = kk at *
          go_wp2_with fail
          refine wp_region_ext (by kernel_rfl) (by kernel_rfl) ?_
          repeat (go_big_quiet_step ((go_at_call 29; exact ext_of_same (HC.out _))))
          refine wpQuiet_nil ?_
          rintro _ ⟨u, rfl⟩
          have hbx := wext_below wr u
          have hB := hbl.trans (hbx.mono hbl.size)
          go_wp2_with (go_at_call 28; refine (HIH.out _).mono ?_; rintro e w5 ⟨rfl, h5⟩; have hb5 := bseq hB h5)
          go_roundw
          case rel => exact ⟨mk + 1, by simp, by omega, by omega, by simpa using HF, hb5⟩
          case measure =>
            have h7 : k ≤ mk := by omega
            have h8 : intOf (Value.int .i64 ((mk : Int) + 1)) = (mk : Int) + 1 := rfl
            have h9 : intOf (Value.int .i64 (k : Int)) = (k : Int) := rfl
            rw [h8, h9]; omega
      · have e1 : decide ((k : Int) < (l.length : Int)) = false := by simp; omega
        have e2 : decide (k < l.length) = false := by simp; omega
        have HF : Hid (mtc (kindsT l) m = (l.length : Int)) := by
          rw [Hid, HV.out, ← hO.out, runs_end _ (by rw [kindsT_len]; omega), kindsT_len]
        go_wp2_with fail
        go_ret
        exact ⟨ret_int HF.out.symm, hbl⟩

theorem match_r {w : World} {a : Option Addr} {cap : Nat} {l : List TokV} (hl : RToks w a cap l) (i : Int) :
    Calls Try.prog 28 #[.slice a l.length cap, .int .i64 i] w fun e w' => e = .returned (.int .i64 (mtc (kindsT l) i)) ∧ Below w.heap.size w w' :=
  match_rm (((l.length : Int) - i).toNat) hl i (by omega)

theorem few06 (a : Option Addr) (n cap : Nat) (w : World) (hn : n ≤ 17592186044416) : Calls Try.prog 25 #[.slice a n cap] w fun e w' => e = .returned (.bool (decide (n ≤ 300))) ∧ w = w' := by
  by_cases h : n ≤ 300
  · have hd : decide ((n : Int) ≤ 300) = true := by simp; omega
    go_enter Try.func25, Try.ntmps25
    go_wp2
    go_ret
    exact ⟨ret_bool (by simp [h]), rfl⟩
  · have hd : decide ((n : Int) ≤ 300) = false := by simp; omega
    go_enter Try.func25, Try.ntmps25
    go_wp2
    go_ret
    exact ⟨ret_bool (by simp [h]), rfl⟩

end Go.Proofs.Ytjljlcflmcjapaa
