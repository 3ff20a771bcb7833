/-
  Contracts of layer 15 (holder) and of its reference: extents, the nearest holder, bases.
-/
import Derived.Test.YtjljlcflmcjapaaTree
import Derived.Test.YtjljlcflmcjapaaMeas
import Derived.Test.YtjljlcflmcjapaaFacts
namespace Go.Proofs.Ytjljlcflmcjapaa
open Go.RowKit Pl
set_option linter.unusedVariables false

set_option maxHeartbeats 400000 in
theorem nearest_p {w : World} {a : Option Addr} {cap : Nat} {l : List NodeV} (hl : RNodes w a cap l) (i : Int) (fid : FuncId) (first captured : Array Value) (f : Nat → Bool)
    (hfid : ∀ (args : Array Value) (w' : World), (callFunc fid args).run Try.prog w' = .ok (.enter fid args) w')
    (Hf : ∀ (k : Int) (w' : World), 0 ≤ k → k < l.length → Below w.heap.size w w' → Calls Try.prog fid (first ++ #[.int .i64 k] ++ captured) w' fun e w'' => e = .returned (.bool (f k.toNat)) ∧ Below w'.heap.size w' w'') :
    Calls Try.prog 97 #[.slice a l.length cap, .int .i64 i, .func (.func fid) first captured] w fun e w' =>
      e = .returned (.int .i64 (firstUpI (par l) l.length f i)) ∧ Below w.heap.size w w' := by
  have HF := Lib.hid Hf; clear Hf
  have hsm := hl.sm
  have HL := Lib.hid hl; clear hl
  have hU := upsI_len (par l) l.length i
  go_enter Try.func97, Try.ntmps97
  go_wp2_with (first
      | (go_at_call 137; refine (ups_p HL.out _).mono ?_; rintro e w1 ⟨b, c, rfl, hr, hb⟩))
  have hUlt := Lib.hid (upsI_lt (par l) l.length i)
  have hgoal : Hid (firstUpI (par l) l.length f i = match (upsI (par l) l.length i).find? f with | some k => (k : Int) | none => -1) := rfl
  generalize upsI (par l) l.length i = U at *
  have HR := Lib.hid hr; clear hr
  go_loopw [13] (fun t wr => ∃ j : Nat, t = .int .i64 j ∧ j ≤ U.length ∧ Hid ((U.take j).find? f = none) ∧ Below w.heap.size w wr ∧ Below w1.heap.size w1 wr) (fun t _ => U.length - (intOf t).toNat)
  case atStart => exact ⟨0, rfl, Nat.zero_le _, rfl, hb, Below.refl _ _⟩
  case round =>
    obtain ⟨j, rfl, hj, hx, hb1, hb2⟩ := hrel
    by_cases hlt : j < U.length
    · have HR' := HR.out.grow hb2
      obtain ⟨bb, off, rfl, hbb, hc⟩ := RInts.at HR' (by intro e; have := congrArg List.length e; simp at this; simp [this] at hlt)
      have hcj := hc j (by simpa using hlt)
      have hk : U[j] < l.length := hUlt.out _ (List.getElem_mem _)
      rw [List.getElem_map] at hcj
      clear hc HR'
      go_wp2_with (first
        | (refine (HF.out (U[j] : Int) _ (by omega) (by omega) hb1).mono ?_; rintro e w2 ⟨rfl, hb3⟩))
      · have hf : f U[j] = true := by assumption
        go_ret
        exact ⟨ret_int (by rw [hgoal.out, (find_take f U j hlt hx.out).1 hf]), hb1.trans (hb3.mono hb1.size)⟩
      · have hf : f U[j] = false := by assumption
        go_roundw
        case rel => exact ⟨j + 1, by go_num, by omega, (find_take f U j hlt hx.out).2 hf, hb1.trans (hb3.mono hb1.size), hb2.trans (hb3.mono hb2.size)⟩
        case measure => simp [intOf]; omega
    · go_wp2_with fail
      go_ret
      exact ⟨ret_int (by rw [hgoal.out, ← List.take_of_length_le (Nat.le_of_not_lt hlt), hx.out]), hb1⟩

theorem at_p {w : World} {a : Option Addr} {cap : Nat} {x : List ExtV} (hl : RExts w a cap x) (i : Int) :
    Calls Try.prog 66 #[.slice a x.length cap, .int .i64 i] w fun e w' => e = .returned (.agg #[.int .i64 (atV x i).type, .string (atV x i).name, .int .i64 (atV x i).w, .int .i64 (atV x i).h]) ∧ Below w.heap.size w w' := by
  have hlen := hl.len
  by_cases hin : 0 ≤ i ∧ i < x.length
  · obtain ⟨h0, h1⟩ := hin
    obtain ⟨k, rfl⟩ := Int.eq_ofNat_of_zero_le h0
    have hk : k < x.length := by omega
    obtain ⟨b, off, rfl, hb, hc⟩ := RExts.at hl (by intro e; rw [e] at hk; simp at hk)
    obtain ⟨c0, c1, c2, c3⟩ := hc k hk
    have H := Lib.hid (show atV x (k : Int) = x[k] by unfold atV; rw [if_neg (by omega)]; simp [hk])
    generalize x[k] = y at *
    clear hc hl
    go_enter Try.func66, Try.ntmps66
    go_wp2
    exact bodyPost_ret (v := y.val) (by simp [results, Try.results66, go_sem, ExtV.val]) rfl ⟨by rw [H.out]; rfl, (Below.refl _ _).alloc (Nat.le_refl _) _⟩
  · have H := Lib.hid (show atV x i = ExtV.zero by unfold atV; split <;> first | rfl | (rw [List.getElem?_eq_none (by omega)]))
    have hd : (decide (i < 0) || decide ((x.length : Int) ≤ i)) = true := by simp; omega
    clear hl
    go_enter Try.func66, Try.ntmps66
    go_wp2
    all_goals exact bodyPost_ret (v := ExtV.zero.val) (by simp [results, Try.results66, go_sem, ExtV.val, ExtV.zero]) rfl ⟨by rw [H.out]; rfl, (Below.refl _ _).alloc (Nat.le_refl _) _⟩

theorem at_r {w : World} {a : Option Addr} {cap : Nat} {x : List ExtV} (hl : RExts w a cap x) (i : Int) :
    Calls Try.prog 68 #[.slice a x.length cap, .int .i64 i] w fun e w' => e = .returned (.agg #[.int .i64 (atV x i).type, .string (atV x i).name, .int .i64 (atV x i).w, .int .i64 (atV x i).h]) ∧ Below w.heap.size w w' := by
  have hlen := hl.len
  by_cases hin : 0 ≤ i ∧ i < x.length
  · obtain ⟨h0, h1⟩ := hin
    obtain ⟨k, rfl⟩ := Int.eq_ofNat_of_zero_le h0
    have hk : k < x.length := by omega
    obtain ⟨b, off, rfl, hb, hc⟩ := RExts.at hl (by intro e; rw [e] at hk; simp at hk)
    obtain ⟨c0, c1, c2, c3⟩ := hc k hk
    have H := Lib.hid (show atV x (k : Int) = x[k] by unfold atV; rw [if_neg (by omega)]; simp [hk])
    generalize x[k] = y at *
    clear hc hl
    go_enter Try.func68, Try.ntmps68
    go_wp2
    exact bodyPost_ret (v := y.val) (by simp [results, Try.results68, go_sem, ExtV.val]) rfl ⟨by rw [H.out]; rfl, (Below.refl _ _).alloc (Nat.le_refl _) _⟩
  · have H := Lib.hid (show atV x i = ExtV.zero by unfold atV; split <;> first | rfl | (rw [List.getElem?_eq_none (by omega)]))
    have hd : (decide (0 ≤ i) && decide (i < (x.length : Int))) = false := by simp; omega
    clear hl
    go_enter Try.func68, Try.ntmps68
    go_wp2
    all_goals exact bodyPost_ret (v := ExtV.zero.val) (by simp [results, Try.results68, go_sem, ExtV.val, ExtV.zero]) rfl ⟨by rw [H.out]; rfl, (Below.refl _ _).alloc (Nat.le_refl _) _⟩

theorem holds_p {w : World} {a : Option Addr} {cap : Nat} {x : List ExtV} (hl : RExts w a cap x) (i : Int) :
    Calls Try.prog 98 #[.slice a x.length cap, .int .i64 i] w fun e w' => e = .returned (.bool ((atV x i).type == 1 || (atV x i).type == 2)) ∧ Below w.heap.size w w' := by
  have HL := Lib.hid hl; clear hl
  go_enter Try.func98, Try.ntmps98
  go_wp2_with (go_at_call 66; refine (at_p HL.out _).mono ?_; rintro e w1 ⟨rfl, hb⟩)
  all_goals
    go_ret
    exact ⟨ret_bool (by simp_all), hb⟩

theorem both_p {w : World} {a : Option Addr} {cap : Nat} {x : List ExtV} (hl : RExts w a cap x) (i : Int) :
    Calls Try.prog 99 #[.slice a x.length cap, .int .i64 i] w fun e w' => e = .returned (.bool ((atV x i).type == 2)) ∧ Below w.heap.size w w' := by
  have HL := Lib.hid hl; clear hl
  go_enter Try.func99, Try.ntmps99
  go_wp2_with (go_at_call 66; refine (at_p HL.out _).mono ?_; rintro e w1 ⟨rfl, hb⟩)
  go_ret
  exact ⟨rfl, hb⟩

end Go.Proofs.Ytjljlcflmcjapaa
