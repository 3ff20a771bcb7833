/-
  Contracts of layer 4, the third part: Ints of layer 2's reference, the reference's Ups, where a node may stand.
-/
import Derived.Test.YtckokehpdgjacaaTree2
import Derived.Test.YtckokehpdgjacaaTreePlain2
namespace Go.Proofs.Ytckokehpdgjacaa
open Go.RowKit Pl
set_option linter.unusedVariables false

theorem take_step_eq (xs ys : List Int) (k : Nat) (h1 : k < xs.length) (h2 : k < ys.length) (h : xs.take k = ys.take k) : (xs[k] = ys[k] → xs.take (k + 1) = ys.take (k + 1)) ∧ (¬ xs[k] = ys[k] → ¬ xs = ys) := by
  constructor
  · intro he
    rw [List.take_succ_eq_append_getElem h1, List.take_succ_eq_append_getElem h2, h, he]
  · intro hne e
    subst e
    exact hne rfl

set_option maxHeartbeats 400000 in
theorem ints_r {w : World} {a a' : Option Addr} {cap cap' : Nat} {xs ys : List Int} (hx : RInts w a cap xs) (hy : RInts w a' cap' ys) :
    Calls Try.prog 32 #[.slice a xs.length cap, .slice a' ys.length cap'] w fun e w' => e = .returned (.bool (decide (xs = ys))) ∧ Below w.heap.size w w' := by
  have hsm := hx.sm
  have HX := Lib.hid hx; have HY := Lib.hid hy; clear hx hy
  by_cases hlen : xs.length = ys.length
  · have hle := Nat.le_of_eq hlen
    have hle' := Nat.le_of_eq hlen.symm
    have z : ((xs.length : Int) != (ys.length : Int)) = false := by simp [hlen]
    have HL := Lib.hid hlen; clear hlen
    go_enter Try.func32, Try.ntmps32
    go_wp2_with fail
    go_loopw [5] (fun t wr => ∃ k : Nat, t = .int .i64 k ∧ k ≤ xs.length ∧ Hid (xs.take k = ys.take k) ∧ Below w.heap.size w wr) (fun t _ => xs.length - (intOf t).toNat)
    case atStart => exact ⟨0, rfl, Nat.zero_le _, rfl, Below.refl _ _⟩
    case round =>
      obtain ⟨k, rfl, hk, hx, hb⟩ := hrel
      by_cases hlt : k < xs.length
      · have hlt' : k < ys.length := by omega
        have HS := Lib.hid (take_step_eq xs ys k hlt hlt' hx.out)
        obtain ⟨b1, o1, rfl, hb1, hc1⟩ := RInts.at (HX.out.grow hb) (by intro e; rw [e] at hlt; simp at hlt)
        obtain ⟨b2, o2, rfl, hb2, hc2⟩ := RInts.at (HY.out.grow hb) (by intro e; rw [e] at hlt'; simp at hlt')
        have q1 := hc1 k hlt
        have q2 := hc2 k hlt'
        clear hc1 hc2
        generalize xs[k] = x at *
        generalize ys[k] = y at *
        have p1 : (0 : Int) ≤ (k : Int) := by omega
        have p2 : (k : Int) < (xs.length : Int) := by omega
        have p3 : (k : Int) < (ys.length : Int) := by omega
        go_wp2_with fail
        refine wp_region_ext (by kernel_rfl) (by kernel_rfl) ?_
        repeat (go_big_quiet_step (fail))
        refine wpQuiet_nil ?_
        rintro _ ⟨u, rfl⟩
        by_cases he : x = y
        · have z2 : (x != y) = false := by simp [he]
          have HS1 := Lib.hid (HS.out.1 he); clear he
          go_wp2_with fail
          go_roundw
          case rel => exact ⟨k + 1, by go_num, by omega, HS1.out, bseq hb (wext_below _ _)⟩
          case measure => simp [intOf] <;> omega
        · have z2 : (x != y) = true := by simp [he]
          have HS1 := Lib.hid (HS.out.2 he); clear he
          go_wp2_with fail
          go_ret
          exact ⟨ret_bool (by simpa using HS1.out), bseq hb (wext_below _ _)⟩
      · have hf : xs = ys := by have := hx.out; rwa [List.take_of_length_le (by omega), List.take_of_length_le (by omega)] at this
        have HF := Lib.hid hf; clear hf
        go_wp2_with fail
        go_ret
        exact ⟨ret_bool (by simpa using HF.out), hb⟩
  · have z : ((xs.length : Int) != (ys.length : Int)) = true := by simp; omega
    have HF : Hid (¬ xs = ys) := fun e => hlen (by rw [e])
    clear hlen
    go_enter Try.func32, Try.ntmps32
    go_wp2_with fail
    go_ret
    exact ⟨ret_bool (by simpa using HF.out), Below.refl _ _⟩

set_option maxHeartbeats 400000 in
theorem ups_r {w : World} {a : Option Addr} {cap : Nat} {l : List NodeV} (hl : RNodes w a cap l) (i : Int) :
    Calls Try.prog 34 #[.slice a l.length cap, .int .i64 i] w fun e w' => ∃ b c, e = .returned (.slice b (upsI (par l) l.length i).length c) ∧
      RInts w' b c ((upsI (par l) l.length i).map Int.ofNat) ∧ Below w.heap.size w w' := by
  have hsm := hl.sm
  have HL := Lib.hid hl; clear hl
  by_cases hin : 0 ≤ i ∧ i < l.length
  · have HE := Lib.hid (show upsI (par l) l.length i = ups (par l) i.toNat by rw [upsI, if_pos hin])
    obtain ⟨h0, h1⟩ := hin
    have hd : (decide (i < 0) || decide ((l.length : Int) ≤ i)) = false := by simp; omega
    go_enter Try.func34, Try.ntmps34
    go_wp2_with fail
    go_loopw [5, 6] (fun v t wr => ∃ (m : Nat) (done : List Nat), t = .int .i64 ((m : Int) - 1) ∧ m + done.length ≤ i.toNat ∧ wr.ownsRow w.heap.size 3 1 v done.length (done.map fun k => .int .i64 (Int.ofNat k)) ∧
        Hid (ups (par l) i.toNat = done ++ (ups (par l) i.toNat).filter (fun k => decide (k < m))) ∧ Below w.heap.size w wr) (fun _ t _ => (intOf t + 1).toNat)
    case atStart => exact ⟨i.toNat, [], by rw [Int.toNat_of_nonneg h0], by simp, World.ownsRow_nil _ _ _ _, by rw [Hid, below_all]; rfl, Below.refl _ _⟩
    case round =>
      obtain ⟨m, done, rfl, hm, hown, hx, hb⟩ := hrel
      match m, hm, hx with
      | 0, hm, hx =>
        go_wp2_with fail
        go_ret
        have hx' := hx.out
        rw [below_none, List.append_nil] at hx'
        rw [HE.out, hx']
        obtain ⟨b, c, rfl, hr⟩ := RInts.of_own (xs := done.map Int.ofNat) (by simpa [List.map_map, Function.comp_def] using hown) (by simp; omega)
        exact ⟨b, c, by simp, hr, hb⟩
      | m + 1, hm, hx =>
        have HS := Lib.hid (below_step (par l) i.toNat m)
        have hsz := hb.size
        rw [show ((m + 1 : Nat) : Int) - 1 = (m : Int) by omega]
        have HU := Lib.hid (under_r (HL.out.grow hb) i (m : Int) h0 h1)
        by_cases hu : under (par l) i.toNat m = true
        · have HK := Lib.hid (HS.out.trans (if_pos hu))
          go_wp2_with (first
            | (go_at_call 20; refine HU.out.mono ?_; rintro e w' ⟨rfl, rfl⟩)
            | (at_builtin; refine wpList_app 46 3 1 8 _ tInts rfl _ _ rfl w.heap.size _ _ _ rfl hown 1 #[.int .i64 (m : Int)] rfl rfl (by simp; rfl) (by omega) (by omega) hsz ?_; intro v' w1 hown1 hb1; clear hown))
          go_roundw
          case rel => exact ⟨m, done ++ [m], rfl, by simp; omega, by simpa using hown1, by rw [Hid]; have := hx.out; rw [HK.out] at this; rw [List.append_assoc]; exact this, hb.trans hb1⟩
          case measure => simp [intOf] <;> omega
        · have HK := Lib.hid (HS.out.trans (if_neg hu))
          have hu' : under (par l) i.toNat m = false := by simpa using hu
          clear hu
          go_wp2_with (first
            | (go_at_call 20; refine HU.out.mono ?_; rintro e w' ⟨rfl, rfl⟩))
          go_roundw
          case rel => exact ⟨m, done, rfl, by omega, hown, by rw [Hid]; have := hx.out; rw [HK.out] at this; exact this, hb⟩
          case measure => simp [intOf] <;> omega
  · have HE := Lib.hid (show upsI (par l) l.length i = [] by rw [upsI, if_neg hin])
    have hd : (decide (i < 0) || decide ((l.length : Int) ≤ i)) = true := by simp; omega
    clear hin
    go_enter Try.func34, Try.ntmps34
    go_wp2_with fail
    all_goals
      go_ret
      rw [HE.out]
      exact ⟨none, 0, rfl, ⟨by simp, by simp, by simp, fun _ => rfl, fun h => absurd rfl h⟩, Below.refl _ _⟩

end Go.Proofs.Ytckokehpdgjacaa
