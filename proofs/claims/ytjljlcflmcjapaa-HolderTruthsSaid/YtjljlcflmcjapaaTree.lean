/-
  Contracts of layer 4's ways up a tree: tree.up, tree.Ups, and the reference's Up, Under.
-/
import Derived.Test.YtjljlcflmcjapaaProg
import Derived.Test.YtjljlcflmcjapaaBase
import Derived.Test.YtjljlcflmcjapaaTreePlain
namespace Go.Proofs.Ytjljlcflmcjapaa
open Go.RowKit Pl
set_option linter.unusedVariables false

theorem tInts : SliceT Try.prog 79 3 1 8 (.int .i64 0) :=
  ⟨Try.underlying79, by obtain ⟨i0, hi, hz0, hz1, hz2⟩ := info_parts (show (Try.prog.info? 3).map (fun i => (i.zero, i.size, i.bytes)) = some (some (.int .i64 0), 1, 8) by kernel_rfl); exact ⟨i0, hi, hz0, hz1, hz2⟩, rfl, by decide⟩

theorem up_r {w : World} {a : Option Addr} {cap : Nat} {l : List NodeV} (hl : RNodes w a cap l) (i : Int) (h0 : 0 ≤ i) (h1 : i < l.length) :
    Calls Try.prog 139 #[.slice a l.length cap, .int .i64 i] w fun e w' => e = .returned (.int .i64 (up (par l) i.toNat)) ∧ w = w' := by
  obtain ⟨k, rfl⟩ := Int.eq_ofNat_of_zero_le h0
  have hk : k < l.length := by omega
  have hlen := hl.len
  obtain ⟨b, off, rfl, hb, hc⟩ := hl.at (by intro e; rw [e] at hk; simp at hk)
  have hc0 := (hc k hk).1
  generalize hp : par l k = p at hc0
  have H := Lib.hid (show up (par l) k = if 0 ≤ p ∧ p < k then p else -1 by unfold up; rw [hp])
  clear hc hp hl
  show Calls _ _ _ _ fun e w' => e = .returned (.int .i64 (up (par l) k)) ∧ w = w'
  go_enter Try.func139, Try.ntmps139
  go_wp2
  all_goals
    go_ret
    exact ⟨ret_int (by rw [H.out]; omega), rfl⟩

theorem up_p {w : World} {a : Option Addr} {cap : Nat} {l : List NodeV} (hl : RNodes w a cap l) (i : Int) (h0 : 0 ≤ i) (h1 : i < l.length) :
    Calls Try.prog 154 #[.slice a l.length cap, .int .i64 i] w fun e w' => e = .returned (.int .i64 (up (par l) i.toNat)) ∧ w = w' := by
  obtain ⟨k, rfl⟩ := Int.eq_ofNat_of_zero_le h0
  have hk : k < l.length := by omega
  have hlen := hl.len
  obtain ⟨b, off, rfl, hb, hc⟩ := hl.at (by intro e; rw [e] at hk; simp at hk)
  have hc0 := (hc k hk).1
  generalize hp : par l k = p at hc0
  have H := Lib.hid (show up (par l) k = if 0 ≤ p ∧ p < k then p else -1 by unfold up; rw [hp])
  clear hc hp hl
  show Calls _ _ _ _ fun e w' => e = .returned (.int .i64 (up (par l) k)) ∧ w = w'
  go_enter Try.func154, Try.ntmps154
  go_wp2
  all_goals
    go_ret
    exact ⟨ret_int (by rw [H.out]; omega), rfl⟩

theorem under_r {w : World} {a : Option Addr} {cap : Nat} {l : List NodeV} (hl : RNodes w a cap l) (i j : Int) (h0 : 0 ≤ i) (h1 : i < l.length) :
    Calls Try.prog 105 #[.slice a l.length cap, .int .i64 i, .int .i64 j] w fun e w' => e = .returned (.bool (under (par l) i.toNat j)) ∧ w = w' := by
  have hu := up_ge (par l) i.toNat
  have hu' := up_lt (par l) i.toNat
  have H := Lib.hid (under_from (par l) i.toNat j)
  have HL := Lib.hid hl; clear hl
  go_enter Try.func105, Try.ntmps105
  go_wp2_with (go_at_call 139; refine (up_r HL.out _ h0 h1).mono ?_; rintro e w' ⟨rfl, rfl⟩)
  go_loop [7] (fun t => ∃ x : Int, t = .int .i64 x ∧ -1 ≤ x ∧ x < l.length ∧ Hid (under (par l) i.toNat j = underF (par l) x j)) (fun t => (intOf t + 1).toNat)
  case atStart => exact ⟨_, rfl, hu, by omega, H.out⟩
  case round =>
    obtain ⟨x, rfl, hx0, hx1, hx⟩ := hrel
    by_cases hneg : x < 0
    · have hf := Lib.hid (underF_none (par l) j hneg)
      go_wp2_with fail
      go_ret
      exact ⟨ret_bool (by rw [hx.out, hf.out]), rfl⟩
    · by_cases he : x = j
      · have hf := Lib.hid (underF_hit (par l) j (by omega) he)
        have he' : (x == j) = true := by simpa using he
        clear he
        go_wp2_with fail
        go_ret
        exact ⟨ret_bool (by rw [hx.out, hf.out]), rfl⟩
      · have hf := Lib.hid (underF_miss (par l) j (by omega) he)
        have he' : (x == j) = false := by simpa using he
        have hv := up_ge (par l) x.toNat
        have hv' := up_lt (par l) x.toNat
        go_wp2_with (go_at_call 139; refine (up_r HL.out _ (by omega) hx1).mono ?_; rintro e w' ⟨rfl, rfl⟩)
        go_round
        case rel => exact ⟨_, rfl, hv, by omega, by rw [Hid, hx.out, hf.out]⟩
        case measure => simp [intOf]; omega

theorem is_p (a : Option Addr) (n cap : Nat) (i : Int) (w : World) : Calls Try.prog 153 #[.slice a n cap, .int .i64 i] w fun e w' => e = .returned (.bool (decide (0 ≤ i) && decide (i < n))) ∧ w = w' := by
  go_enter Try.func153, Try.ntmps153
  go_wp2
  all_goals
    go_ret
    exact ⟨ret_bool (by simp_all <;> omega), rfl⟩

set_option maxHeartbeats 400000 in
theorem ups_p {w : World} {a : Option Addr} {cap : Nat} {l : List NodeV} (hl : RNodes w a cap l) (i : Int) :
    Calls Try.prog 137 #[.slice a l.length cap, .int .i64 i] w fun e w' => ∃ b c, e = .returned (.slice b (upsI (par l) l.length i).length c) ∧
      RInts w' b c ((upsI (par l) l.length i).map Int.ofNat) ∧ Below w.heap.size w w' := by
  by_cases hin : 0 ≤ i ∧ i < l.length
  · rw [upsI, if_pos hin]
    obtain ⟨h0, h1⟩ := hin
    have hu := up_ge (par l) i.toNat
    have hu' := up_lt (par l) i.toNat
    have hsm := hl.sm
    have hd : (decide (0 ≤ i) && decide (i < l.length)) = true := by simp [h0, h1]
    have HL := Lib.hid hl; clear hl
    go_enter Try.func137, Try.ntmps137
    go_wp2_with (first
      | (go_at_call 153; refine (is_p _ _ _ _ _).mono ?_; rintro e w' ⟨rfl, rfl⟩)
      | (go_at_call 154; refine (up_p HL.out _ h0 h1).mono ?_; rintro e w' ⟨rfl, rfl⟩))
    go_loopw [5, 6] (fun v t wr => ∃ (x : Int) (done : List Nat), t = .int .i64 x ∧ -1 ≤ x ∧ x + done.length < l.length ∧ wr.ownsRow w.heap.size 3 1 v done.length (done.map fun k => .int .i64 (Int.ofNat k)) ∧
        Hid (ups (par l) i.toNat = done ++ from_ (par l) x) ∧ Below w.heap.size w wr) (fun _ t _ => (intOf t + 1).toNat)
    case atStart => exact ⟨_, [], rfl, hu, by simp; omega, World.ownsRow_nil _ _ _ _, ups_from _ _, Below.refl _ _⟩
    case round =>
      obtain ⟨x, done, rfl, hx0, hx1, hown, hx, hb⟩ := hrel
      by_cases hneg : x < 0
      · have hf := Lib.hid (from_none (par l) hneg)
        go_wp2_with fail
        go_ret
        rw [hf.out, List.append_nil] at hx
        rw [hx.out]
        obtain ⟨b, c, rfl, hr⟩ := RInts.of_own (xs := done.map Int.ofNat) (by simpa [List.map_map, Function.comp_def] using hown) (by simp; omega)
        exact ⟨b, c, by simp, hr, hb⟩
      · obtain ⟨k, rfl⟩ := Int.eq_ofNat_of_zero_le (show 0 ≤ x by omega)
        have hf := Lib.hid (from_nat (par l) k)
        have hg := Lib.hid (ups_from (par l) k)
        have hv := up_ge (par l) k
        have hv' := up_lt (par l) k
        have hsz := hb.size
        go_wp2_with (first
          | (at_builtin; refine wpList_app 79 3 1 8 _ tInts rfl _ _ rfl w.heap.size _ _ _ rfl hown 1 #[.int .i64 (k : Int)] rfl rfl (by simp; rfl) (by omega) (by omega) hsz ?_; intro v' w1 hown1 hb1; clear hown)
          | (go_at_call 154; refine (up_p (HL.out.grow (hb.trans hb1)) (k : Int) (by omega) (by omega)).mono ?_; rintro e w' ⟨rfl, rfl⟩))
        go_roundw
        case rel => exact ⟨_, done ++ [k], rfl, hv, by simp; omega, by simpa using hown1, by rw [Hid, hx.out, hf.out, hg.out]; simp, hb.trans hb1⟩
        case measure => simp [intOf]; omega
  · rw [upsI, if_neg hin]
    have hd : (decide (0 ≤ i) && decide (i < l.length)) = false := by simp; omega
    clear hl hin
    go_enter Try.func137, Try.ntmps137
    go_wp2_with (first
      | (go_at_call 153; refine (is_p _ _ _ _ _).mono ?_; rintro e w' ⟨rfl, rfl⟩))
    go_ret
    exact ⟨none, 0, rfl, ⟨by simp, by simp, by simp, fun _ => rfl, fun h => absurd rfl h⟩, Below.refl _ _⟩

end Go.Proofs.Ytjljlcflmcjapaa
