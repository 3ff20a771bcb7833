/-
  Contracts of layer 4's questions: Depth, Kids, End, and the reference's Depth, Ups, Kids, End.
-/
import Derived.Test.YtckokehpdgjacaaTree
namespace Go.Proofs.Ytckokehpdgjacaa
open Go.RowKit Pl
set_option linter.unusedVariables false

theorem len_upsI (p : Nat → Int) (n : Nat) (i : Int) : (upsI p n i).length ≤ n := upsI_len p n i

theorem depth_p {w : World} {a : Option Addr} {cap : Nat} {l : List NodeV} (hl : RNodes w a cap l) (i : Int) :
    Calls Try.prog 30 #[.slice a l.length cap, .int .i64 i] w fun e w' => e = .returned (.int .i64 (depthI (par l) l.length i)) ∧ Below w.heap.size w w' := by
  have hsm := hl.sm
  have HL := Lib.hid hl; clear hl
  by_cases hin : 0 ≤ i ∧ i < l.length
  · have HD := Lib.hid (depth_ups (par l) l.length i hin)
    have hd : (decide (0 ≤ i) && decide (i < l.length)) = true := by simp [hin.1, hin.2]
    have hu := upsI_len (par l) l.length i
    clear hin
    go_enter Try.func30, Try.ntmps30
    go_wp2_with (first
      | (go_at_call 72; refine (is_p _ _ _ _ _).mono ?_; rintro e w' ⟨rfl, rfl⟩)
      | (go_at_call 33; refine (ups_p HL.out _).mono ?_; rintro e w1 ⟨b, c, rfl, hr, hb⟩))
    go_ret
    exact ⟨ret_int (by rw [HD.out]), hb⟩
  · have HD := Lib.hid (show depthI (par l) l.length i = 0 by unfold depthI; rw [if_neg hin])
    have hd : (decide (0 ≤ i) && decide (i < l.length)) = false := by simp; omega
    clear hin
    go_enter Try.func30, Try.ntmps30
    go_wp2_with (first
      | (go_at_call 72; refine (is_p _ _ _ _ _).mono ?_; rintro e w' ⟨rfl, rfl⟩))
    go_ret
    exact ⟨ret_int (by rw [HD.out]), Below.refl _ _⟩

theorem depth_r {w : World} {a : Option Addr} {cap : Nat} {l : List NodeV} (hl : RNodes w a cap l) : ∀ (f : Nat) (i : Int), i.toNat ≤ f →
    Calls Try.prog 31 #[.slice a l.length cap, .int .i64 i] w fun e w' => e = .returned (.int .i64 (depthI (par l) l.length i)) ∧ w = w' := by
  have hsm := hl.sm
  have HL := Lib.hid hl; clear hl
  intro f
  induction f with
  | zero =>
    intro i hi
    by_cases hin : 0 ≤ i ∧ i < l.length
    · obtain rfl : i = 0 := by omega
      have hu := up_lt (par l) 0
      have HD := Lib.hid (depth_root (par l) l.length 0 hin (by simpa using hu))
      have h1 := hin.2
      have hne : ¬ l = [] := by intro e; rw [e] at h1; simp at h1
      have hu' : up (par l) 0 < 0 := by simpa using hu
      clear hin hu
      go_enter Try.func31, Try.ntmps31
      go_wp2_with (first
        | (go_at_call 61; refine (up_r HL.out _ (by omega) (by omega)).mono ?_; rintro e w' ⟨rfl, rfl⟩))
      go_ret
      exact ⟨ret_int (by rw [HD.out]), rfl⟩
    · have HD := Lib.hid (show depthI (par l) l.length i = 0 by unfold depthI; rw [if_neg hin])
      have hd : (decide (i < 0) || decide ((l.length : Int) ≤ i)) = true := by simp; omega
      clear hin
      go_enter Try.func31, Try.ntmps31
      go_wp2_with fail
      all_goals
        go_ret
        exact ⟨ret_int (by rw [HD.out]), rfl⟩
  | succ f ih =>
    intro i hi
    have IH := Lib.hid ih; clear ih
    by_cases hin : 0 ≤ i ∧ i < l.length
    · have hu := up_lt (par l) i.toNat
      by_cases hneg : up (par l) i.toNat < 0
      · have HD := Lib.hid (depth_root (par l) l.length i hin hneg)
        obtain ⟨h0, h1⟩ := hin
        go_enter Try.func31, Try.ntmps31
        go_wp2_with (first
          | (go_at_call 61; refine (up_r HL.out _ (by omega) (by omega)).mono ?_; rintro e w' ⟨rfl, rfl⟩))
        go_ret
        exact ⟨ret_int (by rw [HD.out]), rfl⟩
      · have HD := Lib.hid (depth_up (par l) l.length i hin (by omega))
        have hbd := depthI_bd (par l) l.length (up (par l) i.toNat)
        obtain ⟨h0, h1⟩ := hin
        go_enter Try.func31, Try.ntmps31
        go_wp2_with (first
          | (go_at_call 61; refine (up_r HL.out _ (by omega) (by omega)).mono ?_; rintro e w' ⟨rfl, rfl⟩)
          | (go_at_call 31; refine (IH.out _ (by omega)).mono ?_; rintro e w' ⟨rfl, rfl⟩))
        go_ret
        exact ⟨ret_int (by rw [HD.out]), rfl⟩
    · have HD := Lib.hid (show depthI (par l) l.length i = 0 by unfold depthI; rw [if_neg hin])
      have hd : (decide (i < 0) || decide ((l.length : Int) ≤ i)) = true := by simp; omega
      clear hin
      go_enter Try.func31, Try.ntmps31
      go_wp2_with fail
      all_goals
        go_ret
        exact ⟨ret_int (by rw [HD.out]), rfl⟩

set_option maxHeartbeats 400000 in
theorem kids_p {w : World} {a : Option Addr} {cap : Nat} {l : List NodeV} (hl : RNodes w a cap l) (i : Int) :
    Calls Try.prog 35 #[.slice a l.length cap, .int .i64 i] w fun e w' => ∃ b c, e = .returned (.slice b (kidsI (par l) l.length i).length c) ∧
      RInts w' b c ((kidsI (par l) l.length i).map Int.ofNat) ∧ Below w.heap.size w w' := by
  by_cases hin : 0 ≤ i ∧ i < l.length
  · rw [kidsI, if_pos hin]
    obtain ⟨h0, h1⟩ := hin
    have hsm := hl.sm
    have hd : (decide (0 ≤ i) && decide (i < l.length)) = true := by simp [h0, h1]
    have hlen := hl.len
    have HN := Lib.hid (kids_none (par l) i (i.toNat + 1) (by omega) h0)
    obtain ⟨b, off, rfl, hb, hc⟩ := hl.at (by intro e; rw [e] at h1; simp at h1; omega)
    have HC := Lib.hid hc; clear hl hc
    go_enter Try.func35, Try.ntmps35
    go_wp2_with (first
      | (go_at_call 72; refine (is_p _ _ _ _ _).mono ?_; rintro e w' ⟨rfl, rfl⟩))
    go_loopw [5, 6] (fun v t wr => ∃ (k : Nat), t = .int .i64 k ∧ i < k ∧ k ≤ l.length ∧ wr.ownsRow w.heap.size 3 1 v (kidsTo (par l) i k).length ((kidsTo (par l) i k).map fun k => .int .i64 (Int.ofNat k)) ∧ Below w.heap.size w wr) (fun _ t _ => l.length - (intOf t).toNat)
    case atStart => exact ⟨i.toNat + 1, by go_num, by omega, by omega, by rw [HN.out]; exact World.ownsRow_nil _ _ _ _, Below.refl _ _⟩
    case round =>
      obtain ⟨k, rfl, hk0, hk1, hown, hbl⟩ := hrel
      by_cases hlt : k < l.length
      · have hc0 := (hbl.cell (p := ⟨b, off + k * 6, none⟩) hb).trans (HC.out k hlt).1
        have HS := Lib.hid (kids_step (par l) i k)
        have hlk := kids_len (par l) i k
        have hsz := hbl.size
        by_cases hp : par l k = i
        · have hp' : (par l k == i) = true := by simpa using hp
          have HK := Lib.hid (HS.out.trans (if_pos ((up_kid (par l) i k h0 hk0).2 hp)))
          clear hp
          go_wp2_with (first
            | (at_builtin; refine wpList_app 46 3 1 8 _ tInts rfl _ _ rfl w.heap.size _ _ _ rfl hown 1 #[.int .i64 (k : Int)] rfl rfl (by simp; rfl) (by omega) (by omega) hsz ?_; intro v' w1 hown1 hb1; clear hown))
          go_roundw
          case rel => exact ⟨k + 1, by go_num, by omega, by omega, by rw [HK.out]; simpa using hown1, hbl.trans hb1⟩
          case measure => simp [intOf]; omega
        · have hp' : (par l k == i) = false := by simpa using hp
          have HK := Lib.hid (HS.out.trans (if_neg (fun h => hp ((up_kid (par l) i k h0 hk0).1 h))))
          clear hp
          go_wp2_with fail
          go_roundw
          case rel => exact ⟨k + 1, by go_num, by omega, by omega, by rw [HK.out]; exact hown, hbl⟩
          case measure => simp [intOf]; omega
      · obtain rfl : k = l.length := by omega
        have hlk := kids_len (par l) i l.length
        go_wp2_with fail
        go_ret
        obtain ⟨b', c, rfl, hr⟩ := RInts.of_own (xs := (kidsTo (par l) i l.length).map Int.ofNat) (by simpa [List.map_map, Function.comp_def] using hown) (by simp; omega)
        exact ⟨b', c, by simp, hr, hbl⟩
  · rw [kidsI, if_neg hin]
    have hd : (decide (0 ≤ i) && decide (i < l.length)) = false := by simp; omega
    clear hl hin
    go_enter Try.func35, Try.ntmps35
    go_wp2_with (first
      | (go_at_call 72; refine (is_p _ _ _ _ _).mono ?_; rintro e w' ⟨rfl, rfl⟩))
    go_ret
    exact ⟨none, 0, rfl, ⟨by simp, by simp, by simp, fun _ => rfl, fun h => absurd rfl h⟩, Below.refl _ _⟩

set_option maxHeartbeats 400000 in
theorem kids_r {w : World} {a : Option Addr} {cap : Nat} {l : List NodeV} (hl : RNodes w a cap l) (i : Int) :
    Calls Try.prog 36 #[.slice a l.length cap, .int .i64 i] w fun e w' => ∃ b c, e = .returned (.slice b (kidsI (par l) l.length i).length c) ∧
      RInts w' b c ((kidsI (par l) l.length i).map Int.ofNat) ∧ Below w.heap.size w w' := by
  have hsm := hl.sm
  have HL := Lib.hid hl; clear hl
  by_cases h0 : 0 ≤ i
  · have HF := Lib.hid (show kidsI (par l) l.length i = kidsTo (par l) i l.length by
      unfold kidsI
      by_cases hin : 0 ≤ i ∧ i < l.length
      · rw [if_pos hin]
      · rw [if_neg hin, kids_out (par l) l.length i hin h0])
    go_enter Try.func36, Try.ntmps36
    go_wp2_with fail
    go_loopw [5, 6] (fun v t wr => ∃ (k : Nat), t = .int .i64 k ∧ k ≤ l.length ∧ wr.ownsRow w.heap.size 3 1 v (kidsTo (par l) i k).length ((kidsTo (par l) i k).map fun k => .int .i64 (Int.ofNat k)) ∧ Below w.heap.size w wr) (fun _ t _ => l.length - (intOf t).toNat)
    case atStart => exact ⟨0, rfl, by omega, World.ownsRow_nil _ _ _ _, Below.refl _ _⟩
    case round =>
      obtain ⟨k, rfl, hk1, hown, hbl⟩ := hrel
      by_cases hlt : k < l.length
      · have HS := Lib.hid (kids_step (par l) i k)
        have hlk := kids_len (par l) i k
        have hsz := hbl.size
        have HU := Lib.hid (up_r (HL.out.grow hbl) (k : Int) (by omega) (by omega))
        by_cases hp : up (par l) k = i
        · have hp' : (up (par l) k == i) = true := by simpa using hp
          have HK := Lib.hid (HS.out.trans (if_pos hp))
          clear hp
          go_wp2_with (first
            | (go_at_call 61; refine HU.out.mono ?_; rintro e w' ⟨rfl, rfl⟩)
            | (at_builtin; refine wpList_app 46 3 1 8 _ tInts rfl _ _ rfl w.heap.size _ _ _ rfl hown 1 #[.int .i64 (k : Int)] rfl rfl (by simp; rfl) (by omega) (by omega) hsz ?_; intro v' w1 hown1 hb1; clear hown))
          go_roundw
          case rel => exact ⟨k + 1, by go_num, by omega, by rw [HK.out]; simpa using hown1, hbl.trans hb1⟩
          case measure => simp [intOf]; omega
        · have hp' : (up (par l) k == i) = false := by simpa using hp
          have HK := Lib.hid (HS.out.trans (if_neg hp))
          clear hp
          go_wp2_with (first
            | (go_at_call 61; refine HU.out.mono ?_; rintro e w' ⟨rfl, rfl⟩))
          go_roundw
          case rel => exact ⟨k + 1, by go_num, by omega, by rw [HK.out]; exact hown, hbl⟩
          case measure => simp [intOf]; omega
      · obtain rfl : k = l.length := by omega
        have hlk := kids_len (par l) i l.length
        go_wp2_with fail
        go_ret
        obtain ⟨b', c, rfl, hr⟩ := RInts.of_own (xs := (kidsTo (par l) i l.length).map Int.ofNat) (by simpa [List.map_map, Function.comp_def] using hown) (by simp; omega)
        rw [HF.out]
        exact ⟨b', c, by simp, hr, hbl⟩
  · have HF := Lib.hid (show kidsI (par l) l.length i = [] by unfold kidsI; rw [if_neg (by omega)])
    have hneg : i < 0 := by omega
    go_enter Try.func36, Try.ntmps36
    go_wp2_with fail
    go_loop [5, 6] (fun v t => ∃ (k : Nat), v = .slice none 0 0 ∧ t = .int .i64 k ∧ k ≤ l.length) (fun _ t => l.length - (intOf t).toNat)
    case atStart => exact ⟨0, rfl, rfl, by omega⟩
    case round =>
      obtain ⟨k, rfl, rfl, hk1⟩ := hrel
      by_cases hlt : k < l.length
      · have HU := Lib.hid (up_r HL.out (k : Int) (by omega) (by omega))
        go_wp2_with (first
          | (go_at_call 61; refine HU.out.mono ?_; rintro e w' ⟨rfl, rfl⟩))
        all_goals
          go_round
          case rel => exact ⟨k + 1, rfl, by go_num, by omega⟩
          case measure => simp [intOf]; omega
      · go_wp2_with fail
        go_ret
        rw [HF.out]
        exact ⟨none, 0, rfl, ⟨by simp, by simp, by simp, fun _ => rfl, fun h => absurd rfl h⟩, Below.refl _ _⟩

theorem end_r {w : World} {a : Option Addr} {cap : Nat} {l : List NodeV} (hl : RNodes w a cap l) (i : Int) :
    Calls Try.prog 38 #[.slice a l.length cap, .int .i64 i] w fun e w' => e = .returned (.int .i64 (endI (par l) l.length i)) ∧ w = w' := by
  have hsm := hl.sm
  have HL := Lib.hid hl; clear hl
  by_cases hin : 0 ≤ i ∧ i < l.length
  · have HE := Lib.hid (show endI (par l) l.length i = endK (par l) l.length i (i.toNat + 1) by unfold endI; rw [if_pos hin])
    have hd : (decide (i < 0) || decide ((l.length : Int) ≤ i)) = false := by simp; omega
    obtain ⟨h0, h1⟩ := hin
    go_enter Try.func38, Try.ntmps38
    go_wp2_with fail
    go_loop [5] (fun t => ∃ (k : Nat), t = .int .i64 k ∧ k ≤ l.length ∧ Hid (endK (par l) l.length i (i.toNat + 1) = endK (par l) l.length i k)) (fun t => l.length - (intOf t).toNat)
    case atStart => exact ⟨i.toNat + 1, by go_num, by omega, rfl⟩
    case round =>
      obtain ⟨k, rfl, hk1, hx⟩ := hrel
      by_cases hlt : k < l.length
      · have HS := Lib.hid (endK_step (par l) l.length i k hlt)
        have HU := Lib.hid (under_r HL.out (k : Int) i (by omega) (by omega))
        by_cases hu : under (par l) k i = true
        · have HK := Lib.hid (HS.out.trans (if_pos hu))
          go_wp2_with (first
            | (go_at_call 20; refine HU.out.mono ?_; rintro e w' ⟨rfl, rfl⟩))
          go_round
          case rel => exact ⟨k + 1, by go_num, by omega, by rw [Hid, hx.out, HK.out]⟩
          case measure => simp [intOf]; omega
        · have HK := Lib.hid (HS.out.trans (if_neg hu))
          have hu' : under (par l) k i = false := by simpa using hu
          clear hu
          go_wp2_with (first
            | (go_at_call 20; refine HU.out.mono ?_; rintro e w' ⟨rfl, rfl⟩))
          go_ret
          exact ⟨ret_int (by rw [HE.out, hx.out, HK.out]), rfl⟩
      · have HK := Lib.hid (endK_stop (par l) l.length i k (by omega))
        go_wp2_with fail
        go_ret
        exact ⟨ret_int (by rw [HE.out, hx.out, HK.out]), rfl⟩
  · have HE := Lib.hid (show endI (par l) l.length i = 0 by unfold endI; rw [if_neg hin])
    have hd : (decide (i < 0) || decide ((l.length : Int) ≤ i)) = true := by simp; omega
    clear hin
    go_enter Try.func38, Try.ntmps38
    go_wp2_with fail
    all_goals
      go_ret
      exact ⟨ret_int (by rw [HE.out]), rfl⟩

set_option maxHeartbeats 1000000 in
theorem end_p {w : World} {a : Option Addr} {cap : Nat} {l : List NodeV} (hl : RNodes w a cap l) (i : Int) :
    Calls Try.prog 37 #[.slice a l.length cap, .int .i64 i] w fun e w' => e = .returned (.int .i64 (endI (par l) l.length i)) ∧ w = w' := by
  have hsm := hl.sm
  have HL := Lib.hid hl; clear hl
  by_cases hin : 0 ≤ i ∧ i < l.length
  · have HE := Lib.hid (show endI (par l) l.length i = endK (par l) l.length i (i.toNat + 1) by unfold endI; rw [if_pos hin])
    have hd : (decide (0 ≤ i) && decide (i < l.length)) = true := by simp; omega
    obtain ⟨h0, h1⟩ := hin
    go_enter Try.func37, Try.ntmps37
    go_wp2_with fail
    go_step3
    go_wp2_with (first
      | (go_at_call 72; refine (is_p _ _ _ _ _).mono ?_; rintro e w' ⟨rfl, rfl⟩))
    go_step3
    go_wp2_with fail
    go_loopg [5] (l.length) (fun g t wr => ∃ (k : Nat), t = .int .i64 k ∧ k ≤ l.length ∧ l.length - k ≤ g ∧ Hid (endK (par l) l.length i (i.toNat + 1) = endK (par l) l.length i k) ∧ Hid (w = wr))
    case atStart => exact ⟨i.toNat + 1, by go_num, by omega, by omega, rfl, rfl⟩
    case round =>
      obtain ⟨k, rfl, hk1, hgk, hx, hw⟩ := hrel
      have hw' := hw.out
      subst hw'
      by_cases hlt : k < l.length
      · have HS := Lib.hid (endK_step (par l) l.length i k hlt)
        have HU := Lib.hid (up_p HL.out (k : Int) (by omega) (by omega))
        have HF := Lib.hid (under_from (par l) k i)
        have hu0 := up_ge (par l) k
        have hu1 := up_lt (par l) k
        clear hw
        go_wp2_with (first
          | (go_at_call 73; refine HU.out.mono ?_; rintro e w' ⟨rfl, rfl⟩))
        go_loopg [6] (k) (fun g t wr => ∃ x : Int, t = .int .i64 x ∧ -1 ≤ x ∧ x < k ∧ x + 1 ≤ g ∧ Hid (under (par l) k i = underF (par l) x i) ∧ Hid (w = wr))
        case atStart => exact ⟨_, rfl, hu0, hu1, by omega, HF.out, rfl⟩
        case round =>
          obtain ⟨x, rfl, hx0, hx1, hxg, hxu, hw2⟩ := hrel
          have hw2' := hw2.out
          subst hw2'
          clear hw2
          by_cases hneg : x < 0
          · have hf := Lib.hid (underF_none (par l) i hneg)
            have HK := Lib.hid (HS.out.trans (if_neg (by rw [hxu.out, hf.out]; simp)))
            go_wp2_with fail
            try rw [Exit.noGoto_ret]
            go_ret
            exact ⟨ret_int (by rw [HE.out, hx.out, HK.out]), rfl⟩
          · by_cases he : x = i
            · have hf := Lib.hid (underF_hit (par l) i (by omega) he)
              have HK := Lib.hid (HS.out.trans (if_pos (by rw [hxu.out, hf.out])))
              have he' : (x == i) = true := by simpa using he
              clear he
              go_wp2_with fail
              go_roundg (l.length - (k + 1))
              case rel => exact ⟨k + 1, by go_num, by omega, by omega, by rw [Hid, hx.out, HK.out], rfl⟩
              case measure => omega
            · have hf := Lib.hid (underF_miss (par l) i (by omega) he)
              have he' : (x == i) = false := by simpa using he
              have hv := up_ge (par l) x.toNat
              have hv' := up_lt (par l) x.toNat
              clear he
              go_wp2_with (go_at_call 73; refine (up_p HL.out _ (by omega) (by omega)).mono ?_; rintro e w' ⟨rfl, rfl⟩)
              go_roundg ((up (par l) x.toNat + 1).toNat)
              case rel => exact ⟨_, rfl, hv, by omega, by omega, by rw [Hid, hxu.out, hf.out], rfl⟩
              case measure => omega
      · have HK := Lib.hid (endK_stop (par l) l.length i k (by omega))
        go_wp2_with fail
        try rw [Exit.noGoto_ret]
        go_ret
        exact ⟨ret_int (by rw [HE.out, hx.out, HK.out]), rfl⟩
  · have HE := Lib.hid (show endI (par l) l.length i = 0 by unfold endI; rw [if_neg hin])
    have hd : (decide (0 ≤ i) && decide (i < l.length)) = false := by simp; omega
    clear hin
    go_enter Try.func37, Try.ntmps37
    go_wp2_with fail
    go_step3
    go_wp2_with (first
      | (go_at_call 72; refine (is_p _ _ _ _ _).mono ?_; rintro e w' ⟨rfl, rfl⟩))
    try rw [Exit.noGoto_ret]
    go_ret
    exact ⟨ret_int (by rw [HE.out]), rfl⟩

end Go.Proofs.Ytckokehpdgjacaa
