/-
  Contract of tree.stands: may a node's parent be, behind the one ahead of it, of such depths?
-/
import Derived.Test.YtckokehpdgjacaaTree4
namespace Go.Proofs.Ytckokehpdgjacaa
open Go.RowKit Pl
set_option linter.unusedVariables false

/-- the answer of stands -/
def StandsPost (l : List NodeV) (i : Nat) (w : World) (e : Ending) (w' : World) : Prop :=
  ∃ d : Int, e = .returned (.tuple #[.int .i64 d, .bool (standsN (par l) (tgN l) i)]) ∧ (standsN (par l) (tgN l) i = true → d = dep (par l) i) ∧ Below w.heap.size w w'

theorem ret_ib {a b : Int} {c d : Bool} (h : a = b) (h' : c = d) : Ending.returned (.tuple #[.int .i64 a, .bool c]) = .returned (.tuple #[.int .i64 b, .bool d]) := by rw [h, h']

set_option maxHeartbeats 1000000 in
theorem stands_p {w : World} {a : Option Addr} {cap g n capd : Nat} {l : List NodeV} (hl : RNodes w a cap l) (i : Nat) (hi : i < l.length) (hg : g < w.heap.size) (hn : l.length ≤ n) (hn2 : n ≤ 17592186044416)
    (hd : ∀ j, j < i → w.cell? ⟨g, j, none⟩ = some (.int .i64 (dep (par l) j))) :
    Calls Try.prog 70 #[.slice a l.length cap, .slice (some ⟨g, 0, none⟩) n capd, .int .i64 i] w (StandsPost l i w) := by
  have hsm := hl.sm
  obtain ⟨b, off, rfl, hb, hc⟩ := hl.at (by intro e; rw [e] at hi; simp at hi)
  have HC := Lib.hid hc; clear hc
  have HL := Lib.hid hl; clear hl
  have HD := Lib.hid hd; clear hd
  have ci := (HC.out i hi).1
  by_cases h0 : i = 0
  · subst h0
    have c1 := (HC.out 0 hi).2.1
    simp only [Nat.zero_mul, Nat.add_zero] at ci c1
    have HS := Lib.hid (show standsN (par l) (tgN l) 0 = (decide (par l 0 = -1) && !l[0].tag.toList.isEmpty) by rw [standsN, if_pos rfl, tgN_eq hi])
    have HE : Hid ((1 : Int) = dep (par l) 0) := by rw [Hid, dep_root (par l) 0 (by have := up_lt (par l) 0; simpa using this)]; rfl
    generalize l[0].tag = tg at *
    generalize par l 0 = p0 at *
    by_cases hp : p0 = -1
    · subst hp
      go_enter Try.func70, Try.ntmps70
      go_wp2_with fail
      refine wp_region_ext (by kernel_rfl) (by kernel_rfl) ?_
      repeat (go_big_quiet_step (fail))
      refine wpQuiet_nil ?_
      rintro _ ⟨u, rfl⟩
      go_wp2_with fail
      go_ret2
      exact ⟨1, ret_ib rfl (by rw [HS.out]; simp), fun _ => HE.out, wext_below _ _⟩
    · have hp' : (p0 == -1) = false := by simpa using hp
      have HP := Lib.hid hp; clear hp
      go_enter Try.func70, Try.ntmps70
      go_wp2_with fail
      refine wp_region_ext (by kernel_rfl) (by kernel_rfl) ?_
      repeat (go_big_quiet_step (fail))
      refine wpQuiet_nil ?_
      rintro _ ⟨u, rfl⟩
      go_wp2_with fail
      go_ret2
      exact ⟨1, ret_ib rfl (by rw [HS.out]; simp [HP.out]), fun _ => HE.out, wext_below _ _⟩
  · have hne : ((i : Int) == 0) = false := by simp; omega
    generalize hpp : par l i = pp at *
    by_cases hbad : pp < 0 ∨ (i : Int) ≤ pp
    · have HS := Lib.hid (show standsN (par l) (tgN l) i = false by
        have : up (par l) i = -1 := by unfold up; rw [if_neg (by omega)]
        rw [standsN, if_neg h0, this]; simp)
      clear h0 hpp
      have hq : (decide (pp < 0) || decide ((i : Int) ≤ pp)) = true := by simp; omega
      rcases hbad with hbad | hbad
      · go_enter Try.func70, Try.ntmps70
        go_wp2_with fail
        go_ret2
        exact ⟨0, ret_ib rfl (by rw [HS.out]), fun h => by (have := HS.out; rw [h] at this; cases this), Below.refl _ _⟩
      · have hbad2 : 0 ≤ pp := by omega
        go_enter Try.func70, Try.ntmps70
        go_wp2_with fail
        go_ret2
        exact ⟨0, ret_ib rfl (by rw [HS.out]), fun h => by (have := HS.out; rw [h] at this; cases this), Below.refl _ _⟩
    · obtain ⟨q, rfl⟩ := Int.eq_ofNat_of_zero_le (show 0 ≤ pp by omega)
      have hqi : q < i := by omega
      have hup : up (par l) i = q := by unfold up; rw [hpp, if_pos (by omega)]
      have hql : q < l.length := by omega
      have c1 := (HC.out q hql).2.1
      have HS := Lib.hid (show standsN (par l) (tgN l) i = (!l[q].tag.toList.isEmpty && inFrom (par l) ((i : Int) - 1) q) by
        rw [standsN, if_neg h0, hup]; simp only [Int.toNat_natCast]; rw [tgN_eq hql]; simp)
      have HE := Lib.hid (show dep (par l) i = dep (par l) q + 1 by rw [dep_up (par l) i (by omega), hup]; rfl)
      clear h0 hpp hup hbad
      generalize l[q].tag = tg at *
      by_cases ht : tg.toList.isEmpty = true
      · have HS' := Lib.hid (show standsN (par l) (tgN l) i = false by rw [HS.out, ht]; rfl)
        go_enter Try.func70, Try.ntmps70
        go_wp2_with fail
        go_ret2
        exact ⟨0, ret_ib rfl (by rw [HS'.out]), fun h => by (have := HS'.out; rw [h] at this; cases this), Below.refl _ _⟩
      · have ht' : tg.toList.isEmpty = false := by simpa using ht
        have HS' := Lib.hid (show standsN (par l) (tgN l) i = inFrom (par l) ((i : Int) - 1) q by rw [HS.out, ht']; rfl)
        clear ht HS
        have dq := HD.out q hqi
        have hdq := dep_le (par l) q
        have e1 : decide ((q : Int) < 0) = false := by simp
        have e2 : decide ((i : Int) ≤ (q : Int)) = false := by simp; omega
        have e3 : decide (i ≤ q) = false := by simp; omega
        go_enter Try.func70, Try.ntmps70
        go_wp2_with fail
        go_loopw [9] (fun t wr => ∃ x : Int, t = .int .i64 x ∧ -1 ≤ x ∧ x < i ∧ Hid (inFrom (par l) ((i : Int) - 1) q = inFrom (par l) x q) ∧ Below w.heap.size w wr) (fun t _ => (intOf t + 1).toNat)
        case atStart => exact ⟨(i : Int) - 1, rfl, by omega, by omega, rfl, Below.refl _ _⟩
        case round =>
          obtain ⟨x, rfl, hx0, hx1, hx, hbl⟩ := hrel
          have dq' := (hbl.cell (p := ⟨g, q, none⟩) hg).trans dq
          have hg' := Nat.lt_of_lt_of_le hg hbl.size
          have p1 : (0 : Int) ≤ (q : Int) := by omega
          have p2 : (q : Int) < (n : Int) := by omega
          by_cases hxq : x ≤ q
          · have HF := Lib.hid (inFrom_stop (par l) x q hxq)
            have hg1 : decide ((q : Int) < x) = false := by simp; omega
            go_wp2_with fail
            refine wp_region_ext (by kernel_rfl) (by kernel_rfl) ?_
            repeat (go_big_quiet_step (fail))
            refine wpQuiet_nil ?_
            rintro _ ⟨u, rfl⟩
            go_wp2_with fail
            go_ret2
            exact ⟨(dep (par l) q : Int) + 1, ret_ib rfl (by rw [HS'.out, hx.out, HF.out]; rw [Bool.eq_iff_iff]; simp), fun _ => by rw [HE.out]; simp, bseq hbl (wext_below _ _)⟩
          · obtain ⟨k, rfl⟩ := Int.eq_ofNat_of_zero_le (show 0 ≤ x by omega)
            have hki : k < i := by omega
            have dk := (hbl.cell (p := ⟨g, k, none⟩) hg).trans (HD.out k hki)
            have hg1 : decide ((q : Int) < (k : Int)) = true := by simp; omega
            have p3 : (0 : Int) ≤ (k : Int) := by omega
            have p4 : (k : Int) < (n : Int) := by omega
            have hdk := dep_le (par l) k
            by_cases hdd : dep (par l) q < dep (par l) k
            · have HF := Lib.hid (inFrom_step (par l) k q (by omega))
              have hv := up_ge (par l) k
              have hv' := up_lt (par l) k
              go_wp2_with fail
              refine wp_region_ext (by kernel_rfl) (by kernel_rfl) ?_
              repeat (go_big_quiet_step (fail))
              refine wpQuiet_nil ?_
              rintro _ ⟨u, rfl⟩
              go_wp2_with (first
                | (go_at_call 73; refine (up_p (HL.out.grow (bseq hbl (wext_below _ u))) (k : Int) (by omega) (by omega)).mono ?_; rintro e w' ⟨rfl, rfl⟩))
              go_roundw
              case rel => exact ⟨_, rfl, hv, by omega, by rw [Hid, hx.out, HF.out]; rfl, bseq hbl (wext_below _ _)⟩
              case measure => simp [intOf]; omega
            · have HF := Lib.hid (inFrom_shallow (par l) k q (by omega) (by simpa using hdd))
              have hkq : ((k : Int) == (q : Int)) = false := by simp; omega
              go_wp2_with fail
              refine wp_region_ext (by kernel_rfl) (by kernel_rfl) ?_
              repeat (go_big_quiet_step (fail))
              refine wpQuiet_nil ?_
              rintro _ ⟨u, rfl⟩
              go_wp2_with fail
              go_ret2
              exact ⟨(dep (par l) q : Int) + 1, ret_ib rfl (by rw [HS'.out, hx.out, HF.out]), fun _ => by rw [HE.out]; simp, bseq hbl (wext_below _ _)⟩

end Go.Proofs.Ytckokehpdgjacaa
