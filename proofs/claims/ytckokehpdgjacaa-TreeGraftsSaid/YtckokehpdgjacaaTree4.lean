/-
  Contracts of layer 4, the fourth part: where a node may stand; Check, of the program and of the reference.
-/
import Derived.Test.YtckokehpdgjacaaTree3
import Derived.Test.YtckokehpdgjacaaElem
namespace Go.Proofs.Ytckokehpdgjacaa
open Go.RowKit Pl
set_option linter.unusedVariables false

/-- is a node an element? -/
def tgN (l : List NodeV) (k : Nat) : Bool := match l[k]? with | some n => !n.tag.toList.isEmpty | none => false
theorem tgN_eq {l : List NodeV} {k : Nat} (h : k < l.length) : tgN l k = !l[k].tag.toList.isEmpty := by simp [tgN, h]

set_option maxHeartbeats 400000 in
theorem stands_r {w : World} {a : Option Addr} {cap : Nat} {l : List NodeV} (hl : RNodes w a cap l) (i : Nat) (hi : i < l.length) :
    Calls Try.prog 71 #[.slice a l.length cap, .int .i64 i] w fun e w' => e = .returned (.bool (standsN (par l) (tgN l) i)) ∧ w = w' := by
  have hsm := hl.sm
  obtain ⟨b, off, rfl, hb, hc⟩ := hl.at (by intro e; rw [e] at hi; simp at hi)
  have HC := Lib.hid hc; clear hc
  have HL := Lib.hid hl; clear hl
  by_cases h0 : i = 0
  · subst h0
    have c0 := (HC.out 0 hi).1
    have c1 := (HC.out 0 hi).2.1
    simp only [Nat.zero_mul, Nat.add_zero] at c0 c1
    have HS := Lib.hid (show standsN (par l) (tgN l) 0 = (decide (par l 0 = -1) && !l[0].tag.toList.isEmpty) by rw [standsN, if_pos rfl, tgN_eq hi])
    generalize l[0].tag = tg at *
    generalize par l 0 = p0 at *
    go_enter Try.func71, Try.ntmps71
    go_wp2_with fail
    all_goals
      go_ret
      exact ⟨ret_bool (by rw [HS.out]; simp_all), rfl⟩
  · have hne : ((i : Int) == 0) = false := by simp; omega
    have hu0 := up_ge (par l) i
    have hu1 := up_lt (par l) i
    have HU := Lib.hid (up_r HL.out (i : Int) (by omega) (by omega))
    by_cases hneg : up (par l) i < 0
    · have HS := Lib.hid (show standsN (par l) (tgN l) i = false by rw [standsN, if_neg h0]; simp; omega)
      clear h0
      go_enter Try.func71, Try.ntmps71
      go_wp2_with (first
        | (go_at_call 61; refine HU.out.mono ?_; rintro e w' ⟨rfl, rfl⟩))
      go_ret
      exact ⟨ret_bool (by rw [HS.out]), rfl⟩
    · obtain ⟨q, hq⟩ := Int.eq_ofNat_of_zero_le (show 0 ≤ up (par l) i by omega)
      have hql : q < l.length := by omega
      have HS := Lib.hid (show standsN (par l) (tgN l) i = (!l[q].tag.toList.isEmpty && (decide ((q : Int) = i - 1) || under (par l) (i - 1) q)) by
        rw [standsN, if_neg h0, hq]
        simp only [Int.toNat_natCast]
        rw [tgN_eq hql, show ((i : Int) - 1) = ((i - 1 : Nat) : Int) by omega, inFrom_under]
        rw [decide_eq_true (show (0 : Int) ≤ (q : Int) by omega), Bool.true_and])
      have HV := Lib.hid (under_r HL.out ((i : Int) - 1) (q : Int) (by omega) (by omega))
      rw [show ((i : Int) - 1).toNat = i - 1 by omega] at HV
      have c1 := (HC.out q hql).2.1
      have hU : Hid (Calls Try.prog 61 #[.slice (some ⟨b, off, none⟩) l.length cap, .int .i64 (i : Int)] w fun e w' => e = .returned (.int .i64 (q : Int)) ∧ w = w') := by
        have := HU.out
        rw [show (i : Int).toNat = i by rfl, hq] at this; exact this
      rw [hq] at hu1
      clear h0 hq hneg HU hu0
      generalize l[q].tag = tg at *
      go_enter Try.func71, Try.ntmps71
      go_wp2_with (first
        | (go_at_call 61; refine hU.out.mono ?_; rintro e w' ⟨rfl, rfl⟩)
        | (go_at_call 20; refine HV.out.mono ?_; rintro e w' ⟨rfl, rfl⟩))
      all_goals
        go_ret
        exact ⟨ret_bool (by rw [HS.out, Bool.eq_iff_iff]; simp_all), rfl⟩

end Go.Proofs.Ytckokehpdgjacaa
