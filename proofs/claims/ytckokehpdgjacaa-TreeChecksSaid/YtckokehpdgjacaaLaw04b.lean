/-
  Layer 4's laws, walked: TreeNames, TreeAsks, TreeChecks.
-/
import Derived.Test.YtckokehpdgjacaaLaw04
namespace Go.Proofs.Ytckokehpdgjacaa
open Go.RowKit Pl
set_option linter.unusedVariables false

theorem names_walk (s : ByteArray) (hs : s.size ≤ maxLen) (w : World) :
    Calls Try.prog 7 #[.string s] w fun e w' => e = .returned (.bool true) ∧ Below w.heap.size w w' := by
  go_enter Try.func7, Try.ntmps7
  go_wp2_with (first
    | (go_at_call 22; refine (name_p _ _ hs).mono ?_; rintro e w' ⟨rfl, rfl⟩)
    | (go_at_call 23; refine (name_r _ _ hs).mono ?_; rintro e w' ⟨rfl, rfl⟩)
    | (go_at_call 24; refine (text_p _ _ hs).mono ?_; rintro e w' ⟨rfl, rfl⟩)
    | (go_at_call 25; refine (text_r _ _ hs).mono ?_; rintro e w' ⟨rfl, rfl⟩)
    | (go_at_call 26; refine (known04 _).mono ?_; rintro e w3 ⟨rfl, h3⟩))
  go_ret
  exact ⟨rfl, h3⟩

theorem same_r {w : World} {a a' : Option Addr} {cap cap' : Nat} {xs : List Nat} (hx : RInts w a cap (xs.map Int.ofNat)) (hy : RInts w a' cap' (xs.map Int.ofNat)) :
    Calls Try.prog 32 #[.slice a xs.length cap, .slice a' xs.length cap'] w fun e w' => e = .returned (.bool true) ∧ Below w.heap.size w w' := by
  have h := ints_r hx hy
  rw [List.length_map] at h
  exact h.mono (by rintro e w' ⟨rfl, h1⟩; exact ⟨ret_bool (by simp), h1⟩)

set_option maxHeartbeats 1000000 in
theorem asks_walk {w : World} {a : Option Addr} {cap : Nat} {l : List NodeV} (hl : RNodes w a cap l) (i : Int) :
    Calls Try.prog 9 #[.slice a l.length cap, .int .i64 i] w fun e w' => e = .returned (.bool true) ∧ Below w.heap.size w w' := by
  have hsm := hl.sm
  have HL := Lib.hid hl; clear hl
  by_cases hf : 200 < l.length
  · have hd : decide ((200 : Int) < (l.length : Int)) = true := by simp; omega
    go_enter Try.func9, Try.ntmps9
    go_wp2_with (first
      | (go_at_call 26; refine (known04 _).mono ?_; rintro e w3 ⟨rfl, h3⟩))
    go_ret
    exact ⟨rfl, h3⟩
  · have hd : decide ((200 : Int) < (l.length : Int)) = false := by simp; omega
    go_enter Try.func9, Try.ntmps9
    go_wp2_with (first
      | (go_at_call 30; refine (depth_p HL.out _).mono ?_; rintro e w1 ⟨rfl, h1⟩)
      | (go_at_call 31; refine (depth_r (HL.out.grow h1) _ _ (Nat.le_refl _)).mono ?_; rintro e w' ⟨rfl, rfl⟩)
      | (go_at_call 33; refine (ups_p (HL.out.grow h1) _).mono ?_; rintro e w2 ⟨b2, c2, rfl, hr2, h2⟩; have hb2 := bseq h1 h2; have HR2 := Lib.hid hr2; clear hr2)
      | (go_at_call 34; refine (ups_r (HL.out.grow hb2) _).mono ?_; rintro e w3 ⟨b3, c3, rfl, hr3, h3⟩; have hb3 := bseq hb2 h3; have HR3 := Lib.hid hr3; clear hr3)
      | (go_at_call 32; refine (same_r (HR2.out.grow h3) HR3.out).mono ?_; clear HR2; rintro e w4 ⟨rfl, h4⟩; have hb4 := bseq hb3 h4)
      | (go_at_call 35; refine (kids_p (HL.out.grow hb4) _).mono ?_; rintro e w5 ⟨b5, c5, rfl, hr5, h5⟩; have hb5 := bseq hb4 h5; have HR5 := Lib.hid hr5; clear hr5)
      | (go_at_call 36; refine (kids_r (HL.out.grow hb5) _).mono ?_; rintro e w6 ⟨b6, c6, rfl, hr6, h6⟩; have hb6 := bseq hb5 h6; have HR6 := Lib.hid hr6; clear hr6)
      | (go_at_call 32; refine (same_r (HR5.out.grow h6) HR6.out).mono ?_; clear HR5; rintro e w7 ⟨rfl, h7⟩; have hb7 := bseq hb6 h7)
      | (go_at_call 37; refine (end_p (HL.out.grow hb7) _).mono ?_; rintro e w' ⟨rfl, rfl⟩)
      | (go_at_call 38; refine (end_r (HL.out.grow hb7) _).mono ?_; rintro e w' ⟨rfl, rfl⟩)
      | (go_at_call 26; refine (known04 _).mono ?_; rintro e w8 ⟨rfl, h8⟩; have hb8 := bseq hb7 h8))
    go_ret
    exact ⟨rfl, hb8⟩

set_option maxHeartbeats 1000000 in
theorem checks_walk {w : World} {a : Option Addr} {cap : Nat} {l : List NodeV} {C : Nat → List ByteArray} {A : Nat → List AttrV} (hl : RNodes w a cap l) (hX : NodesX w l C A) :
    Calls Try.prog 8 #[.slice a l.length cap] w fun e w' => e = .returned (.bool true) ∧ Below w.heap.size w w' := by
  have hsm := hl.sm
  have HL := Lib.hid hl; clear hl
  have HX := Lib.hid hX; clear hX
  have HF := Lib.hid (few04 a l.length cap w hsm)
  cases hf : (decide (l.length ≤ 200) || decide (1024 < l.length))
  · rw [hf] at HF
    go_enter Try.func8, Try.ntmps8
    go_wp2_with (first
      | (go_at_call 27; refine HF.out.mono ?_; rintro e w' ⟨rfl, rfl⟩)
      | (go_at_call 26; refine (known04 _).mono ?_; rintro e w3 ⟨rfl, h3⟩))
    go_ret
    exact ⟨rfl, h3⟩
  · rw [hf] at HF
    go_enter Try.func8, Try.ntmps8
    go_wp2_with (first
      | (go_at_call 27; refine HF.out.mono ?_; rintro e w' ⟨rfl, rfl⟩)
      | (go_at_call 28; refine (check_p HL.out HX.out).mono ?_; rintro e w1 ⟨rfl, h1⟩)
      | (go_at_call 29; refine (check_r (HL.out.grow h1) (HX.out.grow h1)).mono ?_; rintro e w2 ⟨rfl, h2⟩; have hb2 := bseq h1 h2)
      | (go_at_call 26; refine (known04 _).mono ?_; rintro e w3 ⟨rfl, h3⟩; have hb3 := bseq hb2 h3))
    go_ret
    exact ⟨rfl, hb3⟩

end Go.Proofs.Ytckokehpdgjacaa
