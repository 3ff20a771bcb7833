/-
  Layer 15's laws, walked: HolderLengths, HolderBases, HolderNamed.
-/
import Derived.Test.YtckokehpdgjacaaLaw15
namespace Go.Proofs.Ytckokehpdgjacaa
open Go.RowKit Pl
set_option linter.unusedVariables false

theorem lengths_walk (k n d font a b : Int) (s : ByteArray) (w : World) :
    Calls Try.prog 4 #[.agg #[.int .i64 k, .int .i64 n, .int .i64 d, .string s], .int .i64 font, .int .i64 a, .int .i64 b] w fun e w' => e = .returned (.bool true) ∧ Below w.heap.size w w' := by
  go_enter Try.func4, Try.ntmps4
  go_wp2_with fail
  refine wp_region_ext (by kernel_rfl) (by kernel_rfl) ?_
  repeat (go_big_quiet_step ((first | (go_at_call 18; exact ext_of (meas_p _ _ _ _ _ _ _ _)) | (go_at_call 19; exact ext_of (meas_r _ _ _ _ _ _ _ _)) | (go_at_call 15; exact ext_of (known15 _)))))
  refine wpQuiet_nil ?_
  rintro _ ⟨u, rfl⟩
  have hw0 : Below w.heap.size w (wext (w.alloc (.cells #[.int .i64 k, .int .i64 n, .int .i64 d, .string s] 32)) u) := bseq (balloc (Below.refl _ _) _) (wext_below _ _)
  go_wp2_with fail
  go_ret
  exact ⟨rfl, hw0⟩

set_option maxHeartbeats 400000 in
theorem bases_walk {w : World} {a a' : Option Addr} {cap cap' : Nat} {l : List NodeV} {x : List ExtV} (hl : RNodes w a cap l) (hx : RExts w a' cap' x) (i vw vh : Int) :
    Calls Try.prog 3 #[.slice a l.length cap, .slice a' x.length cap', .int .i64 i, .agg #[.int .i64 vw, .int .i64 vh]] w fun e w' => e = .returned (.bool true) ∧ Below w.heap.size w w' := by
  have HL := Lib.hid hl; clear hl
  have HX := Lib.hid hx; clear hx
  have hw0 : Below w.heap.size w (w.alloc (.cells #[.int .i64 vw, .int .i64 vh] 25)) := balloc (Below.refl _ _) _
  by_cases hf : l.length ≤ 100
  · have hd : decide (l.length ≤ 100) = true := by simpa using hf
    go_enter Try.func3, Try.ntmps3
    go_wp2_with (first
      | (go_at_call 14; refine (few15 _ _ _ _).mono ?_; rintro e w' ⟨rfl, rfl⟩)
      | (go_at_call 16; refine (bases_p (HL.out.grow hw0) (HX.out.grow hw0) _ _ _).mono ?_; rintro e w1 ⟨rfl, h1⟩; have hc := bcell h1; have hw1 := bseq hw0 h1)
      | (go_at_call 17; refine (bases_r (HL.out.grow hw1) (HX.out.grow hw1) _ _ _).mono ?_; rintro e w2 ⟨rfl, h2⟩; have hw2 := bseq hw1 h2)
      | (go_at_call 15; refine (known15 _).mono ?_; rintro e w3 ⟨rfl, h3⟩; have hw3 := bseq hw2 h3))
    go_ret
    exact ⟨rfl, hw3⟩
  · have hd : decide (l.length ≤ 100) = false := by simpa using hf
    go_enter Try.func3, Try.ntmps3
    go_wp2_with (first
      | (go_at_call 14; refine (few15 _ _ _ _).mono ?_; rintro e w' ⟨rfl, rfl⟩)
      | (go_at_call 15; refine (known15 _).mono ?_; rintro e w3 ⟨rfl, h3⟩; have hw3 := bseq hw0 h3))
    go_ret
    exact ⟨rfl, hw3⟩

end Go.Proofs.Ytckokehpdgjacaa
