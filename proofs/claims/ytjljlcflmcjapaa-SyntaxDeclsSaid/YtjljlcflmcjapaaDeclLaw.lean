/-
  Layer 6's law SyntaxDecls, walked.
-/
import Derived.Test.YtjljlcflmcjapaaDeclS1
import Derived.Test.YtjljlcflmcjapaaKnown06
namespace Go.Proofs.Ytjljlcflmcjapaa
open Go.RowKit Pl
set_option linter.unusedVariables false
set_option maxHeartbeats 1000000 in
theorem decls_walk {w : World} {a : Option Addr} {cap : Nat} {l : List TokV} (hl : RToks w a cap l) (hg : l.length ≤ 17592186044416) :
    Calls Try.prog 11 #[.slice a l.length cap] w fun e w' => e = .returned (.bool true) ∧ Below w.heap.size w w' := by
  have HL := Lib.hid hl; clear hl
  have hw0 : Below w.heap.size w w := Below.refl _ _
  by_cases hf : l.length ≤ 300
  · have hd : decide (l.length ≤ 300) = true := by simpa using hf
    have hC : limC l := by unfold limC; omega
    have HM1 := Lib.hid (fun W (h : Below w.heap.size w W) => decls_p (HL.out.grow h) hC)
    have HM2 := Lib.hid (fun W (h : Below w.heap.size w W) => decls_r (HL.out.grow h) hC)
    clear hC
    go_enter Try.func11, Try.ntmps11
    go_wp2_with (first
      | (go_at_call 25; refine (few06 _ _ _ _ hg).mono ?_; rintro e w' ⟨rfl, rfl⟩)
      | (go_at_call 31; refine (HM1.out _ hw0).mono ?_; rintro e w1 ⟨b1, c1, r1, rfl, hr1, hs1, h1⟩; have HR1 := Lib.hid hr1; have HS1 := Lib.hid hs1; clear hr1 hs1; have hw1 := bseq hw0 h1)
      | (go_at_call 32; refine (HM2.out _ hw1).mono ?_; rintro e w2 ⟨b2, c2, r2, rfl, hr2, hs2, h2⟩; have HR2 := Lib.hid hr2; have HS2 := Lib.hid hs2; have H2 := Lib.hid h2; clear hr2 hs2; have hw2 := bseq hw1 h2)
      | (go_at_call 30; refine (same_decls (HR1.out.grow H2.out) HR2.out (HS1.out.grow H2.out) HS2.out).mono ?_; rintro e w4 ⟨rfl, h4⟩; have hw4 := bseq hw2 h4)
      | (go_at_call 26; refine (known06 _).mono ?_; rintro e w3 ⟨rfl, h3⟩; have hw3 := bseq hw4 h3))
    go_ret
    exact ⟨rfl, hw3⟩
  · have hd : decide (l.length ≤ 300) = false := by simpa using hf
    go_enter Try.func11, Try.ntmps11
    go_wp2_with (first
      | (go_at_call 25; refine (few06 _ _ _ _ hg).mono ?_; rintro e w' ⟨rfl, rfl⟩)
      | (go_at_call 26; refine (known06 _).mono ?_; rintro e w3 ⟨rfl, h3⟩; have hw3 := bseq hw0 h3))
    go_ret
    exact ⟨rfl, hw3⟩
end Go.Proofs.Ytjljlcflmcjapaa
