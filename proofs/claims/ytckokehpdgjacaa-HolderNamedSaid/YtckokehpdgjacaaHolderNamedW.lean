/-
  HolderNamed, walked.
-/
import Derived.Test.YtckokehpdgjacaaLaw15
namespace Go.Proofs.Ytckokehpdgjacaa
open Go.RowKit Pl
set_option linter.unusedVariables false

theorem fits_less (x : List ExtV) (nm : ByteArray) (k : Nat) (h : fitsP x nm k = true) : fitsP x ⟨#[]⟩ k = true := by
  unfold fitsP at *; simp at h ⊢; exact h.1

set_option maxHeartbeats 400000 in
theorem named_walk {w : World} {a a' : Option Addr} {cap cap' : Nat} {l : List NodeV} {x : List ExtV} (hl : RNodes w a cap l) (hx : RExts w a' cap' x) (i : Int) (nm : ByteArray) :
    Calls Try.prog 6 #[.slice a l.length cap, .slice a' x.length cap', .int .i64 i, .string nm] w fun e w' => e = .returned (.bool true) ∧ Below w.heap.size w w' := by
  have HL := Lib.hid hl; clear hl
  have HX := Lib.hid hx; clear hx
  have HM := Lib.hid (firstUpI_more (par l) l.length (fitsP x nm) (fitsP x ⟨#[]⟩) (fits_less x nm) i)
  have hw := Below.refl w.heap.size w
  by_cases hf : l.length ≤ 100
  · have hd : decide (l.length ≤ 100) = true := by simpa using hf
    go_enter Try.func6, Try.ntmps6
    go_wp2_with (first
      | (go_at_call 14; refine (few15 _ _ _ _).mono ?_; rintro e w' ⟨rfl, rfl⟩)
      | (fail))
    refine (nearest_name_p HL.out HX.out i ⟨#[]⟩).mono ?_
    rintro e w1 ⟨rfl, h1⟩
    go_wp2_with fail
    refine (nearest_name_p (HL.out.grow h1) (HX.out.grow h1) i nm).mono ?_
    rintro e w2 ⟨rfl, h2⟩
    have hw2 := bseq h1 h2
    clear h1 h2 hw
    generalize firstUpI (par l) l.length (fitsP x ⟨#[]⟩) i = ka at *
    generalize firstUpI (par l) l.length (fitsP x nm) i = kb at *
    by_cases hk : kb < 0
    · go_wp2_with (go_at_call 15; refine (known15 _).mono ?_; rintro e w3 ⟨rfl, h3⟩)
      go_ret
      exact ⟨rfl, bseq hw2 h3⟩
    · obtain ⟨m1, m2, m3⟩ := HM.out (by omega)
      by_cases he : ka = kb
      · have he' : (ka == kb) = true := by simpa using he
        clear m3 he
        go_wp2_with (first
          | (go_at_call 15; refine (known15 _).mono ?_; rintro e w3 ⟨rfl, h3⟩))
        go_ret
        exact ⟨rfl, bseq hw2 h3⟩
      · have he' : (ka == kb) = false := by simpa using he
        have hu := Lib.hid (m3.resolve_left he)
        clear m3 he
        go_wp2_with (first
          | (go_at_call 20; refine (under_r (HL.out.grow hw2) _ _ m1 m2).mono ?_; rintro e w' ⟨rfl, rfl⟩; rw [hu.out])
          | (go_at_call 15; refine (known15 _).mono ?_; rintro e w3 ⟨rfl, h3⟩))
        go_ret
        exact ⟨rfl, bseq hw2 h3⟩
  · have hd : decide (l.length ≤ 100) = false := by simpa using hf
    go_enter Try.func6, Try.ntmps6
    go_wp2_with (first
      | (go_at_call 14; refine (few15 _ _ _ _).mono ?_; rintro e w' ⟨rfl, rfl⟩)
      | (go_at_call 15; refine (known15 _).mono ?_; rintro e w3 ⟨rfl, h3⟩))
    go_ret
    exact ⟨rfl, h3⟩

end Go.Proofs.Ytckokehpdgjacaa
