/-
  Layer 4's law TreeNil, walked.
-/
import Derived.Test.YtckokehpdgjacaaLaw04
namespace Go.Proofs.Ytckokehpdgjacaa
open Go.RowKit Pl
set_option linter.unusedVariables false

theorem done_nil (w : World) : Calls Try.prog 42 #[.pointer none] w fun e w' => e = .returned (.tuple #[.slice none 0 0, .int .i64 3]) ∧ w = w' := by
  go_enter Try.func42, Try.ntmps42
  go_wp2
  go_ret2
  exact ⟨rfl, rfl⟩
theorem close_nil (w : World) : Calls Try.prog 45 #[.pointer none] w fun e w' => e = .returned (.int .i64 3) ∧ w = w' := by
  go_enter Try.func45, Try.ntmps45
  go_wp2
  go_ret
  exact ⟨rfl, rfl⟩
theorem words_nil (s : ByteArray) (w : World) : Calls Try.prog 44 #[.pointer none, .string s] w fun e w' => e = .returned (.int .i64 3) ∧ w = w' := by
  go_enter Try.func44, Try.ntmps44
  go_wp2
  go_ret
  exact ⟨rfl, rfl⟩
theorem open_nil (p : Int) (t d x : ByteArray) (a b : Option Addr) (n m c e : Nat) (w : World) :
    Calls Try.prog 43 #[.pointer none, .agg #[.int .i64 p, .string t, .string d, .slice a n c, .slice b m e, .string x]] w fun e w' => e = .returned (.int .i64 3) ∧ Below w.heap.size w w' := by
  go_enter Try.func43, Try.ntmps43
  go_wp2
  go_ret
  exact ⟨rfl, balloc (Below.refl _ _) _⟩

theorem nil_walk (p : Int) (t d x : ByteArray) (a b : Option Addr) (n m c e : Nat) (w : World) :
    Calls Try.prog 12 #[.agg #[.int .i64 p, .string t, .string d, .slice a n c, .slice b m e, .string x]] w fun e w' => e = .returned (.bool true) ∧ Below w.heap.size w w' := by
  have hb0 : Below w.heap.size w (w.alloc (.cells #[.int .i64 p, .string t, .string d, .slice a n c, .slice b m e, .string x] 54)) := balloc (Below.refl _ _) _
  go_enter Try.func12, Try.ntmps12
  go_wp2_with (first
    | (go_at_call 42; refine (done_nil _).mono ?_; rintro e w' ⟨rfl, rfl⟩)
    | (go_at_call 43; refine (open_nil _ _ _ _ _ _ _ _ _ _ _).mono ?_; rintro e w1 ⟨rfl, h1⟩; have hb1 := bseq hb0 h1; have hcc := bcell h1)
    | (go_at_call 44; refine (words_nil _ _).mono ?_; rintro e w' ⟨rfl, rfl⟩)
    | (go_at_call 45; refine (close_nil _).mono ?_; rintro e w' ⟨rfl, rfl⟩)
    | (go_at_call 26; refine (known04 _).mono ?_; rintro e w3 ⟨rfl, h3⟩; have hb3 := bseq hb1 h3))
  go_ret
  exact ⟨rfl, hb3⟩

theorem nil_walk' {w : World} {y : NodeV} {C : List ByteArray} {A : List AttrV} (hX : NodeX w y C A) :
    Calls Try.prog 12 #[y.val] w fun e w' => e = .returned (.bool true) ∧ Below w.heap.size w w' := by
  obtain ⟨a, c, e1, _⟩ := hX.cls
  obtain ⟨b, e, e2, _⟩ := hX.att
  unfold NodeV.val
  rw [e1, e2]
  exact nil_walk _ _ _ _ _ _ _ _ _ _ w

end Go.Proofs.Ytckokehpdgjacaa
