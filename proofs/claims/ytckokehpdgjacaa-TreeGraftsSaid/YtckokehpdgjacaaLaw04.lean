/-
  Layer 4's laws: what must come of fixed calls.
-/
import Derived.Test.YtckokehpdgjacaaTree7
import Derived.Test.YtckokehpdgjacaaNames
namespace Go.Proofs.Ytckokehpdgjacaa
open Go.RowKit Pl
set_option linter.unusedVariables false

theorem few04 (a : Option Addr) (n cap : Nat) (w : World) (hn : n ≤ 17592186044416) : Calls Try.prog 27 #[.slice a n cap] w fun e w' => e = .returned (.bool (decide (n ≤ 200) || decide (1024 < n))) ∧ w = w' := by
  by_cases h : n ≤ 200
  · have hd : decide ((n : Int) ≤ 200) = true := by simp; omega
    go_enter Try.func27, Try.ntmps27
    go_wp2
    go_ret
    exact ⟨ret_bool (by simp [h]), rfl⟩
  · have hd : decide ((n : Int) ≤ 200) = false := by simp; omega
    go_enter Try.func27, Try.ntmps27
    go_wp2
    go_ret
    exact ⟨ret_bool (by rw [Bool.eq_iff_iff]; simp; omega), rfl⟩

def k4 : List NodeV := [⟨-1, ⟨#[97]⟩, ⟨#[]⟩, .slice none 0 0, .slice none 0 0, ⟨#[]⟩⟩, ⟨0, ⟨#[98]⟩, ⟨#[]⟩, .slice none 0 0, .slice none 0 0, ⟨#[]⟩⟩,
  ⟨1, ⟨#[]⟩, ⟨#[]⟩, .slice none 0 0, .slice none 0 0, ⟨#[120]⟩⟩, ⟨0, ⟨#[99]⟩, ⟨#[]⟩, .slice none 0 0, .slice none 0 0, ⟨#[]⟩⟩]
def noC : Nat → List ByteArray := fun _ => []
def noA : Nat → List AttrV := fun _ => []
theorem Rows.nil0 {α : Type} (cells : α → List Value) (s : Nat) (w : World) : Rows cells s w none 0 ([] : List α) :=
  ⟨Nat.le_refl _, by omega, by simp, fun _ => rfl, fun h => absurd rfl h⟩
theorem sz1 {n : Nat} (h : n ≤ 1) : n ≤ maxLen := Nat.le_trans h (by unfold maxLen; omega)
theorem k4_x (w : World) : NodesX w k4 noC noA := ⟨fun k hk => by
  have h : k = 0 ∨ k = 1 ∨ k = 2 ∨ k = 3 := by have : k4.length = 4 := rfl; omega
  rcases h with rfl | rfl | rfl | rfl <;>
  refine ⟨sz1 (of_decide_eq_true rfl), sz1 (of_decide_eq_true rfl), sz1 (of_decide_eq_true rfl), ⟨none, 0, rfl, Rows.nil0 _ _ _⟩, ⟨none, 0, rfl, Rows.nil0 _ _ _⟩, fun c h => by simp [noC] at h, fun c h => by simp [noA] at h⟩⟩
theorem k4_check : checkV k4 noC noA = 0 := by decide +kernel
theorem k4_depth : depthI (par k4) k4.length 2 = 3 := by decide +kernel
theorem k4_kids : kidsI (par k4) k4.length 0 = [1, 3] := by decide +kernel
theorem k4_end : endI (par k4) k4.length 1 = 3 := by decide +kernel
theorem k4_n1 : nameL (⟨#[97, 45, 49]⟩ : ByteArray).data.toList = true := by decide +kernel
theorem k4_n2 : nameL (⟨#[45]⟩ : ByteArray).data.toList = false := by decide +kernel

theorem four04 (w : World) : Calls Try.prog 67 #[] w fun e w' => e = .returned (.slice (some ⟨w.heap.size, 0, none⟩) 4 4) ∧ w' = w.alloc (.cells (k4.map NodeV.cells).flatten.toArray 54) := by
  go_enter Try.func67, Try.ntmps67
  go_wp2_with fail
  go_ret
  exact ⟨rfl, rfl⟩

set_option maxHeartbeats 1000000 in
theorem known04 (w : World) : Calls Try.prog 26 #[] w fun e w' => e = .returned (.bool true) ∧ Below w.heap.size w w' := by
  have hb : Below w.heap.size w (w.alloc (.cells (k4.map NodeV.cells).flatten.toArray 54)) := balloc (Below.refl _ _) _
  have hl := Rows.fresh (cells := NodeV.cells) (s := 6) w 54 k4 (by simp [k4, NodeV.cells]) (by decide)
  have hX := k4_x (w.alloc (.cells (k4.map NodeV.cells).flatten.toArray 54))
  have F := four04 w
  generalize w.alloc (.cells (k4.map NodeV.cells).flatten.toArray 54) = w0 at *
  have H0 := Lib.hid F; clear F
  have H1 := Lib.hid (by have := check_p hl hX; rw [k4_check] at this; exact this)
  have H2 := Lib.hid (fun W (h : Below w0.heap.size w0 W) => by have := depth_p (hl.grow h) 2; rw [k4_depth] at this; exact this)
  have H3 := Lib.hid (fun W (h : Below w0.heap.size w0 W) => by have := kids_p (hl.grow h) 0; rw [k4_kids] at this; exact this)
  have H4 := Lib.hid (fun W (h : Below w0.heap.size w0 W) => by have := end_p (hl.grow h) 1; rw [k4_end] at this; exact this)
  have H5 := Lib.hid (fun W => by have := name_p ⟨#[97, 45, 49]⟩ W (by decide +kernel); rw [k4_n1] at this; exact this)
  have H6 := Lib.hid (fun W => by have := name_p ⟨#[45]⟩ W (by decide +kernel); rw [k4_n2] at this; exact this)
  have flag5 : Hid True := Lib.hid trivial
  clear hl hX
  go_enter Try.func26, Try.ntmps26
  go_wp2_with (first
    | (go_at_call 67; refine H0.out.mono ?_; rintro e w1 ⟨rfl, rfl⟩)
    | (go_at_call 28; refine H1.out.mono ?_; rintro e w1 ⟨rfl, h1⟩)
    | (go_at_call 30; refine (H2.out _ h1).mono ?_; rintro e w2 ⟨rfl, h2⟩; have hb2 := bseq h1 h2)
    | (go_at_call 35; refine (H3.out _ hb2).mono ?_; rintro e w3 ⟨b3, c3, rfl, hr3, h3⟩; have hb3 := bseq hb2 h3; have HR := Lib.hid hr3)
    | (go_at_call 32; refine (ints_r (ys := [1, 3]) (HR.out.later _) (Rows.fresh _ _ [1, 3] (by simp [cInt]) (by decide))).mono ?_; rintro e w4 ⟨rfl, h4⟩; have hb4 := bseq (balloc hb3 _) h4)
    | (go_at_call 37; refine (H4.out _ hb4).mono ?_; rintro e w' ⟨rfl, rfl⟩)
    | (go_at_call 22; first | (clear flag5; refine (H5.out _).mono ?_; rintro e w' ⟨rfl, rfl⟩) | (refine (H6.out _).mono ?_; rintro e w' ⟨rfl, rfl⟩)))
  go_ret
  exact ⟨rfl, hb.trans (hb4.mono hb.size)⟩

end Go.Proofs.Ytckokehpdgjacaa
