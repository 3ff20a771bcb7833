/-
  Layer 15's laws: what must come of fixed calls.
-/
import Derived.Test.YtjljlcflmcjapaaHolder2
namespace Go.Proofs.Ytjljlcflmcjapaa
open Go.RowKit Pl
set_option linter.unusedVariables false

theorem few15 (a : Option Addr) (n cap : Nat) (w : World) : Calls Try.prog 36 #[.slice a n cap] w fun e w' => e = .returned (.bool (decide (n ≤ 100))) ∧ w = w' := by
  go_enter Try.func36, Try.ntmps36
  go_wp2
  go_ret
  exact ⟨ret_bool (by simp; omega), rfl⟩

def kl : List NodeV := [⟨-1, ⟨#[97]⟩, ⟨#[]⟩, .slice none 0 0, .slice none 0 0, ⟨#[]⟩⟩, ⟨0, ⟨#[98]⟩, ⟨#[]⟩, .slice none 0 0, .slice none 0 0, ⟨#[]⟩⟩, ⟨1, ⟨#[99]⟩, ⟨#[]⟩, .slice none 0 0, .slice none 0 0, ⟨#[]⟩⟩]
def kx : List ExtV := [⟨2, ⟨#[]⟩, 10, 20⟩, ⟨1, ⟨#[]⟩, 30, 40⟩, ⟨0, ⟨#[]⟩, 0, 0⟩]
theorem kx_w : baseW (par kl) kl.length kx 2 1 = 30 := by decide +kernel
theorem kx_h : baseH (par kl) kl.length kx 2 1 = 20 := by decide +kernel
theorem kx_n : firstUpI (par kl) kl.length (fitsP kx ⟨#[]⟩) 2 = 1 := by decide +kernel
theorem kx_m : meas 2 1500 1 0 0 0 = 96 := by decide +kernel

theorem known15 (w : World) : Calls Try.prog 37 #[] w fun e w' => e = .returned (.bool true) ∧ Below w.heap.size w w' := by
  have hb : Below w.heap.size w ((w.alloc (.cells (kl.map NodeV.cells).flatten.toArray 94)).alloc (.cells (kx.map ExtV.cells).flatten.toArray 31)) := ((Below.refl _ _).alloc (Nat.le_refl _) _).alloc (by simp) _
  have hl := (Rows.fresh (cells := NodeV.cells) (s := 6) w 94 kl (by simp [kl, NodeV.cells]) (by decide)).later (.cells (kx.map ExtV.cells).flatten.toArray 31)
  have hx := Rows.fresh (cells := ExtV.cells) (s := 4) (w.alloc (.cells (kl.map NodeV.cells).flatten.toArray 94)) 31 kx (by simp [kx, ExtV.cells]) (by decide)
  rw [show (w.alloc (.cells (kl.map NodeV.cells).flatten.toArray 94)).heap.size = w.heap.size + 1 by simp] at hx
  have C1 := bases_p hl hx 2 1 1
  rw [kx_w, kx_h] at C1
  have C2 := fun W' (h : Below _ _ W') => nearest_name_p (hl.grow h) (hx.grow h) 2 ⟨#[]⟩
  rw [kx_n] at C2
  have C3 := fun W' => meas_p 2 1500 1 0 0 0 ⟨#[]⟩ W'
  rw [kx_m] at C3
  have H1 := Lib.hid C1; have H2 := Lib.hid C2; have H3 := Lib.hid C3; clear C1 C2 C3 hl hx
  go_enter Try.func37, Try.ntmps37
  go_wp2_with fail
  refine H1.out.mono ?_
  rintro e w1 ⟨rfl, h1⟩
  go_wp2_with (first
    | (go_at_call 64; refine (H2.out _ h1).mono ?_; rintro e w2 ⟨rfl, h2⟩)
    | (go_at_call 65; refine (H3.out _).mono ?_; rintro e w3 ⟨rfl, h3⟩))
  go_ret
  exact ⟨rfl, ((hb.trans (h1.mono hb.size)).trans (h2.mono (Nat.le_trans hb.size h1.size))).trans (h3.mono (Nat.le_trans (Nat.le_trans hb.size h1.size) h2.size))⟩

end Go.Proofs.Ytjljlcflmcjapaa
