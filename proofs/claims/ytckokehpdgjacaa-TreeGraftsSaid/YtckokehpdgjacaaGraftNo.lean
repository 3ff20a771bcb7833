/-
  Contract of the program's Graft: where it refuses.
-/
import Derived.Test.YtckokehpdgjacaaGraf
namespace Go.Proofs.Ytckokehpdgjacaa
open Go.RowKit Pl
set_option linter.unusedVariables false

set_option maxHeartbeats 1000000 in
theorem graft_no {w : World} {a a' : Option Addr} {cap cap' : Nat} {l m : List NodeV} {L M : List PNode} (hl : RNodes w a cap l) (hm : RNodes w a' cap' m) (hL : RP w l L) (hM : RP w m M)
    (i : Int) (hbad : ¬ (checkP L = 0 ∧ checkP M = 0)) :
    Calls Try.prog 39 #[.slice a l.length cap, .int .i64 i, .slice a' m.length cap'] w fun e w' => e = .returned (.tuple #[.slice none 0 0, .int .i64 34]) ∧ Below w.heap.size w w' := by
  have HC1 := Lib.hid (fun W (h : Below w.heap.size w W) => by have := check_p (hl.grow h) (hL.nodesX.grow h); rw [hL.check] at this; exact this)
  have HC2 := Lib.hid (fun W (h : Below w.heap.size w W) => by have := check_p (hm.grow h) (hM.nodesX.grow h); rw [hM.check] at this; exact this)
  clear hl hm hL hM
  have hb0 : Below w.heap.size w (w.alloc (.cells #[.int .i64 i] 3)) := balloc (Below.refl _ _) _
  generalize checkP L = c1 at *
  generalize checkP M = c2 at *
  by_cases h1 : c1 = 0
  · subst h1
    have hz : (c2 != 0) = true := by simpa using hbad
    clear hbad
    go_enter Try.func39, Try.ntmps39
    go_wp2_with (go_at_call 28; first
      | (refine (HC1.out _ hb0).mono ?_; clear HC1; rintro e w1 ⟨rfl, h1⟩; have hb1 := bseq hb0 h1)
      | (refine (HC2.out _ hb1).mono ?_; clear HC2; rintro e w2 ⟨rfl, h2⟩; have hb2 := bseq hb1 h2))
    go_ret2
    exact ⟨rfl, hb2⟩
  · have hz : (c1 != 0) = true := by simpa using h1
    clear hbad h1
    go_enter Try.func39, Try.ntmps39
    go_wp2_with (go_at_call 28; refine (HC1.out _ hb0).mono ?_; rintro e w1 ⟨rfl, h1⟩; have hb1 := bseq hb0 h1)
    go_ret2
    exact ⟨rfl, hb1⟩

set_option maxHeartbeats 1000000 in
theorem graft_arg {w : World} {a a' : Option Addr} {cap cap' : Nat} {l m : List NodeV} {L M : List PNode} (hl : RNodes w a cap l) (hm : RNodes w a' cap' m) (hL : RP w l L) (hM : RP w m M)
    (i : Int) (c1 : checkP L = 0) (c2 : checkP M = 0) (hbad : i < 0 ∨ (l.length : Int) ≤ i ∨ ∃ k : Nat, i = k ∧ ∃ h : k < l.length, l[k].tag.toList.isEmpty = true) :
    Calls Try.prog 39 #[.slice a l.length cap, .int .i64 i, .slice a' m.length cap'] w fun e w' => e = .returned (.tuple #[.slice none 0 0, .int .i64 1]) ∧ Below w.heap.size w w' := by
  have HC1 := Lib.hid (fun W (h : Below w.heap.size w W) => by have := check_p (hl.grow h) (hL.nodesX.grow h); rw [hL.check, c1] at this; exact this)
  have HC2 := Lib.hid (fun W (h : Below w.heap.size w W) => by have := check_p (hm.grow h) (hM.nodesX.grow h); rw [hM.check, c2] at this; exact this)
  have hsm := hl.sm
  have hb0 : Below w.heap.size w (w.alloc (.cells #[.int .i64 i] 3)) := balloc (Below.refl _ _) _
  by_cases hin : 0 ≤ i ∧ i < l.length
  · obtain ⟨k, rfl, hk, htag⟩ : ∃ k : Nat, i = k ∧ ∃ h : k < l.length, l[k].tag.toList.isEmpty = true := by
      rcases hbad with h | h | h
      · omega
      · omega
      · exact h
    have hii : (decide ((0 : Int) ≤ (k : Int)) && decide ((k : Int) < (l.length : Int))) = true := by simp; omega
    obtain ⟨b, off, rfl, hb, hc⟩ := hl.at (fun e => by rw [e] at hk; simp at hk)
    obtain ⟨_, d1, _⟩ := hc k hk
    clear hc hl hm hL hM c1 c2 hbad
    generalize hty : l[k].tag = ty at *
    clear hty
    go_enter Try.func39, Try.ntmps39
    go_wp2_with (first
      | (go_at_call 28; first
        | (refine (HC1.out _ hb0).mono ?_; clear HC1; rintro e w1 ⟨rfl, h1⟩; have hb1 := bseq hb0 h1)
        | (refine (HC2.out _ hb1).mono ?_; clear HC2; rintro e w2 ⟨rfl, h2⟩; have hb2 := bseq hb1 h2; have h02 := bseq h1 h2; have q0 : w2.cell? ⟨w.heap.size, 0, none⟩ = some (.int .i64 k) := (h02.cell (p := ⟨w.heap.size, 0, none⟩) (by simp)).trans (by simp); have t1 := (hb2.cell (p := ⟨b, off + k * 6 + 1, none⟩) hb).trans d1))
      | (go_at_call 72; refine (is_p _ _ _ _ _).mono ?_; rintro e w' ⟨rfl, rfl⟩))
    go_ret2
    exact ⟨rfl, hb2⟩
  · have hii : (decide ((0 : Int) ≤ i) && decide (i < (l.length : Int))) = false := by simp; omega
    clear hl hm hL hM c1 c2 hbad
    go_enter Try.func39, Try.ntmps39
    go_wp2_with (first
      | (go_at_call 28; first
        | (refine (HC1.out _ hb0).mono ?_; clear HC1; rintro e w1 ⟨rfl, h1⟩; have hb1 := bseq hb0 h1)
        | (refine (HC2.out _ hb1).mono ?_; clear HC2; rintro e w2 ⟨rfl, h2⟩; have hb2 := bseq hb1 h2; have h02 := bseq h1 h2; have q0 : w2.cell? ⟨w.heap.size, 0, none⟩ = some (.int .i64 i) := (h02.cell (p := ⟨w.heap.size, 0, none⟩) (by simp)).trans (by simp)))
      | (go_at_call 72; refine (is_p _ _ _ _ _).mono ?_; rintro e w' ⟨rfl, rfl⟩))
    go_ret2
    exact ⟨rfl, hb2⟩

end Go.Proofs.Ytckokehpdgjacaa
