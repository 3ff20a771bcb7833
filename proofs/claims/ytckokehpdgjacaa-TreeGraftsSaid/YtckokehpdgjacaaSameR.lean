/-
  Contracts of the reference's SameTexts, Like and Same, where both lists are the same.
-/
import Derived.Test.YtckokehpdgjacaaGraf
namespace Go.Proofs.Ytckokehpdgjacaa
open Go.RowKit Pl
set_option linter.unusedVariables false

set_option maxHeartbeats 1000000 in
theorem sametexts_r {w : World} {a a' : Option Addr} {cap cap' : Nat} {xs : List ByteArray} (hx : RStrs w a cap xs) (hy : RStrs w a' cap' xs) :
    Calls Try.prog 91 #[.slice a xs.length cap, .slice a' xs.length cap'] w fun e w' => e = .returned (.bool true) ∧ Below w.heap.size w w' := by
  have hsm := hx.sm
  have HX := Lib.hid hx; have HY := Lib.hid hy; clear hx hy
  go_enter Try.func91, Try.ntmps91
  go_wp2_with fail
  go_loopw [5] (fun t wr => ∃ k : Nat, t = .int .i64 k ∧ k ≤ xs.length ∧ Below w.heap.size w wr) (fun t _ => xs.length - (intOf t).toNat)
  case atStart => exact ⟨0, rfl, Nat.zero_le _, Below.refl _ _⟩
  case round =>
    obtain ⟨k, rfl, hk, hb⟩ := hrel
    by_cases hlt : k < xs.length
    · obtain ⟨b1, o1, rfl, hb1, hc1⟩ := RStrs.at (HX.out.grow hb) (by intro e; rw [e] at hlt; simp at hlt)
      obtain ⟨b2, o2, rfl, hb2, hc2⟩ := RStrs.at (HY.out.grow hb) (by intro e; rw [e] at hlt; simp at hlt)
      have q1 := hc1 k hlt
      have q2 := hc2 k hlt
      clear hc1 hc2
      generalize xs[k] = x at *
      have p1 : (0 : Int) ≤ (k : Int) := by omega
      have p2 : (k : Int) < (xs.length : Int) := by omega
      go_wp2_with fail
      refine wp_region_ext (by kernel_rfl) (by kernel_rfl) ?_
      repeat (go_big_quiet_step (fail))
      refine wpQuiet_nil ?_
      rintro _ ⟨u, rfl⟩
      go_wp2_with fail
      go_roundw
      case rel => exact ⟨k + 1, by go_num, by omega, bseq hb (wext_below _ _)⟩
      case measure => simp [intOf] <;> omega
    · go_wp2_with fail
      go_ret
      exact ⟨rfl, hb⟩

theorem eqFields_step {P : Program} {w : World} {d : Nat} {xs ys : Array Value} {f : Field} {fs : List Field} {a b : Value} {r : Bool} (n : f.name ≠ "_") (pa : (part f.type xs f.offset).run P w = .ok a w) (pb : (part f.type ys f.offset).run P w = .ok b w)
    (he : (Op.equalIn d f.type a b).run P w = .ok r w) : (Op.eqFields d xs ys (f :: fs)).run P w = if r then (Op.eqFields d xs ys fs).run P w else .ok false w := by
  simp only [Op.eqFields, n, ne_eq, not_false_eq_true, if_true, Sem.run_bind, pa, pb, Result.andThen_ok, he, Sem.run_ite]
  cases r <;> simp

theorem attr_neq (y : AttrV) (w : World) : (binOp BinOp.neq 92 (.agg #[.string y.name, .string y.value]) (.agg #[.string y.name, .string y.value])).run Try.prog w = .ok (.bool false) w := by
  have h1 : Try.prog.underlying 92 = some (.struct (Try.prog.fieldsOf 92)) := by kernel_rfl
  have h2 : Try.prog.stoodInHeld 92 = false := by kernel_rfl
  rw [run_neq_struct, show (10000 : Nat) = 9999 + 1 from rfl, run_equalIn_agg w 9999 _ _ _ h1 h2]
  have h3 : (Try.prog.fieldsOf 92).toList = [(Try.prog.fieldsOf 92).toList[0]!, (Try.prog.fieldsOf 92).toList[1]!] := by kernel_rfl
  have p0 : ∀ w, (part ((Try.prog.fieldsOf 92).toList[0]!).type #[.string y.name, .string y.value] ((Try.prog.fieldsOf 92).toList[0]!).offset).run Try.prog w = .ok (.string y.name) w := fun w => by kernel_rfl
  have p1 : ∀ w, (part ((Try.prog.fieldsOf 92).toList[1]!).type #[.string y.name, .string y.value] ((Try.prog.fieldsOf 92).toList[1]!).offset).run Try.prog w = .ok (.string y.value) w := fun w => by kernel_rfl
  have n0 : ((Try.prog.fieldsOf 92).toList[0]!).name ≠ "_" := by decide +kernel
  have n1 : ((Try.prog.fieldsOf 92).toList[1]!).name ≠ "_" := by decide +kernel
  have t0 : Try.prog.underlying ((Try.prog.fieldsOf 92).toList[0]!).type = some .string := by kernel_rfl
  have t1 : Try.prog.underlying ((Try.prog.fieldsOf 92).toList[1]!).type = some .string := by kernel_rfl
  generalize (Try.prog.fieldsOf 92).toList[0]! = f0 at *
  generalize (Try.prog.fieldsOf 92).toList[1]! = f1 at *
  rw [h3, eqFields_step n0 (p0 w) (p0 w) (run_equalIn_string w 9998 _ _ _ t0), eqFields_step n1 (p1 w) (p1 w) (run_equalIn_string w 9998 _ _ _ t1)]
  simp [Op.eqFields]

set_option maxHeartbeats 2000000 in
theorem like_r {w : World} {ac aa ac' aa' : Option Addr} {cc ca cc' ca' : Nat} {cs : List ByteArray} {ats : List AttrV} (hc : RStrs w ac cc cs) (ha : RAttrs w aa ca ats) (hc' : RStrs w ac' cc' cs) (ha' : RAttrs w aa' ca' ats) (p p' : Int) (t d x : ByteArray) :
    Calls Try.prog 78 #[.agg #[.int .i64 p, .string t, .string d, .slice ac cs.length cc, .slice aa ats.length ca, .string x], .agg #[.int .i64 p', .string t, .string d, .slice ac' cs.length cc', .slice aa' ats.length ca', .string x]] w
      fun e w' => e = .returned (.bool true) ∧ Below w.heap.size w w' := by
  have hsm := ha.sm
  have HS := Lib.hid (fun W (h : Below w.heap.size w W) => sametexts_r (hc.grow h) (hc'.grow h))
  have HX := Lib.hid ha; have HY := Lib.hid ha'; clear hc hc' ha ha'
  have hnq := @attr_neq
  have hb0 := balloc (balloc (Below.refl w.heap.size w) (.cells #[.int .i64 p, .string t, .string d, .slice ac cs.length cc, .slice aa ats.length ca, .string x] 54)) (.cells #[.int .i64 p', .string t, .string d, .slice ac' cs.length cc', .slice aa' ats.length ca', .string x] 54)
  go_enter Try.func78, Try.ntmps78
  go_wp2_with (go_at_call 91; refine (HS.out _ hb0).mono ?_; rintro e w1 ⟨rfl, h1⟩; have hb1 := bseq hb0 h1; have hcc := bcell h1)
  have g4 : w1.cell? ⟨w.heap.size, 4, none⟩ = some (.slice aa ats.length ca) := by
    have hA := (h1.block w.heap.size (by simp; omega)).trans (((balloc (Below.refl (w.alloc (.cells #[.int .i64 p, .string t, .string d, .slice ac cs.length cc, .slice aa ats.length ca, .string x] 54)).heap.size _) _).block w.heap.size (by simp)).trans (heap_alloc_new w _))
    exact (box6 hA).1.2.2.2.2.1
  have g4' : w1.cell? ⟨w.heap.size + 1, 4, none⟩ = some (.slice aa' ats.length ca') := by
    have hB0 : ((w.alloc (.cells #[.int .i64 p, .string t, .string d, .slice ac cs.length cc, .slice aa ats.length ca, .string x] 54)).alloc (.cells #[.int .i64 p', .string t, .string d, .slice ac' cs.length cc', .slice aa' ats.length ca', .string x] 54)).heap[w.heap.size + 1]? = some (.cells #[.int .i64 p', .string t, .string d, .slice ac' cs.length cc', .slice aa' ats.length ca', .string x] 54 (0, 0)) := by
      have := heap_alloc_new (w.alloc (.cells #[.int .i64 p, .string t, .string d, .slice ac cs.length cc, .slice aa ats.length ca, .string x] 54)) (.cells #[.int .i64 p', .string t, .string d, .slice ac' cs.length cc', .slice aa' ats.length ca', .string x] 54)
      simpa using this
    have hB := (h1.block (w.heap.size + 1) (by simp)).trans hB0
    exact (box6 hB).1.2.2.2.2.1
  have z1 : w.heap.size + 1 < w1.heap.size := Nat.lt_of_lt_of_le (by simp) h1.size
  clear hcc h1 hb0
  go_loopw [5] (fun t wr => ∃ k : Nat, t = .int .i64 k ∧ k ≤ ats.length ∧ Below w1.heap.size w1 wr) (fun t _ => ats.length - (intOf t).toNat)
  case atStart => exact ⟨0, rfl, Nat.zero_le _, Below.refl _ _⟩
  case round =>
    obtain ⟨k, rfl, hk, hb⟩ := hrel
    have k4 := (hb.cell (p := ⟨w.heap.size, 4, none⟩) (show w.heap.size < w1.heap.size by omega)).trans g4
    have k4' := (hb.cell (p := ⟨w.heap.size + 1, 4, none⟩) z1).trans g4'
    have z2 : w.heap.size + 1 < wr.heap.size := Nat.lt_of_lt_of_le z1 hb.size
    have z3 : w.heap.size < wr.heap.size := by omega
    clear g4 g4'
    by_cases hlt : k < ats.length
    · obtain ⟨b1, o1, rfl, hb1', hc1⟩ := RAttrs.at (HX.out.grow (bseq hb1 hb)) (by intro e; rw [e] at hlt; simp at hlt)
      obtain ⟨b2, o2, rfl, hb2', hc2⟩ := RAttrs.at (HY.out.grow (bseq hb1 hb)) (by intro e; rw [e] at hlt; simp at hlt)
      obtain ⟨q1, q2⟩ := hc1 k hlt
      obtain ⟨q3, q4⟩ := hc2 k hlt
      clear hc1 hc2
      have hny := attr_neq ats[k]
      clear hnq
      generalize ats[k] = y at *
      have p1 : (0 : Int) ≤ (k : Int) := by omega
      have p2 : (k : Int) < (ats.length : Int) := by omega
      go_wp2_with fail
      refine wp_region_ext (by kernel_rfl) (by kernel_rfl) ?_
      repeat (go_big_quiet_step (fail))
      refine wpQuiet_nil ?_
      rintro _ ⟨u, rfl⟩
      go_wp2_with fail
      go_roundw
      case rel => exact ⟨k + 1, by go_num, by omega, bseq hb (wext_below _ _)⟩
      case measure => simp [intOf] <;> omega
    · go_wp2_with fail
      go_ret
      exact ⟨rfl, bseq hb1 hb⟩

set_option maxHeartbeats 2000000 in
theorem same_nodes {w : World} {a a' : Option Addr} {cap cap' : Nat} {l m : List NodeV} {L : List PNode} (hl : RNodes w a cap l) (hm : RNodes w a' cap' m) (hL : RP w l L) (hM : RP w m L) :
    Calls Try.prog 41 #[.slice a l.length cap, .slice a' m.length cap'] w fun e w' => e = .returned (.bool true) ∧ Below w.heap.size w w' := by
  have hsm := hl.sm
  have hlL := hL.len
  have hmL := hM.len
  rw [hlL] at hsm
  have GL := Lib.hid (fun h0 => node_at hl hL h0)
  have GM := Lib.hid (fun h0 => node_at hm hM h0)
  rw [hlL, hmL]
  clear hl hm hL hM hlL hmL
  go_enter Try.func41, Try.ntmps41
  go_wp2_with fail
  go_loopw [5] (fun t wr => ∃ k : Nat, t = .int .i64 k ∧ k ≤ L.length ∧ Below w.heap.size w wr) (fun t _ => L.length - (intOf t).toNat)
  case atStart => exact ⟨0, rfl, Nat.zero_le _, Below.refl _ _⟩
  case round =>
    obtain ⟨k, rfl, hk, hb⟩ := hrel
    by_cases hlt : k < L.length
    · obtain ⟨b1, o1, rfl, hb1, hc1⟩ := GL.out (by omega)
      obtain ⟨b2, o2, rfl, hb2, hc2⟩ := GM.out (by omega)
      obtain ⟨ac, aa, cc, ca, n1⟩ := hc1 k hlt
      obtain ⟨ac', aa', cc', ca', n2⟩ := hc2 k hlt
      have m1 := n1.grow hb1 hb
      have m2 := n2.grow hb2 hb
      have HLk := Lib.hid (fun W (h : Below wr.heap.size wr W) => like_r (m1.rc.grow h) (m1.ra.grow h) (m2.rc.grow h) (m2.ra.grow h) L[k].parent L[k].parent L[k].tag L[k].id L[k].text)
      obtain ⟨d0, d1, d2, d3, d4, d5⟩ := (show _ ∧ _ ∧ _ ∧ _ ∧ _ ∧ _ from ⟨m1.d0, m1.d1, m1.d2, m1.d3, m1.d4, m1.d5⟩)
      obtain ⟨f0, f1, f2, f3, f4, f5⟩ := (show _ ∧ _ ∧ _ ∧ _ ∧ _ ∧ _ from ⟨m2.d0, m2.d1, m2.d2, m2.d3, m2.d4, m2.d5⟩)
      have z1 := Nat.lt_of_lt_of_le hb1 hb.size
      have z2 := Nat.lt_of_lt_of_le hb2 hb.size
      clear hc1 hc2 n1 n2 m1 m2
      generalize L[k] = P at *
      have p1 : (0 : Int) ≤ (k : Int) := by omega
      have p2 : (k : Int) < (L.length : Int) := by omega
      go_wp2_with fail
      refine wp_region_ext (by kernel_rfl) (by kernel_rfl) ?_
      repeat (go_big_quiet_step ((go_at_call 78; exact ext_of (HLk.out _ (wext_below _ _)))))
      refine wpQuiet_nil ?_
      rintro _ ⟨u, rfl⟩
      go_wp2_with fail
      go_roundw
      case rel => exact ⟨k + 1, by go_num, by omega, bseq hb (wext_below _ _)⟩
      case measure => simp [intOf] <;> omega
    · go_wp2_with fail
      go_ret
      exact ⟨rfl, hb⟩

end Go.Proofs.Ytckokehpdgjacaa
