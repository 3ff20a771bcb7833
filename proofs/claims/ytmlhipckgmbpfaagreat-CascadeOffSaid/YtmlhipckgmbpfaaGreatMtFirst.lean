/-
  Has an element a sibling ahead?
-/
import Derived.Test.YtmlhipckgmbpfaaGreatMtIt3
namespace Go.Proofs.YtmlhipckgmbpfaaGreat
open Go Go.RowKit Pl
set_option linter.unusedVariables false
set_option linter.unusedSimpArgs false
attribute [local go_sem] Oper.semAt_some

theorem results_cell1 {P : Program} {fn : Func} {p : Tmp} {ty : TypeId} (h : fn.results = #[.cell p ty]) (tmps : Array Value) (w : World) (g : Nat) (v : Value) (hp : tmps.getD p undef = .pointer (some ⟨g, 0, none⟩)) (hc : w.cell? ⟨g, 0, none⟩ = some v) (ha : Sy.aggT P ty = some false) :
    (results fn tmps).run P w = .ok v w := by
  have hp' : tmps[p]?.getD undef = .pointer (some ⟨g, 0, none⟩) := by simpa using hp
  simp [results, h, hp', asAddr, Sy.run_loadVar_one ha hc]

set_option maxRecDepth 100000 in
set_option maxHeartbeats 2000000 in
theorem mfirst {w : World} {a : Option Addr} {cap : Nat} {rs : List NRow} (hl : Doc w a cap rs) (i : Nat) (hi : i < rs.length) :
    Calls Tryz.prog 144 #[.slice a rs.length cap, .int .i64 i] w fun e w' => e = .returned (.bool (aheadV (npar rs) (nel rs) i).isEmpty) ∧ Below w.heap.size w w' := by
  refine (callsIn_wide (n := 4)).1 ?_
  have ma := mahead (hl.grow ((Below.refl _ w).alloc (Nat.le_refl _) (.cells #[.bool false] 4))) i hi
  generalize aheadV (npar rs) (nel rs) i = ks at *
  clear hl
  refine callsIn_of_wp_marks Tryz.func144 rfl trivial ?_ rfl
  simp only [Tryz.ntmps144, List.size_toArray, List.length_cons, List.length_nil, Nat.reduceAdd, Nat.reduceSub, Array.replicate_succ, Array.replicate_zero, List.push_toArray, List.append_toArray, List.nil_append, List.cons_append]
  gi_wp2_with (refine ⟨trivial, ?_⟩; gi_at_call 123; refine (callsIn_wide.2 ma).mono ?_; clear ma; rintro e w2 ⟨lb, rfl, hb2, hseq⟩)
  have hbW : Below w.heap.size w w2 := ((Below.refl _ w).alloc (Nat.le_refl _) _).trans (hb2.mono (by simp))
  have zW : w.heap.size < w2.heap.size := by have := hb2.size; simp at this; omega
  have cB : w2.cell? ⟨w.heap.size, 0, none⟩ = some (.bool false) := by rw [hb2.cell (p := ⟨w.heap.size, 0, none⟩) (by simp)]; simp
  have fB : w2.frozen? ⟨w.heap.size, 0, none⟩ = false := by rw [hb2.frozen (p := ⟨w.heap.size, 0, none⟩) (by simp)]; simp
  clear hb2
  refine wpIn_rangeFunc_O (by omega) (gf := 150) (lb := lb) rfl (enters Tryz.func150 (by kernel_rfl) rfl) hseq (Nat.le_refl _) (Below.refl _ _) rfl
    (fun pre W' => pre = [] ∧ (W'.cell? ⟨w.heap.size, 0, none⟩ = some (.bool false) ∧ W'.frozen? ⟨w.heap.size, 0, none⟩ = false) ∧ Below w.heap.size w W')
    (fun c pre W' => (c = .ret ∧ pre ≠ []) ∧ W'.cell? ⟨w.heap.size, 0, none⟩ = some (.bool false) ∧ Below w.heap.size w W')
    (fun s A C row hs hg hr => ⟨hs.1, ⟨cell_kept hs.2.1.1 hg (fun r e => (hr r e).2), (frozen_kept hs.2.1.1 hg (fun r e => (hr r e).2)).trans hs.2.1.2⟩, ownFrom_below (β := Unit) (Nat.le_refl _) (Nat.le_of_lt zW) () A C row hs.2.2 hg hr⟩)
    (fun c s A C row hs hg hr => ⟨hs.1, cell_kept hs.2.1 hg (fun r e => (hr r e).2), ownFrom_below (β := Unit) (Nat.le_refl _) (Nat.le_of_lt zW) () A C row hs.2.2 hg hr⟩)
    ⟨rfl, ⟨cB, fB⟩, hbW⟩
    (fun x => { tmps := #[.slice a rs.length cap, .int .i64 i, undef, undef, .pointer (some ⟨w.heap.size, 0, none⟩), .slice a rs.length cap, .int .i64 i, .func (.func 150) #[] lb, .int .i64 (x : Int)], defers := [] }) ?assign ?body ?done ?stop
  case assign =>
    intro l' x W3 K hK
    gi_wp2
    simpa using hK
  case body =>
    rintro l' pre x W3 hl' _ ⟨rfl, ⟨c3, f3⟩, hB⟩ hpre
    gi_wp2
    exact ⟨(KeepsOthers.setCell _ _ _).from _, ⟨rfl, by simp⟩, World.cell?_setCell_same' _ _ _ (by rw [c3]; rfl), hB.setCell (p := ⟨w.heap.size, 0, none⟩) (Nat.le_refl _) _⟩
  case done =>
    rintro D W3 hD ⟨rfl, ⟨c3, f3⟩, hB⟩ hK
    gi_wp2
    have hK' : (W3.setCell ⟨w.heap.size, 0, none⟩ (.bool true)).heap[D]? = some (.deferred (some [])) := (KeepsOthers.setCell _ _ _).same D _ hK rfl
    refine ⟨by simp, .inl ⟨_, _, rfl, run_takeDeferred hK', ?_⟩⟩
    refine ⟨_, results_cell1 rfl _ _ w.heap.size (.bool true) rfl ?_ (by kernel_rfl), rfl, ?_⟩
    · exact cell_kept (World.cell?_setCell_same' _ _ _ (by rw [c3]; rfl)) (grownBy_putObj' _ D (.deferred none)) (fun r e => by cases e; exact ⟨_, hK', rfl⟩)
    · exact (hB.setCell (p := ⟨w.heap.size, 0, none⟩) (Nat.le_refl _) _).trans (belowK_b (w := w) (Nat.le_refl _) _ D _ _ (by omega) hK' rfl rfl)
  case stop =>
    rintro D c pre W3 hD hpre ⟨⟨rfl, hne⟩, c3, hB⟩ hK
    gi_wp2
    refine ⟨by simp, .inl ⟨_, _, rfl, run_takeDeferred hK, ?_⟩⟩
    have hks : ks.isEmpty = false := by
      obtain ⟨t, ht⟩ := hpre
      rw [← ht]
      cases pre with
      | nil => exact absurd rfl hne
      | cons y t => rfl
    refine ⟨_, results_cell1 rfl _ _ w.heap.size (.bool false) rfl ?_ (by kernel_rfl), by rw [hks], ?_⟩
    · exact cell_kept c3 (grownBy_putObj' _ D (.deferred none)) (fun r e => by cases e; exact ⟨_, hK, rfl⟩)
    · exact hB.trans (belowK_b (w := w) (Nat.le_refl _) _ D _ _ (by omega) hK rfl rfl)
end Go.Proofs.YtmlhipckgmbpfaaGreat
