/-
  HolderOutside, walked.
-/
import Derived.Test.YtckokehpdgjacaaLaw15
namespace Go.Proofs.Ytckokehpdgjacaa
open Go.RowKit Pl
set_option linter.unusedVariables false

theorem tExts : SliceT Try.prog 23 36 4 40 ExtV.zero.val :=
  ⟨Try.underlying23, by obtain ⟨i0, hi, hz0, hz1, hz2⟩ := info_parts (show (Try.prog.info? 36).map (fun i => (i.zero, i.size, i.bytes)) = some (some ExtV.zero.val, 4, 40) by kernel_rfl); exact ⟨i0, hi, hz0, hz1, hz2⟩, rfl, by decide⟩

theorem atV_set (x : List ExtV) (k m : Nat) (e : ExtV) (h : m ≠ k) : atV (x.set k e) m = atV x m := by
  unfold atV
  rw [if_neg (by omega), if_neg (by omega)]
  have : (x.set k e)[(m : Int).toNat]? = x[(m : Int).toNat]? := by
    rw [List.getElem?_set_ne]; simp; omega
  rw [this]

theorem set_fits (p : Nat → Int) (n : Nat) (x : List ExtV) (k : Nat) (e : ExtV) (i : Int) (h : ∀ m ∈ upsI p n i, m ≠ k) : firstUpI p n (fitsP (x.set k e) ⟨#[]⟩) i = firstUpI p n (fitsP x ⟨#[]⟩) i :=
  firstUpI_congr p n _ _ i (fun m hm => by unfold fitsP; rw [atV_set x k m e (h m hm)])
theorem set_both (p : Nat → Int) (n : Nat) (x : List ExtV) (k : Nat) (e : ExtV) (i : Int) (h : ∀ m ∈ upsI p n i, m ≠ k) : firstUpI p n (bothV (x.set k e)) i = firstUpI p n (bothV x) i :=
  firstUpI_congr p n _ _ i (fun m hm => by unfold bothV; rw [atV_set x k m e (h m hm)])
theorem set_w (p : Nat → Int) (n : Nat) (x : List ExtV) (k : Nat) (e : ExtV) (i vw : Int) (h : ∀ m ∈ upsI p n i, m ≠ k) : baseW p n (x.set k e) i vw = baseW p n x i vw := by
  unfold baseW
  rw [set_fits p n x k e i h]
  by_cases h0 : 0 ≤ firstUpI p n (fitsP x ⟨#[]⟩) i
  · obtain ⟨m, hm, e'⟩ := firstUpI_mem p n _ i h0
    rw [if_pos h0, if_pos h0, e', atV_set x k m e (h m hm)]
  · rw [if_neg h0, if_neg h0]
theorem set_h (p : Nat → Int) (n : Nat) (x : List ExtV) (k : Nat) (e : ExtV) (i vh : Int) (h : ∀ m ∈ upsI p n i, m ≠ k) : baseH p n (x.set k e) i vh = baseH p n x i vh := by
  unfold baseH
  rw [set_both p n x k e i h]
  by_cases h0 : 0 ≤ firstUpI p n (bothV x) i
  · obtain ⟨m, hm, e'⟩ := firstUpI_mem p n _ i h0
    rw [if_pos h0, if_pos h0, e', atV_set x k m e (h m hm)]
  · rw [if_neg h0, if_neg h0]

set_option maxHeartbeats 1000000 in
theorem outside_main {w : World} {a : Option Addr} {b off cap cap' : Nat} {l : List NodeV} {x : List ExtV} (hl : RNodes w a cap l) (hx : RExts w (some ⟨b, off, none⟩) cap' x) (hz : x.length * 40 ≤ 140737488351232) (i : Int) (k : Nat) (e : ExtV) (vw vh : Int)
    (hf : l.length ≤ 100) (hk : k < x.length) (h0 : 0 ≤ i) (h1 : i < l.length) (hu : ¬ ((k : Int) < l.length ∧ under (par l) i.toNat k = true)) :
    Calls Try.prog 5 #[.slice a l.length cap, .slice (some ⟨b, off, none⟩) x.length cap', .int .i64 i, .int .i64 k, .agg #[.int .i64 e.type, .string e.name, .int .i64 e.w, .int .i64 e.h], .agg #[.int .i64 vw, .int .i64 vh]] w fun e w' => e = .returned (.bool true) ∧ Below w.heap.size w w' := by
  have hd : decide (l.length ≤ 100) = true := by simpa using hf
  have HS := Lib.hid (fun m hm => fun e => upsI_notunder (par l) l.length i k hu m hm (by rw [e]) : ∀ m ∈ upsI (par l) l.length i, m ≠ k)
  have HL := Lib.hid hl; clear hl
  have HX := Lib.hid hx; clear hx
  have hxl := HX.out.len
  have hw0 : Below w.heap.size w ((w.alloc (.cells #[.int .i64 e.type, .string e.name, .int .i64 e.w, .int .i64 e.h] 36)).alloc (.cells #[.int .i64 vw, .int .i64 vh] 25)) := balloc (balloc (Below.refl _ _) _) _
  have HU := Lib.hid (show (k : Int) < l.length → under (par l) i.toNat k = false from fun hkl => by
    have := fun h => hu ⟨hkl, h⟩
    simpa using this)
  clear hu hf
  by_cases hkl : (k : Int) < l.length
  all_goals
    go_enter Try.func5, Try.ntmps5
    go_wp2_with (first
      | (go_at_call 14; refine (few15 _ _ _ _).mono ?_; rintro e w' ⟨rfl, rfl⟩)
      | (go_at_call 20; refine (under_r (HL.out.grow hw0) _ _ h0 h1).mono ?_; rintro e w' ⟨rfl, rfl⟩; rw [HU.out hkl])
      | (at_builtin; refine wpList_app_rows 23 36 4 40 _ tExts rfl (.tmp 54) (.tmp 55) rfl (w.heap.size + 1 + 1) _ 0 [] rfl (World.ownsRow_nil _ _ _ _) _ _ x rfl (HX.out.grow hw0) (fun y _ => y.len) (fun y _ => y.one) (by omega) (by omega) (by simp) ?_; intro v' w1 hown hb1; obtain ⟨g, capn, cur, rfl, hg1, hg2, hg3, hg4, hg5, hg6⟩ := own_block hown (by omega); have hcs : k * 4 + 3 < cur.size := (by rw [hg6]; omega); obtain ⟨u0, q0⟩ := block_cell hg2 (show k * 4 < cur.size by omega); obtain ⟨u1, q1⟩ := block_cell hg2 (show k * 4 + 1 < cur.size by omega); obtain ⟨u2, q2⟩ := block_cell hg2 (show k * 4 + 2 < cur.size by omega); obtain ⟨u3, q3⟩ := block_cell hg2 hcs; have z0 := block_free hg2 (k * 4); have z1 := block_free hg2 (k * 4 + 1); have z2 := block_free hg2 (k * 4 + 2); have z3 := block_free hg2 (k * 4 + 3); have HC := bcell hb1; have HG := Lib.hid (And.intro hg2 (And.intro hg3 (And.intro hg6 hown))); clear hg2 hg3 hg6 hown; go_wp2_with fail))
    have hs1 := hb1.size
    simp at hs1
    have hB1 : Below w.heap.size w w1 := hw0.trans (hb1.mono (by omega))
    have hB3 : Below w.heap.size w ((((w1.setCell ⟨g, k * 4, none⟩ (.int .i64 e.type)).setCell ⟨g, k * 4 + 1, none⟩ (.string e.name)).setCell ⟨g, k * 4 + 2, none⟩ (.int .i64 e.w)).setCell ⟨g, k * 4 + 3, none⟩ (.int .i64 e.h)) :=
      (((hB1.setCell (by show _ ≤ g; omega) _).setCell (by show _ ≤ g; omega) _).setCell (by show _ ≤ g; omega) _).setCell (by show _ ≤ g; omega) _
    have hB4 : Below (w.heap.size + 1 + 1) ((w.alloc (.cells #[.int .i64 e.type, .string e.name, .int .i64 e.w, .int .i64 e.h] 36)).alloc (.cells #[.int .i64 vw, .int .i64 vh] 25)) ((((w1.setCell ⟨g, k * 4, none⟩ (.int .i64 e.type)).setCell ⟨g, k * 4 + 1, none⟩ (.string e.name)).setCell ⟨g, k * 4 + 2, none⟩ (.int .i64 e.w)).setCell ⟨g, k * 4 + 3, none⟩ (.int .i64 e.h)) :=
      (((hb1.setCell (by show _ ≤ g; omega) _).setCell (by show _ ≤ g; omega) _).setCell (by show _ ≤ g; omega) _).setCell (by show _ ≤ g; omega) _
    obtain ⟨hg2, hg3, hg6, hown⟩ := HG.out
    have RX := RExts.stored hg2 (by simpa using hg3) hg6 (by omega) hg5 (by omega) k hk e
    have d0 := (hB4.cell (p := ⟨w.heap.size + 1, 0, none⟩) (by simp)).trans (show _ = some (.int .i64 vw) by simp)
    have d1 := (hB4.cell (p := ⟨w.heap.size + 1, 1, none⟩) (by simp)).trans (show _ = some (.int .i64 vh) by simp)
    have dl : w.heap.size + 1 < w1.heap.size := by omega
    have dl' := Nat.lt_of_lt_of_le (show w.heap.size + 1 < _ by simp) hB4.size
    clear hg2 hg3 hg6 hown HG HC q0 q1 q2 q3 z0 z1 z2 z3 hB4
    generalize ((((w1.setCell ⟨g, k * 4, none⟩ (.int .i64 e.type)).setCell ⟨g, k * 4 + 1, none⟩ (.string e.name)).setCell ⟨g, k * 4 + 2, none⟩ (.int .i64 e.w)).setCell ⟨g, k * 4 + 3, none⟩ (.int .i64 e.h)) = W3 at *
    have RH := Lib.hid RX; clear RX
    refine (bases_p (HL.out.grow hB3) (HX.out.grow hB3) i vw vh).mono ?_
    rintro e1 w4 ⟨rfl, h4⟩
    have d0' := (h4.cell (p := ⟨w.heap.size + 1, 0, none⟩) (by show _ < _; omega)).trans d0
    have d1' := (h4.cell (p := ⟨w.heap.size + 1, 1, none⟩) (by show _ < _; omega)).trans d1
    have hB4 := bseq hB3 h4
    go_wp2_with fail
    have C2 := bases_p (HL.out.grow hB4) (RH.out.grow h4) i vw vh
    rw [List.length_set, set_w _ _ _ _ _ _ _ HS.out, set_h _ _ _ _ _ _ _ HS.out] at C2
    refine C2.mono ?_
    rintro e1 w5 ⟨rfl, h5⟩
    have hB5 := bseq hB4 h5
    clear d0 d1 d0' d1' C2
    go_wp2_with fail
    refine (nearest_name_p (HL.out.grow hB5) (HX.out.grow hB5) i ⟨#[]⟩).mono ?_
    rintro e1 w6 ⟨rfl, h6⟩
    have hB6 := bseq hB5 h6
    go_wp2_with fail
    have C3 := nearest_name_p (HL.out.grow hB6) (((RH.out.grow h4).grow h5).grow h6) i ⟨#[]⟩
    rw [List.length_set, set_fits _ _ _ _ _ _ HS.out] at C3
    refine C3.mono ?_
    rintro e1 w7 ⟨rfl, h7⟩
    have hB7 := bseq hB6 h7
    clear C3
    go_wp2_with (go_at_call 15; refine (known15 _).mono ?_; rintro e w3 ⟨rfl, h8⟩)
    go_ret
    exact ⟨rfl, bseq hB7 h8⟩

set_option maxHeartbeats 1000000 in
theorem outside_walk {w : World} {a a' : Option Addr} {cap cap' : Nat} {l : List NodeV} {x : List ExtV} (hl : RNodes w a cap l) (hx : RExts w a' cap' x) (hz : x.length * 40 ≤ 140737488351232) (i k : Int) (e : ExtV) (vw vh : Int) :
    Calls Try.prog 5 #[.slice a l.length cap, .slice a' x.length cap', .int .i64 i, .int .i64 k, .agg #[.int .i64 e.type, .string e.name, .int .i64 e.w, .int .i64 e.h], .agg #[.int .i64 vw, .int .i64 vh]] w fun e w' => e = .returned (.bool true) ∧ Below w.heap.size w w' := by
  have hcases : (l.length ≤ 100 ∧ 0 ≤ k ∧ k < x.length ∧ 0 ≤ i ∧ i < l.length ∧ ¬ (k < l.length ∧ under (par l) i.toNat k = true)) ∨ ((decide (l.length ≤ 100) = false)) ∨
      (decide (l.length ≤ 100) = true ∧ k < 0) ∨ (decide (l.length ≤ 100) = true ∧ 0 ≤ k ∧ x.length ≤ k) ∨
      (decide (l.length ≤ 100) = true ∧ 0 ≤ k ∧ k < x.length ∧ i < 0) ∨ (decide (l.length ≤ 100) = true ∧ 0 ≤ k ∧ k < x.length ∧ 0 ≤ i ∧ l.length ≤ i) ∨
      (decide (l.length ≤ 100) = true ∧ 0 ≤ k ∧ k < x.length ∧ 0 ≤ i ∧ i < l.length ∧ k < l.length ∧ under (par l) i.toNat k = true) := by
    simp only [decide_eq_true_eq, decide_eq_false_iff_not]
    by_cases hu : under (par l) i.toNat k = true
    · simp only [hu, and_true]; omega
    · simp only [hu, Bool.false_eq_true, and_false, not_false_eq_true, and_true, or_false]; omega
  have hw0 : Below w.heap.size w ((w.alloc (.cells #[.int .i64 e.type, .string e.name, .int .i64 e.w, .int .i64 e.h] 36)).alloc (.cells #[.int .i64 vw, .int .i64 vh] 25)) := balloc (balloc (Below.refl _ _) _) _
  have HL := Lib.hid hl
  rcases hcases with ⟨h1, h2, h3, h4, h5, h6⟩ | h | h | h | h | h | ⟨g1, g2, g3, g4, g5, g6, hun⟩
  · obtain ⟨kk, rfl⟩ := Int.eq_ofNat_of_zero_le h2
    obtain ⟨b, off, rfl, _⟩ := hx.base (by intro e; rw [e] at h3; simp at h3; omega)
    exact outside_main hl hx hz i kk e vw vh h1 (by omega) h4 h5 h6
  case inr.inr.inr.inr.inr.inr =>
    have HU := Lib.hid hun; clear hun hl hx
    go_enter Try.func5, Try.ntmps5
    go_wp2_with (first
      | (go_at_call 14; refine (few15 _ _ _ _).mono ?_; rintro e w' ⟨rfl, rfl⟩)
      | (go_at_call 20; refine (under_r (HL.out.grow hw0) _ _ g4 g5).mono ?_; rintro e w' ⟨rfl, rfl⟩; rw [HU.out])
      | (go_at_call 15; refine (known15 _).mono ?_; rintro e w3 ⟨rfl, h8⟩))
    go_ret
    exact ⟨rfl, bseq hw0 h8⟩
  all_goals
    clear hl hx
    (try obtain ⟨g1, h⟩ := h)
    (try obtain ⟨g2, h⟩ := h)
    (try obtain ⟨g3, h⟩ := h)
    (try obtain ⟨g4, h⟩ := h)
    go_enter Try.func5, Try.ntmps5
    go_wp2_with (first
      | (go_at_call 14; refine (few15 _ _ _ _).mono ?_; rintro e w' ⟨rfl, rfl⟩)
      | (go_at_call 15; refine (known15 _).mono ?_; rintro e w3 ⟨rfl, h8⟩))
    go_ret
    exact ⟨rfl, bseq hw0 h8⟩

end Go.Proofs.Ytckokehpdgjacaa
