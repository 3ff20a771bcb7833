/-
  Do parts of a selector pick an element? As the symbolic interpreter takes it.
-/
import Derived.Test.YtmlhipckgmbpfaaGreatMtPicks
import Derived.Test.YtmlhipckgmbpfaaGreatSyM
namespace Go.Proofs.YtmlhipckgmbpfaaGreat
open Go Go.RowKit Pl Sy
set_option linter.unusedVariables false
set_option linter.unusedSimpArgs false
def PsOk (ps : List PartV) : Prop := ps.length ≤ 17592186044416 ∧ ∀ p ∈ ps, RowOk p ∧ p.cls.length ≤ 17592186044416 ∧ p.tests.length ≤ 17592186044416
theorem parts_of {ρ : Rho} {w : World} {ps : List PartV} {u : Value} (hst : ∀ g o x, ρ.still g o = some x → w.cell? ⟨g, o, none⟩ = some x) (hr : rel ρ (pview ps) u) (hok : PsOk ps) : ∃ a cap rs, u = .slice a rs.length cap ∧ rs.map PRow.p = ps ∧ Rows PRow.cells 6 w a cap rs ∧ ∀ q ∈ rs, RowIn w q := by
  simp only [rel] at hr
  obtain ⟨a, cap, rfl, h2, h3, h4, h5⟩ := hr
  by_cases hn : 0 < ps.length
  · obtain ⟨g, o, rfl, h7⟩ := h5 hn
    have lt : g < w.heap.size := by
      obtain ⟨x, h8, _⟩ := h7 0 0 hn (by omega)
      have := hst _ _ _ h8
      rcases Nat.lt_or_ge g w.heap.size with hh | hh
      · exact hh
      · simp only [World.cell?] at this; rw [Array.getElem?_eq_none hh] at this; cases this
    obtain ⟨rs, hl, hrs⟩ := pick_list (α := PRow) (fun j r => r.p = ps.getD j partNone ∧ (∀ c u, r.cells[c]? = some u → w.cell? ⟨g, o + j * 6 + c, none⟩ = some u) ∧ RowIn w r) ps.length (fun j hj => by
      obtain ⟨x0, q0, r0, _⟩ := h7 j 0 hj (by omega)
      obtain ⟨x1, q1, r1, _⟩ := h7 j 1 hj (by omega)
      obtain ⟨x2, q2, r2, _⟩ := h7 j 2 hj (by omega)
      obtain ⟨x3, q3, r3, _⟩ := h7 j 3 hj (by omega)
      obtain ⟨x4, q4, r4, _⟩ := h7 j 4 hj (by omega)
      obtain ⟨x5, q5, r5, _⟩ := h7 j 5 hj (by omega)
      have hm : ps.getD j partNone ∈ ps := by
        rw [List.getD_eq_getElem?_getD, List.getElem?_eq_getElem hj]
        exact List.getElem_mem _
      have ho := hok.2 _ hm
      simp only [pcell, partA] at r0 r1 r2 r3 r4 r5
      generalize ps.getD j partNone = n at *
      simp only [rel] at r0 r1 r2 r5
      subst r0 r1 r2 r5
      obtain ⟨a3, c3, rfl, R3⟩ := rel_cview_rows (cells := strCells) hst r3 (fun _ => rfl) (by omega) ho.2.1
      obtain ⟨a4, c4, rfl, R4⟩ := rel_cview_rows (cells := TestV.cells) hst r4 (fun _ => rfl) (by omega) ho.2.2
      refine ⟨⟨n, a3, c3, a4, c4⟩, rfl, fun c u hu => ?_, R3, R4, ho.1⟩
      have hc : c < 6 := by
        rcases Nat.lt_or_ge c 6 with h | h
        · exact h
        · rw [List.getElem?_eq_none (by simpa [PRow.cells] using h)] at hu; cases hu
      have : c = 0 ∨ c = 1 ∨ c = 2 ∨ c = 3 ∨ c = 4 ∨ c = 5 := by omega
      rcases this with rfl | rfl | rfl | rfl | rfl | rfl <;> (simp [PRow.cells] at hu; subst hu; exact hst _ _ _ (by assumption)))
    have hmap : rs.map PRow.p = ps := by
      apply List.ext_getElem (by simp [hl])
      intro j h1 h2
      have h1' : j < rs.length := by simpa using h1
      have := (hrs j rs[j] (List.getElem?_eq_getElem h1')).1
      rw [List.getElem_map, this, List.getD_eq_getElem?_getD, List.getElem?_eq_getElem h2]
      rfl
    refine ⟨_, cap, rs, by rw [hl], hmap, ⟨by rw [hl]; exact h2, h3, by rw [hl]; exact hok.1, h4, fun _ => ⟨g, o, rfl, lt, fun k hk j u hu => (hrs k rs[k] (List.getElem?_eq_getElem hk)).2.1 j u hu⟩⟩, fun r hr => ?_⟩
    obtain ⟨k, hk, rfl⟩ := List.mem_iff_getElem.1 hr
    exact (hrs k rs[k] (List.getElem?_eq_getElem hk)).2.2
  · have h0 : ps = [] := List.eq_nil_of_length_eq_zero (by omega)
    subst h0
    exact ⟨a, cap, [], rfl, rfl, ⟨Nat.zero_le _, h3, Nat.zero_le _, h4, fun h => absurd rfl h⟩, fun r hr => by simp at hr⟩
theorem Sy.picks_t (ns : List NodeW) (i : Int) (ps : List PartV) (hok : DocOk ns) (hp : PsOk ps) : CallTo Tryz.prog 68 [nview ns, int i, pview ps] M0 fun v _ => v = boo (picksI ns ps.reverse i) := fun w0 ρ us w hr hW => by
  simp only [rels] at hr
  obtain ⟨x, xs', rfl, r1, y, ys, rfl, r2, z, zs, rfl, r3, rfl⟩ := hr
  simp only [rel] at r2
  subst r2
  obtain ⟨a, cap, rs, rfl, hmap, hD⟩ := doc_of hW.still r1 hok
  obtain ⟨pa, pcap, qs, rfl, hm2, hR, hQ⟩ := parts_of hW.still r3 hp
  refine (mpicks qs.length qs rfl w a cap rs hD pa pcap hR hQ i).mono ?_
  rintro e w' ⟨rfl, hb⟩
  obtain ⟨q1, q2⟩ := hW.grown hb (fun _ _ => none) (fun _ _ _ h => by cases h)
  refine ⟨_, _, .lit _, M0, rfl, q1, rfl, q2, ?_⟩
  rw [hmap, hm2]
/-- do parts pick an element? -/
def picksV (ns : List NodeW) (i : Int) (ps : List PartV) : Bool := picksI ns ps.reverse i
def Sy.partL (p : PartV) : List AV := [int p.comb, .lit (.string p.tag), .lit (.string p.id), cview p.cls, tview p.tests, int p.states]
abbrev Sy.pvL (ps : List PartV) : AV := .view ps.length 6 fun i j => (partL (ps.getD i partNone)).getD j (.lit undef)
theorem Sy.partL_A (p : PartV) (j : Nat) (h : j < 6) : (partL p).getD j (.lit undef) = partA p j := by
  have : j = 0 ∨ j = 1 ∨ j = 2 ∨ j = 3 ∨ j = 4 ∨ j = 5 := by omega
  rcases this with rfl | rfl | rfl | rfl | rfl | rfl <;> rfl
theorem Sy.pvL_rel {ρ : Rho} {ps : List PartV} {u : Value} (h : rel ρ (pview ps) u) : rel ρ (pvL ps) u := rel_view_congr (fun i j _ hj => (partL_A _ j hj).symm) h
/-- a slice of the run's own, its cells read alike -/
theorem Sy.Conv1.own2 {M : Mem} {b n s : Nat} {B : Blk} {R : Rw} {cell : Nat → Nat → AV} (hb : M.get b = some B) (hR : B.rows = some R) (hn : n ≤ R.n) (hs : R.s = s) (hc : ∀ i j, i < n → j < s → Conv1 M (R.cell i j) (cell i j)) : Conv1 M (.own b n s) (.view n s cell) := fun w0 ρ w u hW hr => by
  simp only [rel] at hr ⊢
  rcases hr with ⟨_, rfl, rfl⟩ | ⟨g, tot, cap, hg, rfl, h1, h2, h3⟩
  · exact ⟨none, 0, rfl, Nat.le_refl _, by unfold maxLen; omega, fun _ => rfl, fun h => by omega⟩
  · obtain ⟨q2, cur, q3, q4, q5⟩ := hW.holds hb hg
    refine ⟨_, cap, rfl, h1, h2, (fun h => by cases h), fun _ => ⟨g, 0, rfl, fun i j hi hj => ?_⟩⟩
    obtain ⟨x, r1, r2, r3⟩ := q5.2 R hR i j (by omega) (by omega)
    have hlt : g < w.heap.size := (Array.getElem?_eq_some_iff.1 q3).1
    refine ⟨x, ?_, ?_, r3⟩
    · simp only [rho0, if_pos hlt]
      rw [cell_at q3, Nat.zero_add, ← hs]; exact r1
    · exact hc i j hi hj w0 ρ w x hW r2
theorem Sy.Conv1.view {M : Mem} {n s : Nat} {cell cell' : Nat → Nat → AV} (h : ∀ i j, i < n → j < s → cell i j = cell' i j) (hf : ∀ i j, Free (cell i j)) : Conv1 M (.view n s cell) (.view n s cell') := fun w0 ρ w u hW hr => rel_view_congr h (rel.free (rho0_still hW) (v := .view n s cell) hf hr)
theorem Sy.partL_free (p : PartV) (j : Nat) : Free ((partL p).getD j (.lit undef)) := by
  by_cases h : j < 6
  · rw [partL_A p j h]; exact partA_free p j
  · rw [List.getD_eq_getElem?_getD, List.getElem?_eq_none (by simp [partL]; omega)]
    trivial
theorem Sy.conv_pv (M : Mem) (ps : List PartV) : Conv1 M (pvL ps) (pview ps) := Conv1.view (fun i j _ hj => partL_A _ j hj) (fun i j => partL_free _ j)
/-- six cells of a part, one after the other -/
theorem Sy.conv_six {M : Mem} (l : List AV) (p : PartV) (h : ∀ j, j < 6 → ∃ v, l[j]? = some v ∧ Conv1 M v (partA p j)) (i j : Nat) (hi : i = 0) (hj : j < 6) : Conv1 M (getA l (i * 6 + j)) (partA p j) := by
  subst hi
  obtain ⟨v, h1, h2⟩ := h j hj
  have : getA l (0 * 6 + j) = v := by
    unfold getA
    rw [nth_eq, Nat.zero_mul, Nat.zero_add, h1]
  rw [this]; exact h2
theorem Sy.conv_cells {M : Mem} (p q : PartV) (c : AV) (h1 : p.comb = q.comb) (h2 : p.tag = q.tag) (h3 : p.id = q.id) (h4 : p.tests = q.tests) (h5 : p.states = q.states) (hc : Conv1 M c (cview q.cls)) : ∀ j, j < 6 → ∃ v, [int p.comb, .lit (.string p.tag), .lit (.string p.id), c, tview p.tests, int p.states][j]? = some v ∧ Conv1 M v (partA q j) := by
  intro j hj
  have : j = 0 ∨ j = 1 ∨ j = 2 ∨ j = 3 ∨ j = 4 ∨ j = 5 := by omega
  rcases this with rfl | rfl | rfl | rfl | rfl | rfl
  · exact ⟨_, rfl, by rw [h1]; exact Conv1.lit _ _⟩
  · exact ⟨_, rfl, by rw [h2]; exact Conv1.lit _ _⟩
  · exact ⟨_, rfl, by rw [h3]; exact Conv1.lit _ _⟩
  · exact ⟨_, rfl, hc⟩
  · exact ⟨_, rfl, by rw [h4]; exact Conv1.free _ (viewOf_free TestV.cells testNone 3 _)⟩
  · exact ⟨_, rfl, by rw [h5]; exact Conv1.lit _ _⟩
/-- picking is what the plain law speaks of -/
theorem picksI_R (ns : List NodeW) : ∀ (l : List PartV) (k : Nat), picksI ns l (k : Int) = picksR (fun k p => partB ns (k : Int) p) (aroundV (parN ns) (elN ns)) l k := by
  intro l
  induction l with
  | nil => intro k; rfl
  | cons p r ih =>
    intro k
    rw [picksR_cons]
    simp only [picksI, Int.toNat_natCast]
    congr 2
    congr 1
    funext j
    exact ih j
theorem picksV_R (ns : List NodeW) (i : Int) (ps : List PartV) : picksV ns i ps = (decide (0 ≤ i) && picksR (fun k p => partB ns (k : Int) p) (aroundV (parN ns) (elN ns)) ps.reverse i.toNat) := by
  unfold picksV
  by_cases h : 0 ≤ i
  · obtain ⟨k, rfl⟩ := Int.eq_ofNat_of_zero_le h
    rw [picksI_R]
    simp
  · have : ∀ l, picksI ns l i = false := fun l => by
      cases l with
      | nil => rfl
      | cons p r =>
        have : partB ns i p = false := by
          cases hb : partB ns i p with
          | false => rfl
          | true => exact absurd (part_is hb).1 h
        simp [picksI, this]
    rw [this]
    simp [h]
end Go.Proofs.YtmlhipckgmbpfaaGreat
