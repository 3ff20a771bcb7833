/-
  Parts of selectors, as values.
-/
import Derived.Test.YtmlhipckgmbpfaaGreatSyT
import Derived.Test.YtmlhipckgmbpfaaGreatOpen0
namespace Go.Proofs.YtmlhipckgmbpfaaGreat
open Go Go.RowKit Sy
set_option linter.unusedVariables false
set_option linter.unusedSimpArgs false

structure TestV where
  name : ByteArray
  equal : Bool
  value : ByteArray
def TestV.cells (y : TestV) : List Value := [.string y.name, .bool y.equal, .string y.value]
def testNone : TestV := ⟨⟨#[]⟩, false, ⟨#[]⟩⟩
def strCells (y : ByteArray) : List Value := [.string y]
structure PartV where
  comb : Int
  tag : ByteArray
  id : ByteArray
  cls : List ByteArray
  tests : List TestV
  states : Int
def partNone : PartV := ⟨0, ⟨#[]⟩, ⟨#[]⟩, [], [], 0⟩
abbrev Sy.cview (l : List ByteArray) : AV := viewOf strCells ⟨#[]⟩ 1 l
abbrev Sy.tview (l : List TestV) : AV := viewOf TestV.cells testNone 3 l
def Sy.partA (p : PartV) (j : Nat) : AV := match j with
  | 0 => int p.comb
  | 1 => .lit (.string p.tag)
  | 2 => .lit (.string p.id)
  | 3 => cview p.cls
  | 4 => tview p.tests
  | _ => int p.states
def Sy.pcell (ps : List PartV) (i j : Nat) : AV := partA (ps.getD i partNone) j
abbrev Sy.pview (ps : List PartV) : AV := .view ps.length 6 (pcell ps)
theorem Sy.partA_free (p : PartV) (j : Nat) : Free (partA p j) := by
  match j with
  | 0 => trivial
  | 1 => trivial
  | 2 => trivial
  | 3 => exact viewOf_free strCells ⟨#[]⟩ 1 _
  | 4 => exact viewOf_free TestV.cells testNone 3 _
  | j + 5 => trivial
theorem Sy.pview_free (ps : List PartV) : Free (pview ps) := fun i j => partA_free _ j

end Go.Proofs.YtmlhipckgmbpfaaGreat
namespace Go.Proofs.YtmlhipckgmbpfaaGreat
open Go Go.RowKit Go.ChangeShapes Go.WideShapes Go.ChangeAt Go.Deep
set_option linter.unusedVariables false
set_option linter.unusedSimpArgs false
set_option maxRecDepth 100000

instance : Inhabited ByteArray := ⟨⟨#[]⟩⟩
instance : Inhabited TestV := ⟨testNone⟩
/-- a part as it lies in a block -/
structure PRow where
  p : PartV
  a : Option Addr
  cap : Nat
  b : Option Addr
  cbp : Nat
instance : Inhabited PRow := ⟨⟨partNone, none, 0, none, 0⟩⟩
def PRow.cells (r : PRow) : List Value := [.int .i64 r.p.comb, .string r.p.tag, .string r.p.id, .slice r.a r.p.cls.length r.cap, .slice r.b r.p.tests.length r.cbp, .int .i64 r.p.states]
section
variable {H : Type} {enc : TypeId × Value → H} {W : World}
theorem pInt_ : Tryz.prog.cellsOf 3 = 1 := by kernel_rfl
theorem pStr_ : Tryz.prog.cellsOf 9 = 1 := by kernel_rfl
theorem pBool_ : Tryz.prog.cellsOf 4 = 1 := by kernel_rfl
theorem pStrs_ : Tryz.prog.cellsOf 51 = 1 := by kernel_rfl
theorem pTests_ : Tryz.prog.cellsOf 72 = 1 := by kernel_rfl
theorem pParts_ : Tryz.prog.cellsOf 43 = 1 := by kernel_rfl
theorem pTest_ : Tryz.prog.cellsOf 98 = 3 := by kernel_rfl
theorem pPart_ : Tryz.prog.cellsOf 74 = 6 := by kernel_rfl
theorem pSel_ : Tryz.prog.cellsOf 45 = 1 := by kernel_rfl
theorem bpStr_ : Tryz.prog.bytesOf 9 = 16 := by kernel_rfl
theorem bpTest_ : Tryz.prog.bytesOf 98 = 40 := by kernel_rfl
theorem bpPart_ : Tryz.prog.bytesOf 74 = 96 := by kernel_rfl
def RowOk (p : PartV) : Prop := p.tag.size ≤ maxLen ∧ p.id.size ≤ maxLen ∧ (∀ s ∈ p.cls, s.size ≤ maxLen) ∧ (∀ t ∈ p.tests, t.name.size ≤ maxLen ∧ t.value.size ≤ maxLen) ∧ p.states ≤ 9223372036854775807
def RowIn (W : World) (r : PRow) : Prop := Rows strCells 1 W r.a r.cap r.p.cls ∧ Rows TestV.cells 3 W r.b r.cbp r.p.tests ∧ RowOk r.p
theorem elem_s {n : Nat} {cs : List Value} {x : DataW H × List MemPlace} (h : DataW.trod enc Tryz.prog W 0 (fun _ => true) true n 9 cs = some x) : ∃ y : ByteArray, cs = strCells y ∧ y.size ≤ maxLen := by
  obtain ⟨s, e, _, w⟩ := DataW.trod_string Tryz.underlying9 h
  exact ⟨s, e, w⟩
theorem elem_test {n : Nat} {cs : List Value} {x : DataW H × List MemPlace} (h : DataW.trod enc Tryz.prog W 0 (fun _ => true) true n 98 cs = some x) : ∃ y : TestV, cs = y.cells ∧ (y.name.size ≤ maxLen ∧ y.value.size ≤ maxLen) := by
  obtain ⟨y0, y1, y2, m, _, hl, h0, h1, h2⟩ := trod_struct3 Tryz.underlying98 h
  rw [pTest_] at hl
  match cs, hl with
  | [c0, c1, c2], _ =>
    have f0 : DataW.trod enc Tryz.prog W 0 (fun _ => true) true m 9 (List.take (Tryz.prog.cellsOf 9) (List.drop 0 [c0, c1, c2])) = some y0 := h0
    have f1 : DataW.trod enc Tryz.prog W 0 (fun _ => true) true m 4 (List.take (Tryz.prog.cellsOf 4) (List.drop 1 [c0, c1, c2])) = some y1 := h1
    have f2 : DataW.trod enc Tryz.prog W 0 (fun _ => true) true m 9 (List.take (Tryz.prog.cellsOf 9) (List.drop 2 [c0, c1, c2])) = some y2 := h2
    rw [pStr_] at f0 f2
    rw [pBool_] at f1
    obtain ⟨n0, e0, _, w0⟩ := DataW.trod_string Tryz.underlying9 f0
    obtain ⟨n1, e1, _⟩ := DataW.trod_bool Tryz.underlying4 f1
    obtain ⟨n2, e2, _, w2⟩ := DataW.trod_string Tryz.underlying9 f2
    simp at e0 e1 e2
    exact ⟨⟨n0, n1, n2⟩, by rw [e0, e1, e2]; rfl, w0, w2⟩
theorem elem_part {n : Nat} {cs : List Value} {x : DataW H × List MemPlace} (h : DataW.trod enc Tryz.prog W 0 (fun _ => true) true n 74 cs = some x) (hsz : FitsD Tryz.prog 74 x.1) (hz : ∀ z ∈ x.2, z.block < W.heap.size) :
    ∃ r : PRow, cs = r.cells ∧ RowIn W r := by
  obtain ⟨xs, m, _, hx, hl, hlen, hf⟩ := DataW.trod_struct Tryz.underlying74 h
  rw [pPart_] at hl
  match cs, hl with
  | [c0, c1, c2, c3, c4, c5], _ =>
    have hlen6 : xs.length = 6 := hlen
    match xs, hlen6 with
    | [x0, x1, x2, x3, x4, x5], _ =>
      have f0 : DataW.trod enc Tryz.prog W 0 (fun _ => true) true m 3 (List.take (Tryz.prog.cellsOf 3) (List.drop 0 [c0, c1, c2, c3, c4, c5])) = some x0 := hf 0 _ rfl
      rw [pInt_] at f0
      have f1 : DataW.trod enc Tryz.prog W 0 (fun _ => true) true m 9 (List.take (Tryz.prog.cellsOf 9) (List.drop 1 [c0, c1, c2, c3, c4, c5])) = some x1 := hf 1 _ rfl
      rw [pStr_] at f1
      have f2 : DataW.trod enc Tryz.prog W 0 (fun _ => true) true m 9 (List.take (Tryz.prog.cellsOf 9) (List.drop 2 [c0, c1, c2, c3, c4, c5])) = some x2 := hf 2 _ rfl
      rw [pStr_] at f2
      have f3 : DataW.trod enc Tryz.prog W 0 (fun _ => true) true m 51 (List.take (Tryz.prog.cellsOf 51) (List.drop 3 [c0, c1, c2, c3, c4, c5])) = some x3 := hf 3 _ rfl
      rw [pStrs_] at f3
      have f4 : DataW.trod enc Tryz.prog W 0 (fun _ => true) true m 72 (List.take (Tryz.prog.cellsOf 72) (List.drop 4 [c0, c1, c2, c3, c4, c5])) = some x4 := hf 4 _ rfl
      rw [pTests_] at f4
      have f5 : DataW.trod enc Tryz.prog W 0 (fun _ => true) true m 3 (List.take (Tryz.prog.cellsOf 3) (List.drop 5 [c0, c1, c2, c3, c4, c5])) = some x5 := hf 5 _ rfl
      rw [pInt_] at f5
      obtain ⟨n0, e0, _, w0⟩ := DataW.trod_int Tryz.underlying3 f0
      obtain ⟨n1, e1, _, w1⟩ := DataW.trod_string Tryz.underlying9 f1
      obtain ⟨n2, e2, _, w2⟩ := DataW.trod_string Tryz.underlying9 f2
      obtain ⟨n5, e5, _, w5⟩ := DataW.trod_int Tryz.underlying3 f5
      simp at e0 e1 e2 e5
      subst hx
      have hz3 : ∀ z ∈ x3.2, z.block < W.heap.size := fun z h => hz z (by simp [h])
      have hz4 : ∀ z ∈ x4.2, z.block < W.heap.size := fun z h => hz z (by simp [h])
      have hs3 : FitsD Tryz.prog 51 x3.1 := fun n hn => hsz n (by
        show n ∈ DataW.weights Tryz.prog 74 (.agg _)
        unfold DataW.weights
        rw [Tryz.underlying74]
        exact DataW.weights_mem_each (j := 3) (t := 51) (d := x3.1) rfl rfl n hn)
      have hs4 : FitsD Tryz.prog 72 x4.1 := fun n hn => hsz n (by
        show n ∈ DataW.weights Tryz.prog 74 (.agg _)
        unfold DataW.weights
        rw [Tryz.underlying74]
        exact DataW.weights_mem_each (j := 4) (t := 72) (d := x4.1) rfl rfl n hn)
      have f3' : DataW.trod enc Tryz.prog W 0 (fun _ => true) true m 51 [c3] = some x3 := f3
      have f4' : DataW.trod enc Tryz.prog W 0 (fun _ => true) true m 72 [c4] = some x4 := f4
      obtain ⟨a3, C, cap3, E3, R3, Q3⟩ := rows_in (cells := strCells) (fun y : ByteArray => y.size ≤ maxLen) Tryz.underlying51 pStr_ (by omega) (by rw [bpStr_]; omega) hs3 (fun n cs x hx _ _ => elem_s hx) f3' hz3
      obtain ⟨a4, A, cap4, E4, R4, Q4⟩ := rows_in (cells := TestV.cells) (fun y : TestV => y.name.size ≤ maxLen ∧ y.value.size ≤ maxLen) Tryz.underlying72 pTest_ (by omega) (by rw [bpTest_]; omega) hs4 (fun n cs x hx _ _ => elem_test hx) f4' hz4
      exact ⟨⟨⟨n0, n1, n2, C, A, n5⟩, a3, cap3, a4, cap4⟩, by rw [e0, e1, e2, e5, E3, E4]; rfl, R3, R4, w1, w2, Q3, Q4, by
        simp only [Lit.wf, Bool.and_eq_true, decide_eq_true_eq] at w5
        have h3 : IntKind.i64.max = 9223372036854775807 := by decide
        have h2 := w5.2
        rw [h3] at h2
        exact h2⟩
theorem open_selector {r : Reach} {b : Nat} {v : Value} {d : DataW H} {p : List MemPlace} (hv : Value.okWide Tryz.prog W r b 45 v) (h : DataW.Trod enc Tryz.prog W 0 (fun _ => true) true 45 v d p) (hlt : ∀ x ∈ p, x.block < W.heap.size) (hsz : FitsD Tryz.prog 45 d) :
    ∃ (a : Option Addr) (cap : Nat) (l : List PRow), v = .agg #[.slice a l.length cap] ∧ Rows PRow.cells 6 W a cap l ∧ ∀ q ∈ l, RowIn W q := by
  obtain ⟨cs, rfl, hs⟩ := okWide_struct Tryz.underlying45 hv
  obtain ⟨fuel, hf⟩ := h
  have hv1 : (Value.agg cs).cells.toList = cs.toList := rfl
  rw [hv1] at hf
  obtain ⟨y0, n, hx, hl, h0⟩ := trod_struct1 Tryz.underlying45 hf
  rw [pSel_] at hl
  simp only [Prod.mk.injEq] at hx
  obtain ⟨rfl, rfl⟩ := hx
  match hcs : cs.toList, hl with
  | [c0], _ =>
    rw [hcs] at h0
    have f0 : DataW.trod enc Tryz.prog W 0 (fun _ => true) true n 43 (List.take (Tryz.prog.cellsOf 43) (List.drop 0 [c0])) = some y0 := h0
    rw [pParts_] at f0
    have f0' : DataW.trod enc Tryz.prog W 0 (fun _ => true) true n 43 [c0] = some y0 := f0
    have hs0 : FitsD Tryz.prog 43 y0.1 := fun n hn => hsz n (by
      show n ∈ DataW.weights Tryz.prog 45 (.agg _)
      unfold DataW.weights
      rw [Tryz.underlying45]
      exact DataW.weights_mem_each (j := 0) (t := 43) (d := y0.1) rfl rfl n hn)
    obtain ⟨a, l, cap, E, R, Q⟩ := rows_in (cells := PRow.cells) (RowIn W) Tryz.underlying43 pPart_ (by omega) (by rw [bpPart_]; omega) hs0 (fun n cs x hx hs hz => elem_part hx hs hz) f0' hlt
    refine ⟨a, cap, l, ?_, R, Q⟩
    congr 1
    apply Array.toList_inj.1
    rw [hcs, E]
end
theorem rel_rows {α : Type} {cells : α → List Value} {s : Nat} (d : α) {W : World} {a : Option Addr} {cap : Nat} {xs : List α} (h : Rows cells s W a cap xs) (hc : ∀ x, (cells x).length = s) (ho : ∀ x, ∀ u ∈ cells x, u.oneCell' = true) : Sy.rel (Sy.rho0 W) (Sy.viewOf cells d s xs) (.slice a xs.length cap) := by
  simp only [Sy.viewOf, Sy.rel]
  refine ⟨a, cap, rfl, h.le, h.max, h.nil, fun hn => ?_⟩
  obtain ⟨b, off, rfl, hb, hcell⟩ := h.base (fun e => by rw [e] at hn; simp at hn)
  refine ⟨b, off, rfl, fun i j hi hj => ?_⟩
  have hg : xs.getD i d = xs[i] := by rw [List.getD_eq_getElem?_getD, List.getElem?_eq_getElem hi]; rfl
  have hj' : j < (cells xs[i]).length := by rw [hc]; exact hj
  have hu : (cells xs[i])[j]? = some (cells xs[i])[j] := List.getElem?_eq_getElem hj'
  refine ⟨(cells xs[i])[j], ?_, ?_, ho _ _ (List.getElem_mem _)⟩
  · simp only [Sy.rho0, if_pos hb]
    exact hcell i hi j _ hu
  · rw [hg, List.getD_eq_getElem?_getD, hu]
    simp
theorem rel_pview {W : World} {a : Option Addr} {cap : Nat} {l : List PRow} (h : Rows PRow.cells 6 W a cap l) (hq : ∀ q ∈ l, RowIn W q) : Sy.rel (Sy.rho0 W) (Sy.pview (l.map PRow.p)) (.slice a l.length cap) := by
  simp only [Sy.rel, List.length_map]
  refine ⟨a, cap, rfl, h.le, h.max, h.nil, fun hn => ?_⟩
  obtain ⟨b, off, rfl, hb, hcell⟩ := h.base (fun e => by rw [e] at hn; simp at hn)
  refine ⟨b, off, rfl, fun i j hi hj => ?_⟩
  have hg : (l.map PRow.p).getD i partNone = l[i].p := by rw [List.getD_eq_getElem?_getD, List.getElem?_map, List.getElem?_eq_getElem hi]; rfl
  obtain ⟨r1, r2, _⟩ := hq l[i] (List.getElem_mem hi)
  have hst : ∀ u, (PRow.cells l[i])[j]? = some u → (Sy.rho0 W).still b (off + i * 6 + j) = some u := fun u hu => by
    simp only [Sy.rho0, if_pos hb]
    exact hcell i hi j u hu
  simp only [Sy.pcell]
  rw [hg]
  have hj6 : j = 0 ∨ j = 1 ∨ j = 2 ∨ j = 3 ∨ j = 4 ∨ j = 5 := by omega
  rcases hj6 with rfl | rfl | rfl | rfl | rfl | rfl
  · exact ⟨_, hst _ rfl, rfl, rfl⟩
  · exact ⟨_, hst _ rfl, rfl, rfl⟩
  · exact ⟨_, hst _ rfl, rfl, rfl⟩
  · refine ⟨_, hst _ rfl, ?_, rfl⟩
    show Sy.rel (Sy.rho0 W) (Sy.cview l[i].p.cls) _
    exact rel_rows (⟨#[]⟩ : ByteArray) r1 (fun _ => rfl) (fun y u hu => by simp [strCells] at hu; rw [hu]; rfl)
  · refine ⟨_, hst _ rfl, ?_, rfl⟩
    show Sy.rel (Sy.rho0 W) (Sy.tview l[i].p.tests) _
    exact rel_rows testNone r2 (fun _ => rfl) (fun y u hu => by
      simp [TestV.cells] at hu
      rcases hu with rfl | rfl | rfl <;> rfl)
  · exact ⟨_, hst _ rfl, rfl, rfl⟩
theorem law_trueS {f : FuncId} {args : List Sy.AV} {us : List Value} {W : World} (h : Sy.CallTo Tryz.prog f args Sy.M0 fun v _ => v = Sy.boo true) (hr : Sy.rels (Sy.rho0 W) args us) : Calls Tryz.prog f us.toArray W fun e w' => e = .returned (.bool true) ∧ Below W.heap.size W w' :=
  ((h.mono (H := fun v _ => ∃ u, v = .lit u ∧ u = .bool true) fun v _ e => ⟨_, e, rfl⟩).calls hr).mono fun e w' ⟨⟨u, h1, h2⟩, h3⟩ => ⟨by rw [h1, h2], h3⟩
end Go.Proofs.YtmlhipckgmbpfaaGreat
