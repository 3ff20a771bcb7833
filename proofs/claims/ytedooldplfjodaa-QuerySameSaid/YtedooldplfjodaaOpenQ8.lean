/-
  Queries as arguments, opened.
-/
import Derived.Test.YtedooldplfjodaaOpen0
import Derived.Test.YtedooldplfjodaaQu6
namespace Go.Proofs.Ytedooldplfjodaa
open Go Go.RowKit Go.ChangeShapes Go.WideShapes Go.ChangeAt Go.Deep
set_option linter.unusedVariables false
set_option linter.unusedSimpArgs false

section
variable {H : Type} {enc : TypeId × Value → H} {W : World}
theorem qInt_ : Try.prog.cellsOf 3 = 1 := by kernel_rfl
theorem qStr_ : Try.prog.cellsOf 9 = 1 := by kernel_rfl
theorem cBound_ : Try.prog.cellsOf 36 = 3 := by kernel_rfl
theorem cQNode_ : Try.prog.cellsOf 38 = 9 := by kernel_rfl
theorem bQNode_ : Try.prog.bytesOf 38 = 72 := by kernel_rfl
theorem cQuery_ : Try.prog.cellsOf 24 = 2 := by kernel_rfl
theorem bQuery_ : Try.prog.bytesOf 24 = 40 := by kernel_rfl
theorem cQNodes_ : Try.prog.cellsOf 22 = 1 := by kernel_rfl

set_option maxRecDepth 100000 in
theorem elem_bound {n : Nat} {cs : List Value} {x : DataW H × List MemPlace} (h : DataW.trod enc Try.prog W 0 (fun _ => true) true n 36 cs = some x) :
    ∃ o e d : Int, cs = [.int .i64 o, .int .i64 e, .int .i64 d] := by
  obtain ⟨y0, y1, y2, m, _, hl, h0, h1, h2⟩ := trod_struct3 Try.underlying36 h
  rw [cBound_] at hl
  match cs, hl with
  | [c0, c1, c2], _ =>
    have f0 : DataW.trod enc Try.prog W 0 (fun _ => true) true m 3 (List.take (Try.prog.cellsOf 3) (List.drop 0 [c0, c1, c2])) = some y0 := h0
    have f1 : DataW.trod enc Try.prog W 0 (fun _ => true) true m 3 (List.take (Try.prog.cellsOf 3) (List.drop 1 [c0, c1, c2])) = some y1 := h1
    have f2 : DataW.trod enc Try.prog W 0 (fun _ => true) true m 3 (List.take (Try.prog.cellsOf 3) (List.drop 2 [c0, c1, c2])) = some y2 := h2
    rw [qInt_] at f0 f1 f2
    obtain ⟨n0, e0, _, w0⟩ := DataW.trod_int Try.underlying3 f0
    obtain ⟨n1, e1, _, w1⟩ := DataW.trod_int Try.underlying3 f1
    obtain ⟨n2, e2, _, w2⟩ := DataW.trod_int Try.underlying3 f2
    simp at e0 e1 e2
    exact ⟨n0, n1, n2, by rw [e0, e1, e2]⟩
set_option maxRecDepth 100000 in
theorem elem_qnode {n : Nat} {cs : List Value} {x : DataW H × List MemPlace} (h : DataW.trod enc Try.prog W 0 (fun _ => true) true n 38 cs = some x) :
    ∃ y : QNodeV, cs = y.cells ∧ True := by
  obtain ⟨xs, m, _, hx, hl, hlen, hf⟩ := DataW.trod_struct Try.underlying38 h
  rw [cQNode_] at hl
  match cs, hl with
  | [c0, c1, c2, c3, c4, c5, c6, c7, c8], _ =>
    have hlen5 : xs.length = 5 := hlen
    match xs, hlen5 with
    | [x0, x1, x2, x3, x4], _ =>
      have f0 : DataW.trod enc Try.prog W 0 (fun _ => true) true m 3 (List.take (Try.prog.cellsOf 3) (List.drop 0 [c0, c1, c2, c3, c4, c5, c6, c7, c8])) = some x0 := hf 0 _ rfl
      have f1 : DataW.trod enc Try.prog W 0 (fun _ => true) true m 3 (List.take (Try.prog.cellsOf 3) (List.drop 1 [c0, c1, c2, c3, c4, c5, c6, c7, c8])) = some x1 := hf 1 _ rfl
      have f2 : DataW.trod enc Try.prog W 0 (fun _ => true) true m 3 (List.take (Try.prog.cellsOf 3) (List.drop 2 [c0, c1, c2, c3, c4, c5, c6, c7, c8])) = some x2 := hf 2 _ rfl
      have f3 : DataW.trod enc Try.prog W 0 (fun _ => true) true m 36 (List.take (Try.prog.cellsOf 36) (List.drop 3 [c0, c1, c2, c3, c4, c5, c6, c7, c8])) = some x3 := hf 3 _ rfl
      have f4 : DataW.trod enc Try.prog W 0 (fun _ => true) true m 36 (List.take (Try.prog.cellsOf 36) (List.drop 6 [c0, c1, c2, c3, c4, c5, c6, c7, c8])) = some x4 := hf 4 _ rfl
      rw [qInt_] at f0 f1 f2
      rw [cBound_] at f3 f4
      obtain ⟨n0, e0, _, w0⟩ := DataW.trod_int Try.underlying3 f0
      obtain ⟨n1, e1, _, w1⟩ := DataW.trod_int Try.underlying3 f1
      obtain ⟨n2, e2, _, w2⟩ := DataW.trod_int Try.underlying3 f2
      obtain ⟨a3, a4, a5, e3⟩ := elem_bound f3
      obtain ⟨a6, a7, a8, e4⟩ := elem_bound f4
      simp at e0 e1 e2 e3 e4
      obtain ⟨e3, e5, e6⟩ := e3
      obtain ⟨e4, e7, e8⟩ := e4
      exact ⟨⟨n0, n1, n2, a3, a4, a5, a6, a7, a8⟩, by rw [e0, e1, e2, e3, e5, e6, e4, e7, e8]; rfl, trivial⟩
set_option maxRecDepth 100000 in
theorem elem_query {n : Nat} {cs : List Value} {x : DataW H × List MemPlace} (h : DataW.trod enc Try.prog W 0 (fun _ => true) true n 24 cs = some x) (hsz : FitsD Try.prog 24 x.1) (hz : ∀ z ∈ x.2, z.block < W.heap.size) :
    ∃ (s : ByteArray) (a : Option Addr) (cap : Nat) (xs : List QNodeV), cs = [.string s, .slice a xs.length cap] ∧ s.size ≤ maxLen ∧ Rows QNodeV.cells 9 W a cap xs := by
  obtain ⟨y0, y1, m, hx, hl, h0, h1⟩ := trod_struct2 Try.underlying24 h
  rw [cQuery_] at hl
  match cs, hl with
  | [c0, c1], _ =>
    have f0 : DataW.trod enc Try.prog W 0 (fun _ => true) true m 9 (List.take (Try.prog.cellsOf 9) (List.drop 0 [c0, c1])) = some y0 := h0
    have f1 : DataW.trod enc Try.prog W 0 (fun _ => true) true m 22 (List.take (Try.prog.cellsOf 22) (List.drop 1 [c0, c1])) = some y1 := h1
    rw [qStr_] at f0
    rw [cQNodes_] at f1
    obtain ⟨n0, e0, _, w0⟩ := DataW.trod_string Try.underlying9 f0
    simp at e0
    subst hx
    have hz1 : ∀ z ∈ y1.2, z.block < W.heap.size := fun z h => hz z (by simp [h])
    have hs1 : FitsD Try.prog 22 y1.1 := fun n hn => hsz n (by
      show n ∈ DataW.weights Try.prog 24 (.agg _)
      unfold DataW.weights
      rw [Try.underlying24]
      exact DataW.weights_mem_each (j := 1) (t := 22) (d := y1.1) rfl rfl n hn)
    have f1' : DataW.trod enc Try.prog W 0 (fun _ => true) true m 22 [c1] = some y1 := f1
    obtain ⟨a1, xs, cap1, E1, R1, _⟩ := rows_in (cells := QNodeV.cells) (fun y : QNodeV => True) Try.underlying22 cQNode_ (by omega) (by rw [bQNode_]; omega) hs1 (fun n cs x hx _ _ => elem_qnode hx) f1' hz1
    exact ⟨n0, a1, cap1, xs, by rw [e0, E1], w0, R1⟩
set_option maxRecDepth 100000 in
theorem open_query {r : Reach} {b : Nat} {v : Value} {d : DataW H} {p : List MemPlace} (hv : Value.okWide Try.prog W r b 24 v) (h : DataW.Trod enc Try.prog W 0 (fun _ => true) true 24 v d p) (hlt : ∀ x ∈ p, x.block < W.heap.size) (hsz : FitsD Try.prog 24 d) :
    ∃ (s : ByteArray) (a : Option Addr) (cap : Nat) (xs : List QNodeV), v = .agg #[.string s, .slice a xs.length cap] ∧ s.size ≤ maxLen ∧ Rows QNodeV.cells 9 W a cap xs := by
  obtain ⟨cs, rfl, hs⟩ := okWide_struct Try.underlying24 hv
  obtain ⟨fuel, hf⟩ := h
  have hv1 : (Value.agg cs).cells.toList = cs.toList := rfl
  rw [hv1] at hf
  obtain ⟨s, a, cap, xs, e, h1, h2⟩ := elem_query hf hsz hlt
  refine ⟨s, a, cap, xs, ?_, h1, h2⟩
  show Value.agg cs = .agg #[.string s, .slice a xs.length cap]
  congr 1
  exact Array.toList_inj.1 e
set_option maxRecDepth 100000 in
theorem open_qnode {r : Reach} {b : Nat} {v : Value} {d : DataW H} {p : List MemPlace} (hv : Value.okWide Try.prog W r b 38 v) (h : DataW.Trod enc Try.prog W 0 (fun _ => true) true 38 v d p) :
    ∃ y : QNodeV, v = .agg y.cells.toArray := by
  obtain ⟨cs, rfl, hs⟩ := okWide_struct Try.underlying38 hv
  obtain ⟨fuel, hf⟩ := h
  have hv1 : (Value.agg cs).cells.toList = cs.toList := rfl
  rw [hv1] at hf
  obtain ⟨y, e, _⟩ := elem_qnode hf
  refine ⟨y, ?_⟩
  rw [← e]
end
/-! As the interpreter's values -/
theorem rel_view {α : Type} {cells : α → List Value} {s : Nat} (d : α) {W : World} {a : Option Addr} {cap : Nat} {xs : List α} (h : Rows cells s W a cap xs) (hc : ∀ x, (cells x).length = s) (ho : ∀ x, ∀ u ∈ cells x, u.oneCell' = true) : Sy.rel (Sy.rho0 W) (Sy.viewOf cells d s xs) (.slice a xs.length cap) := by
  simp only [Sy.viewOf, Sy.rel]
  refine ⟨a, cap, rfl, h.le, h.max, h.nil, fun hn => ?_⟩
  obtain ⟨b, off, rfl, hb, hcell⟩ := h.base (fun e => by rw [e] at hn; simp at hn)
  refine ⟨b, off, rfl, fun i j hi hj => ?_⟩
  have hg : xs.getD i d = xs[i] := by rw [List.getD_eq_getElem?_getD, List.getElem?_eq_getElem hi]; rfl
  have hj' : j < (cells xs[i]).length := by rw [hc]; exact hj
  have hu : (cells xs[i])[j]? = some (cells xs[i])[j] := List.getElem?_eq_getElem hj'
  refine ⟨(cells xs[i])[j], ?_, ?_, ho _ _ (List.getElem_mem _)⟩
  · simp only [Sy.rho0, if_pos hb]
    exact hcell i hi j _ hu
  · rw [hg, List.getD_eq_getElem?_getD, hu]
    simp
theorem rel_qview {W : World} {a : Option Addr} {cap : Nat} {xs : List QNodeV} (h : Rows QNodeV.cells 9 W a cap xs) : Sy.rel (Sy.rho0 W) (Sy.qview xs) (.slice a xs.length cap) :=
  rel_view QNodeV.zero h (fun _ => rfl) (fun x u hu => by
    simp [QNodeV.cells] at hu
    rcases hu with rfl | rfl | rfl | rfl | rfl | rfl | rfl | rfl | rfl <;> rfl)
theorem rel_query {W : World} {s : ByteArray} {a : Option Addr} {cap : Nat} {xs : List QNodeV} (h : Rows QNodeV.cells 9 W a cap xs) : Sy.rel (Sy.rho0 W) (Sy.query s xs) (.agg #[.string s, .slice a xs.length cap]) := by
  simp only [Sy.rel]
  refine ⟨[.string s, .slice a xs.length cap], rfl, ?_⟩
  simp only [Sy.rels]
  exact ⟨_, _, rfl, by simp only [Sy.rel], _, _, rfl, rel_qview h, rfl⟩
/-- a law that says true -/
theorem Sy.law_true {f : FuncId} {args : List Sy.AV} {us : List Value} {W : World} (h : Sy.CallTo Try.prog f args Sy.M0 fun v _ => v = Sy.boo true) (hr : Sy.rels (Sy.rho0 W) args us) : Calls Try.prog f us.toArray W fun e w' => e = .returned (.bool true) ∧ Below W.heap.size W w' :=
  ((h.mono (H := fun v _ => ∃ u, v = .lit u ∧ u = .bool true) fun v _ e => ⟨_, e, rfl⟩).calls hr).mono fun e w' ⟨⟨u, h1, h2⟩, h3⟩ => ⟨by rw [h1, h2], h3⟩
end Go.Proofs.Ytedooldplfjodaa
