/-
  HolderTruths: its arguments, opened.
-/
import Derived.Test.YtjljlcflmcjapaaOpenQ
import Derived.Test.YtjljlcflmcjapaaOpen
import Derived.Test.YtjljlcflmcjapaaHoldC
namespace Go.Proofs.Ytjljlcflmcjapaa
open Go Go.RowKit Go.ChangeShapes Go.WideShapes Go.ChangeAt Go.Deep
set_option linter.unusedVariables false
set_option linter.unusedSimpArgs false

/-- a query as it lies in a block -/
structure QRow where
  s : ByteArray
  a : Option Addr
  cap : Nat
  xs : List QNodeV
instance : Inhabited QRow := ⟨⟨⟨#[]⟩, none, 0, []⟩⟩
def QRow.cells (q : QRow) : List Value := [.string q.s, .slice q.a q.xs.length q.cap]
def QRow.qv (q : QRow) : QV := ⟨q.s, q.xs⟩
section
variable {H : Type} {enc : TypeId × Value → H} {W : World}
set_option maxRecDepth 100000 in
theorem open_queries {r : Reach} {b : Nat} {v : Value} {d : DataW H} {p : List MemPlace} (hv : Value.okWide Try.prog W r b 58 v) (h : DataW.Trod enc Try.prog W 0 (fun _ => true) true 58 v d p) (hlt : ∀ x ∈ p, x.block < W.heap.size) (hsz : FitsD Try.prog 58 d) :
    ∃ (a : Option Addr) (cap : Nat) (l : List QRow), v = .slice a l.length cap ∧ Rows QRow.cells 2 W a cap l ∧ ∀ q ∈ l, q.s.size ≤ maxLen ∧ Rows QNodeV.cells 9 W q.a q.cap q.xs := by
  obtain ⟨fuel, hf⟩ := h
  obtain ⟨a0, len, cap0, rfl⟩ := okWide_slice Try.underlying58 hv
  have hv1 : (Value.slice a0 len cap0).cells.toList = [.slice a0 len cap0] := rfl
  rw [hv1] at hf
  obtain ⟨a, l, cap, E, R, Q⟩ := rows_in (cells := QRow.cells) (fun q : QRow => q.s.size ≤ maxLen ∧ Rows QNodeV.cells 9 W q.a q.cap q.xs) Try.underlying58 cQuery_ (by omega) (by rw [bQuery_]; omega) hsz (fun n cs x hx hs hz => by
    obtain ⟨s, a, cap, xs, e, h1, h2⟩ := elem_query hx hs hz
    exact ⟨⟨s, a, cap, xs⟩, e, h1, h2⟩) hf hlt
  exact ⟨a, cap, l, E, R, Q⟩
end
theorem rel_qsview {W : World} {a : Option Addr} {cap : Nat} {l : List QRow} (h : Rows QRow.cells 2 W a cap l) (hq : ∀ q ∈ l, q.s.size ≤ maxLen ∧ Rows QNodeV.cells 9 W q.a q.cap q.xs) : Sy.rel (Sy.rho0 W) (Sy.qsview (l.map QRow.qv)) (.slice a l.length cap) := by
  simp only [Sy.rel, List.length_map]
  refine ⟨a, cap, rfl, h.le, h.max, h.nil, fun hn => ?_⟩
  obtain ⟨b, off, rfl, hb, hcell⟩ := h.base (fun e => by rw [e] at hn; simp at hn)
  refine ⟨b, off, rfl, fun i j hi hj => ?_⟩
  have hg : (l.map QRow.qv).getD i qv0 = l[i].qv := by rw [List.getD_eq_getElem?_getD, List.getElem?_map, List.getElem?_eq_getElem hi]; rfl
  have hst : ∀ u, (QRow.cells l[i])[j]? = some u → (Sy.rho0 W).still b (off + i * 2 + j) = some u := fun u hu => by
    simp only [Sy.rho0, if_pos hb]
    exact hcell i hi j u hu
  have hj2 : j = 0 ∨ j = 1 := by omega
  rcases hj2 with rfl | rfl
  · refine ⟨.string l[i].s, hst _ rfl, ?_, rfl⟩
    simp only [Sy.qcell]
    rw [hg]
    simp only [Sy.rel]
    rfl
  · refine ⟨.slice l[i].a l[i].xs.length l[i].cap, hst _ rfl, ?_, rfl⟩
    simp only [Sy.qcell]
    rw [hg]
    exact rel_qview (hq l[i] (List.getElem_mem hi)).2
theorem rel_viewM {α : Type} {cells : α → List Value} {s : Nat} (d : α) {W : World} {a : Option Addr} {cap : Nat} {xs : List α} (h : Rows cells s W a cap xs) (hc : ∀ x, (cells x).length = s) (ho : ∀ x ∈ xs, ∀ u ∈ cells x, u.oneCell' = true) : Sy.rel (Sy.rho0 W) (Sy.viewOf cells d s xs) (.slice a xs.length cap) := by
  simp only [Sy.viewOf, Sy.rel]
  refine ⟨a, cap, rfl, h.le, h.max, h.nil, fun hn => ?_⟩
  obtain ⟨b, off, rfl, hb, hcell⟩ := h.base (fun e => by rw [e] at hn; simp at hn)
  refine ⟨b, off, rfl, fun i j hi hj => ?_⟩
  have hg : xs.getD i d = xs[i] := by rw [List.getD_eq_getElem?_getD, List.getElem?_eq_getElem hi]; rfl
  have hj' : j < (cells xs[i]).length := by rw [hc]; exact hj
  have hu : (cells xs[i])[j]? = some (cells xs[i])[j] := List.getElem?_eq_getElem hj'
  refine ⟨(cells xs[i])[j], ?_, ?_, ho _ (List.getElem_mem _) _ (List.getElem_mem _)⟩
  · simp only [Sy.rho0, if_pos hb]
    exact hcell i hi j _ hu
  · rw [hg, List.getD_eq_getElem?_getD, hu]
    simp
theorem holdt_walk {W : World} {an ax aq : Option Addr} {capn capx capq : Nat} {l : List NodeV} {x : List ExtV} {qs : List QRow} (hl : RNodes W an capn l) (ho : ∀ y ∈ l, y.cls.oneCell' = true ∧ y.att.oneCell' = true) (hx : RExts W ax capx x) (i : Int) (hq : Rows QRow.cells 2 W aq capq qs) (hqq : ∀ q ∈ qs, q.s.size ≤ maxLen ∧ Rows QNodeV.cells 9 W q.a q.cap q.xs) :
    Calls Try.prog 14 #[.slice an l.length capn, .slice ax x.length capx, .int .i64 i, .slice aq qs.length capq] W fun e w' => e = .returned (.bool true) ∧ Below W.heap.size W w' := by
  have h0 := Sy.lawh_t l x i (qs.map QRow.qv) ⟨hl.sm, hx.sm⟩ (by rw [List.length_map]; exact hq.sm) (fun q hq' => by
    obtain ⟨q0, h1, rfl⟩ := List.mem_map.1 hq'
    exact ⟨(hqq q0 h1).1, (hqq q0 h1).2.sm⟩)
  have h1 : Sy.rels (Sy.rho0 W) [Sy.nview l, Sy.xview x, Sy.int i, Sy.qsview (qs.map QRow.qv)] [.slice an l.length capn, .slice ax x.length capx, .int .i64 i, .slice aq qs.length capq] :=
    ⟨_, _, rfl, rel_viewM nodeNone hl (fun _ => rfl) (fun y hy u hu => by
      obtain ⟨o1, o2⟩ := ho y hy
      simp [NodeV.cells] at hu
      rcases hu with rfl | rfl | rfl | rfl | rfl | rfl
      · rfl
      · rfl
      · rfl
      · exact o1
      · exact o2
      · rfl), _, _, rfl, rel_view ExtV.zero hx (fun _ => rfl) (fun y u hu => by
      simp [ExtV.cells] at hu
      rcases hu with rfl | rfl | rfl | rfl <;> rfl), _, _, rfl, rfl, _, _, rfl, rel_qsview hq hqq, rfl⟩
  exact ((h0.mono (H := fun v _ => ∃ u, v = .lit u ∧ u = .bool true) fun v _ e => ⟨_, e, rfl⟩).calls h1).mono fun e w' ⟨⟨u, h1, h2⟩, h3⟩ => ⟨by rw [h1, h2], h3⟩
theorem node_one {H : Type} {enc : TypeId × Value → H} {W : World} {y : NodeV} (h : NodeIn enc W y) : y.cls.oneCell' = true ∧ y.att.oneCell' = true := by
  obtain ⟨m, x, h1, _⟩ := h.cls
  obtain ⟨m', x', h2, _⟩ := h.att
  constructor
  · rcases open_slice Try.underlying91 h1 with ⟨hc, _⟩ | ⟨a, len, cap, m, n, D, Pl, hc, _⟩
    · simp at hc; rw [hc]; rfl
    · simp at hc; rw [hc]; rfl
  · rcases open_slice Try.underlying92 h2 with ⟨hc, _⟩ | ⟨a, len, cap, m, n, D, Pl, hc, _⟩
    · simp at hc; rw [hc]; rfl
    · simp at hc; rw [hc]; rfl
end Go.Proofs.Ytjljlcflmcjapaa
