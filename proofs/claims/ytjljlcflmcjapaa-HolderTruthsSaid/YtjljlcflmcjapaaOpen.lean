/-
  The types of this seat's arguments, opened: nodes, extents.
-/
import Derived.Test.YtjljlcflmcjapaaLift
namespace Go.Proofs.Ytjljlcflmcjapaa
open Go.RowKit Go.ChangeShapes Go.WideShapes Go.ChangeAt Go.Deep
set_option maxRecDepth 100000

theorem cInt_ : Try.prog.cellsOf 3 = 1 := by kernel_rfl
theorem cStr_ : Try.prog.cellsOf 9 = 1 := by kernel_rfl
theorem cStrs_ : Try.prog.cellsOf 91 = 1 := by kernel_rfl
theorem cAttrs_ : Try.prog.cellsOf 92 = 1 := by kernel_rfl
theorem cNode_ : Try.prog.cellsOf 94 = 6 := by kernel_rfl
theorem cExt_ : Try.prog.cellsOf 31 = 4 := by kernel_rfl
theorem bNode_ : Try.prog.bytesOf 94 = 104 := by kernel_rfl
theorem bExt_ : Try.prog.bytesOf 31 = 40 := by kernel_rfl

instance : Inhabited NodeV := ⟨⟨0, ⟨#[]⟩, ⟨#[]⟩, .nilFunc, .nilFunc, ⟨#[]⟩⟩⟩
instance : Inhabited ExtV := ⟨ExtV.zero⟩

section
variable {H : Type} {enc : TypeId × Value → H} {W : World} {p : List MemPlace}


theorem elem_ext {n : Nat} {cs : List Value} {x : DataW H × List MemPlace} (h : DataW.trod enc Try.prog W 0 (fun _ => true) true n 31 cs = some x) :
    ∃ y : ExtV, cs = y.cells ∧ y.name.size ≤ maxLen ∧ (Lit.int .i64 y.w).wf = true ∧ (Lit.int .i64 y.h).wf = true := by
  obtain ⟨xs, m, _, hx, hl, hlen, hf⟩ := DataW.trod_struct Try.underlying31 h
  rw [cExt_] at hl
  match cs, hl with
  | [c0, c1, c2, c3], _ =>
    have hlen4 : xs.length = 4 := hlen
    match xs, hlen4 with
    | [x0, x1, x2, x3], _ =>
      have f0 : DataW.trod enc Try.prog W 0 (fun _ => true) true m 3 (List.take (Try.prog.cellsOf 3) (List.drop 0 [c0, c1, c2, c3])) = some x0 := hf 0 _ rfl
      rw [cInt_] at f0
      have f1 : DataW.trod enc Try.prog W 0 (fun _ => true) true m 9 (List.take (Try.prog.cellsOf 9) (List.drop 1 [c0, c1, c2, c3])) = some x1 := hf 1 _ rfl
      rw [cStr_] at f1
      have f2 : DataW.trod enc Try.prog W 0 (fun _ => true) true m 3 (List.take (Try.prog.cellsOf 3) (List.drop 2 [c0, c1, c2, c3])) = some x2 := hf 2 _ rfl
      rw [cInt_] at f2
      have f3 : DataW.trod enc Try.prog W 0 (fun _ => true) true m 3 (List.take (Try.prog.cellsOf 3) (List.drop 3 [c0, c1, c2, c3])) = some x3 := hf 3 _ rfl
      rw [cInt_] at f3
      obtain ⟨n0, e0, _, w0⟩ := DataW.trod_int Try.underlying3 f0
      obtain ⟨n1, e1, _, w1⟩ := DataW.trod_string Try.underlying9 f1
      obtain ⟨n2, e2, _, w2⟩ := DataW.trod_int Try.underlying3 f2
      obtain ⟨n3, e3, _, w3⟩ := DataW.trod_int Try.underlying3 f3
      simp at e0 e1 e2 e3
      exact ⟨⟨n0, n1, n2, n3⟩, by rw [e0, e1, e2, e3]; rfl, w1, w2, w3⟩

/-- what is known of each node -/
structure NodeIn (enc : TypeId × Value → H) (W : World) (y : NodeV) : Prop where
  parent : (Lit.int .i64 y.parent).wf = true
  tag : y.tag.size ≤ maxLen
  id : y.id.size ≤ maxLen
  text : y.text.size ≤ maxLen
  cls : ∃ m x, DataW.trod enc Try.prog W 0 (fun _ => true) true m 91 [y.cls] = some x ∧ ∀ z ∈ x.2, z.block < W.heap.size
  att : ∃ m x, DataW.trod enc Try.prog W 0 (fun _ => true) true m 92 [y.att] = some x ∧ ∀ z ∈ x.2, z.block < W.heap.size

theorem elem_node {n : Nat} {cs : List Value} {x : DataW H × List MemPlace} (h : DataW.trod enc Try.prog W 0 (fun _ => true) true n 94 cs = some x) (hz : ∀ z ∈ x.2, z.block < W.heap.size) :
    ∃ y : NodeV, cs = y.cells ∧ NodeIn enc W y := by
  obtain ⟨xs, m, _, hx, hl, hlen, hf⟩ := DataW.trod_struct Try.underlying94 h
  rw [cNode_] at hl
  match cs, hl with
  | [c0, c1, c2, c3, c4, c5], _ =>
    have hlen6 : xs.length = 6 := hlen
    match xs, hlen6 with
    | [x0, x1, x2, x3, x4, x5], _ =>
      have f0 : DataW.trod enc Try.prog W 0 (fun _ => true) true m 3 (List.take (Try.prog.cellsOf 3) (List.drop 0 [c0, c1, c2, c3, c4, c5])) = some x0 := hf 0 _ rfl
      rw [cInt_] at f0
      have f1 : DataW.trod enc Try.prog W 0 (fun _ => true) true m 9 (List.take (Try.prog.cellsOf 9) (List.drop 1 [c0, c1, c2, c3, c4, c5])) = some x1 := hf 1 _ rfl
      rw [cStr_] at f1
      have f2 : DataW.trod enc Try.prog W 0 (fun _ => true) true m 9 (List.take (Try.prog.cellsOf 9) (List.drop 2 [c0, c1, c2, c3, c4, c5])) = some x2 := hf 2 _ rfl
      rw [cStr_] at f2
      have f3 : DataW.trod enc Try.prog W 0 (fun _ => true) true m 91 (List.take (Try.prog.cellsOf 91) (List.drop 3 [c0, c1, c2, c3, c4, c5])) = some x3 := hf 3 _ rfl
      rw [cStrs_] at f3
      have f4 : DataW.trod enc Try.prog W 0 (fun _ => true) true m 92 (List.take (Try.prog.cellsOf 92) (List.drop 4 [c0, c1, c2, c3, c4, c5])) = some x4 := hf 4 _ rfl
      rw [cAttrs_] at f4
      have f5 : DataW.trod enc Try.prog W 0 (fun _ => true) true m 9 (List.take (Try.prog.cellsOf 9) (List.drop 5 [c0, c1, c2, c3, c4, c5])) = some x5 := hf 5 _ rfl
      rw [cStr_] at f5
      obtain ⟨n0, e0, _, w0⟩ := DataW.trod_int Try.underlying3 f0
      obtain ⟨n1, e1, _, w1⟩ := DataW.trod_string Try.underlying9 f1
      obtain ⟨n2, e2, _, w2⟩ := DataW.trod_string Try.underlying9 f2
      obtain ⟨n5, e5, _, w5⟩ := DataW.trod_string Try.underlying9 f5
      simp at e0 e1 e2 e5
      have hz3 : ∀ z ∈ x3.2, z.block < W.heap.size := fun z h => hz z (by rw [hx]; simp [h])
      have hz4 : ∀ z ∈ x4.2, z.block < W.heap.size := fun z h => hz z (by rw [hx]; simp [h])
      exact ⟨⟨n0, n1, n2, c3, c4, n5⟩, by rw [e0, e1, e2, e5]; rfl, w0, w1, w2, w5, ⟨m, x3, f3, hz3⟩, ⟨m, x4, f4, hz4⟩⟩

/-- a list of nodes, and of extents, as they come in -/
theorem open_nodes {r : Reach} {b : Nat} {v : Value} {d : DataW H} (hv : Value.okWide Try.prog W r b 56 v) (h : DataW.Trod enc Try.prog W 0 (fun _ => true) true 56 v d p) (hlt : ∀ x ∈ p, x.block < W.heap.size)
    (hr : ∀ es sp, d = .slice es sp → (es.length + sp.length) * 104 ≤ reachBytes) :
    ∃ (a : Option Addr) (cap : Nat) (l : List NodeV), v = .slice a l.length cap ∧ RNodes W a cap l ∧ ∀ y ∈ l, NodeIn enc W y := by
  obtain ⟨a, len, cap, rfl⟩ := okWide_slice Try.underlying56 hv
  have hlen : len ≤ 17592186044416 := by
    obtain ⟨fuel, hf⟩ := h
    rcases open_slice Try.underlying56 hf with ⟨hc, _⟩ | ⟨a', len', cap', m, n, D, Pl, hc, _, _, _, _, hx, _⟩
    · simp [Value.cells] at hc; omega
    · simp [Value.cells] at hc
      obtain ⟨rfl, rfl, rfl⟩ := hc
      simp only [Prod.mk.injEq] at hx
      have := hr _ _ hx.1
      simp [reachBytes] at this
      omega
  obtain ⟨xs, rfl, h1, h2⟩ := open_rows (cells := NodeV.cells) (NodeIn enc W) Try.underlying56 cNode_ (by omega) hlen (fun n cs x hx hz => elem_node hx hz) h hlt
  exact ⟨a, cap, xs, rfl, h1, h2⟩

def ExtIn (y : ExtV) : Prop := y.name.size ≤ maxLen ∧ (Lit.int .i64 y.w).wf = true ∧ (Lit.int .i64 y.h).wf = true
theorem open_exts {r : Reach} {b : Nat} {v : Value} {d : DataW H} (hv : Value.okWide Try.prog W r b 57 v) (h : DataW.Trod enc Try.prog W 0 (fun _ => true) true 57 v d p) (hlt : ∀ x ∈ p, x.block < W.heap.size)
    (hr : ∀ es sp, d = .slice es sp → (es.length + sp.length) * 40 ≤ reachBytes) :
    ∃ (a : Option Addr) (cap : Nat) (l : List ExtV), v = .slice a l.length cap ∧ RExts W a cap l ∧ l.length * 40 ≤ reachBytes ∧ ∀ y ∈ l, ExtIn y := by
  obtain ⟨a, len, cap, rfl⟩ := okWide_slice Try.underlying57 hv
  have hlen : len * 40 ≤ reachBytes := by
    obtain ⟨fuel, hf⟩ := h
    rcases open_slice Try.underlying57 hf with ⟨hc, _⟩ | ⟨a', len', cap', m, n, D, Pl, hc, _, _, _, _, hx, _⟩
    · simp [Value.cells] at hc; simp [reachBytes]; omega
    · simp [Value.cells] at hc
      obtain ⟨rfl, rfl, rfl⟩ := hc
      simp only [Prod.mk.injEq] at hx
      have := hr _ _ hx.1
      simp at this
      omega
  obtain ⟨xs, rfl, h1, h2⟩ := open_rows (cells := ExtV.cells) ExtIn Try.underlying57 cExt_ (by omega) (by simp [reachBytes] at hlen; omega) (fun n cs x hx _ => elem_ext hx) h hlt
  exact ⟨a, cap, xs, rfl, h1, hlen, h2⟩
end

end Go.Proofs.Ytjljlcflmcjapaa
