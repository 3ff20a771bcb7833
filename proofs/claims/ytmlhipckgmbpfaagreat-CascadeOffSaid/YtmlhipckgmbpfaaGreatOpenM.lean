/-
  Lists of nodes, selectors and parts as arguments, opened whole.
-/
import Derived.Test.YtmlhipckgmbpfaaGreatMtDoc
namespace Go.Proofs.YtmlhipckgmbpfaaGreat
open Go Go.RowKit Go.ChangeShapes Go.WideShapes Go.ChangeAt Go.Deep
set_option linter.unusedVariables false
set_option linter.unusedSimpArgs false
set_option maxRecDepth 100000
section
variable {H : Type} {enc : TypeId × Value → H} {W : World}
theorem pAttr_ : Tryz.prog.cellsOf 135 = 2 := by kernel_rfl
theorem pNode_ : Tryz.prog.cellsOf 54 = 6 := by kernel_rfl
theorem pAttrs_ : Tryz.prog.cellsOf 52 = 1 := by kernel_rfl
theorem bpAttr_ : Tryz.prog.bytesOf 135 = 32 := by kernel_rfl
theorem bpNode_ : Tryz.prog.bytesOf 54 = 104 := by kernel_rfl
/-- a slice's length, by its bytes -/
theorem len_in {t e : TypeId} {P : Program} {fuel : Nat} {c : Value} {x : DataW H × List MemPlace} (ht : P.underlying t = some (.slice e)) (hsz : FitsD P t x.1) (h : DataW.trod enc P W 0 (fun _ => true) true fuel t [c] = some x)
    {a : Option Addr} {n cap : Nat} (hc : c = .slice a n cap) : n * P.bytesOf e ≤ reachBytes := by
  rcases open_slice ht h with ⟨h1, _⟩ | ⟨a', len, cap', m, n', D, Pl, h1, hb, hl, hm, hmm, hx, hel⟩
  · simp at h1
    rw [hc] at h1
    simp at h1
    rw [h1.2.1]; simp
  · simp at h1
    rw [hc] at h1
    simp at h1
    obtain ⟨_, rfl, _⟩ := h1
    simp only [if_true] at hmm
    subst hmm
    subst hx
    have := hsz ((((List.range n).map D).length + ((List.range (m - n)).map fun j => D (n + j)).length) * P.bytesOf e) (by simp [DataW.weights, ht])
    simp at this
    have h3 : n * P.bytesOf e ≤ (n + (m - n)) * P.bytesOf e := Nat.mul_le_mul (by omega) (Nat.le_refl _)
    omega
theorem elem_attr {n : Nat} {cs : List Value} {x : DataW H × List MemPlace} (h : DataW.trod enc Tryz.prog W 0 (fun _ => true) true n 135 cs = some x) : ∃ y : AttrV, cs = y.cells ∧ (y.name.size ≤ maxLen ∧ y.value.size ≤ maxLen) := by
  obtain ⟨y0, y1, m, _, hl, h0, h1⟩ := trod_struct2 Tryz.underlying135 h
  rw [pAttr_] at hl
  match cs, hl with
  | [c0, c1], _ =>
    have f0 : DataW.trod enc Tryz.prog W 0 (fun _ => true) true m 9 (List.take (Tryz.prog.cellsOf 9) (List.drop 0 [c0, c1])) = some y0 := h0
    have f1 : DataW.trod enc Tryz.prog W 0 (fun _ => true) true m 9 (List.take (Tryz.prog.cellsOf 9) (List.drop 1 [c0, c1])) = some y1 := h1
    rw [pStr_] at f0 f1
    obtain ⟨n0, e0, _, w0⟩ := DataW.trod_string Tryz.underlying9 f0
    obtain ⟨n1, e1, _, w1⟩ := DataW.trod_string Tryz.underlying9 f1
    simp at e0 e1
    exact ⟨⟨n0, n1⟩, by rw [e0, e1]; rfl, w0, w1⟩
theorem elem_node {n : Nat} {cs : List Value} {x : DataW H × List MemPlace} (h : DataW.trod enc Tryz.prog W 0 (fun _ => true) true n 54 cs = some x) (hsz : FitsD Tryz.prog 54 x.1) (hz : ∀ z ∈ x.2, z.block < W.heap.size) :
    ∃ r : NRow, cs = r.cells ∧ NRowIn W r := by
  obtain ⟨xs, m, _, hx, hl, hlen, hf⟩ := DataW.trod_struct Tryz.underlying54 h
  rw [pNode_] at hl
  match cs, hl with
  | [c0, c1, c2, c3, c4, c5], _ =>
    have hlen6 : xs.length = 6 := hlen
    match xs, hlen6 with
    | [x0, x1, x2, x3, x4, x5], _ =>
      have f0 : DataW.trod enc Tryz.prog W 0 (fun _ => true) true m 3 (List.take (Tryz.prog.cellsOf 3) (List.drop 0 [c0, c1, c2, c3, c4, c5])) = some x0 := hf 0 _ rfl
      rw [pInt_] at f0
      have f1 : DataW.trod enc Tryz.prog W 0 (fun _ => true) true m 9 (List.take (Tryz.prog.cellsOf 9) (List.drop 1 [c0, c1, c2, c3, c4, c5])) = some x1 := hf 1 _ rfl
      rw [pStr_] at f1
      have f2 : DataW.trod enc Tryz.prog W 0 (fun _ => true) true m 9 (List.take (Tryz.prog.cellsOf 9) (List.drop 2 [c0, c1, c2, c3, c4, c5])) = some x2 := hf 2 _ rfl
      rw [pStr_] at f2
      have f3 : DataW.trod enc Tryz.prog W 0 (fun _ => true) true m 51 (List.take (Tryz.prog.cellsOf 51) (List.drop 3 [c0, c1, c2, c3, c4, c5])) = some x3 := hf 3 _ rfl
      rw [pStrs_] at f3
      have f4 : DataW.trod enc Tryz.prog W 0 (fun _ => true) true m 52 (List.take (Tryz.prog.cellsOf 52) (List.drop 4 [c0, c1, c2, c3, c4, c5])) = some x4 := hf 4 _ rfl
      rw [pAttrs_] at f4
      have f5 : DataW.trod enc Tryz.prog W 0 (fun _ => true) true m 9 (List.take (Tryz.prog.cellsOf 9) (List.drop 5 [c0, c1, c2, c3, c4, c5])) = some x5 := hf 5 _ rfl
      rw [pStr_] at f5
      obtain ⟨n0, e0, _, w0⟩ := DataW.trod_int Tryz.underlying3 f0
      obtain ⟨n1, e1, _, w1⟩ := DataW.trod_string Tryz.underlying9 f1
      obtain ⟨n2, e2, _, w2⟩ := DataW.trod_string Tryz.underlying9 f2
      obtain ⟨n5, e5, _, w5⟩ := DataW.trod_string Tryz.underlying9 f5
      simp at e0 e1 e2 e5
      subst hx
      have hz3 : ∀ z ∈ x3.2, z.block < W.heap.size := fun z h => hz z (by simp [h])
      have hz4 : ∀ z ∈ x4.2, z.block < W.heap.size := fun z h => hz z (by simp [h])
      have hs3 : FitsD Tryz.prog 51 x3.1 := fun n hn => hsz n (by
        show n ∈ DataW.weights Tryz.prog 54 (.agg _)
        unfold DataW.weights
        rw [Tryz.underlying54]
        exact DataW.weights_mem_each (j := 3) (t := 51) (d := x3.1) rfl rfl n hn)
      have hs4 : FitsD Tryz.prog 52 x4.1 := fun n hn => hsz n (by
        show n ∈ DataW.weights Tryz.prog 54 (.agg _)
        unfold DataW.weights
        rw [Tryz.underlying54]
        exact DataW.weights_mem_each (j := 4) (t := 52) (d := x4.1) rfl rfl n hn)
      have f3' : DataW.trod enc Tryz.prog W 0 (fun _ => true) true m 51 [c3] = some x3 := f3
      have f4' : DataW.trod enc Tryz.prog W 0 (fun _ => true) true m 52 [c4] = some x4 := f4
      obtain ⟨a3, C, cap3, E3, R3, Q3⟩ := rows_in (cells := strCells) (fun y : ByteArray => y.size ≤ maxLen) Tryz.underlying51 pStr_ (by omega) (by rw [bpStr_]; omega) hs3 (fun n cs x hx _ _ => elem_s hx) f3' hz3
      obtain ⟨a4, A, cap4, E4, R4, Q4⟩ := rows_in (cells := AttrV.cells) (fun y : AttrV => y.name.size ≤ maxLen ∧ y.value.size ≤ maxLen) Tryz.underlying52 pAttr_ (by omega) (by rw [bpAttr_]; omega) hs4 (fun n cs x hx _ _ => elem_attr hx) f4' hz4
      exact ⟨⟨⟨n0, n1, n2, C, A, n5⟩, a3, cap3, a4, cap4⟩, by rw [e0, e1, e2, e5, E3, E4]; rfl, R3, R4, w1, w2, w5, ⟨R3.sm, Q3⟩, R4.sm, Q4⟩
theorem open_doc {r : Reach} {b : Nat} {v : Value} {d : DataW H} {p : List MemPlace} (hv : Value.okWide Tryz.prog W r b 22 v) (h : DataW.Trod enc Tryz.prog W 0 (fun _ => true) true 22 v d p) (hlt : ∀ x ∈ p, x.block < W.heap.size) (hsz : FitsD Tryz.prog 22 d) :
    ∃ (a : Option Addr) (cap : Nat) (rs : List NRow), v = .slice a rs.length cap ∧ Doc W a cap rs := by
  obtain ⟨a0, n0, c0, rfl⟩ := okWide_slice Tryz.underlying22 hv
  obtain ⟨fuel, hf⟩ := h
  have hf' : DataW.trod enc Tryz.prog W 0 (fun _ => true) true fuel 22 [.slice a0 n0 c0] = some (d, p) := hf
  obtain ⟨a, rs, cap, E, R, Q⟩ := rows_in (cells := NRow.cells) (NRowIn W) Tryz.underlying22 pNode_ (by omega) (by rw [bpNode_]; omega) hsz (fun n cs x hx hs hz => elem_node hx hs hz) hf' hlt
  exact ⟨a, cap, rs, E, R, Q⟩
/-- .. and how many classes a part may have -/
theorem elem_part2 {n : Nat} {cs : List Value} {x : DataW H × List MemPlace} (h : DataW.trod enc Tryz.prog W 0 (fun _ => true) true n 74 cs = some x) (hsz : FitsD Tryz.prog 74 x.1) (hz : ∀ z ∈ x.2, z.block < W.heap.size) :
    ∃ r : PRow, cs = r.cells ∧ RowIn W r ∧ r.p.cls.length * 16 ≤ reachBytes := by
  obtain ⟨r, rfl, hr⟩ := elem_part h hsz hz
  refine ⟨r, rfl, hr, ?_⟩
  obtain ⟨xs, m, _, hx, hl, hlen, hf⟩ := DataW.trod_struct Tryz.underlying74 h
  have hlen6 : xs.length = 6 := hlen
  match xs, hlen6 with
  | [x0, x1, x2, x3, x4, x5], _ =>
    have f3 : DataW.trod enc Tryz.prog W 0 (fun _ => true) true m 51 (List.take (Tryz.prog.cellsOf 51) (List.drop 3 r.cells)) = some x3 := hf 3 _ rfl
    rw [pStrs_] at f3
    have f3' : DataW.trod enc Tryz.prog W 0 (fun _ => true) true m 51 [.slice r.a r.p.cls.length r.cap] = some x3 := f3
    subst hx
    have hs3 : FitsD Tryz.prog 51 x3.1 := fun n hn => hsz n (by
      show n ∈ DataW.weights Tryz.prog 74 (.agg _)
      unfold DataW.weights
      rw [Tryz.underlying74]
      exact DataW.weights_mem_each (j := 3) (t := 51) (d := x3.1) rfl rfl n hn)
    have := len_in Tryz.underlying51 hs3 f3' rfl
    rw [bpStr_] at this
    exact this
theorem open_selector2 {r : Reach} {b : Nat} {v : Value} {d : DataW H} {p : List MemPlace} (hv : Value.okWide Tryz.prog W r b 45 v) (h : DataW.Trod enc Tryz.prog W 0 (fun _ => true) true 45 v d p) (hlt : ∀ x ∈ p, x.block < W.heap.size) (hsz : FitsD Tryz.prog 45 d) :
    ∃ (a : Option Addr) (cap : Nat) (l : List PRow), v = .agg #[.slice a l.length cap] ∧ Rows PRow.cells 6 W a cap l ∧ ∀ q ∈ l, RowIn W q ∧ q.p.cls.length * 16 ≤ reachBytes := by
  obtain ⟨cs, rfl, hs⟩ := okWide_struct Tryz.underlying45 hv
  obtain ⟨fuel, hf⟩ := h
  have hv1 : (Value.agg cs).cells.toList = cs.toList := rfl
  rw [hv1] at hf
  obtain ⟨y0, n, hx, hl, h0⟩ := trod_struct1 Tryz.underlying45 hf
  rw [pSel_] at hl
  simp only [Prod.mk.injEq] at hx
  obtain ⟨rfl, rfl⟩ := hx
  match hcs : cs.toList, hl with
  | [c0], _ =>
    rw [hcs] at h0
    have f0 : DataW.trod enc Tryz.prog W 0 (fun _ => true) true n 43 (List.take (Tryz.prog.cellsOf 43) (List.drop 0 [c0])) = some y0 := h0
    rw [pParts_] at f0
    have f0' : DataW.trod enc Tryz.prog W 0 (fun _ => true) true n 43 [c0] = some y0 := f0
    have hs0 : FitsD Tryz.prog 43 y0.1 := fun n hn => hsz n (by
      show n ∈ DataW.weights Tryz.prog 45 (.agg _)
      unfold DataW.weights
      rw [Tryz.underlying45]
      exact DataW.weights_mem_each (j := 0) (t := 43) (d := y0.1) rfl rfl n hn)
    obtain ⟨a, l, cap, E, R, Q⟩ := rows_in (cells := PRow.cells) (fun r => RowIn W r ∧ r.p.cls.length * 16 ≤ reachBytes) Tryz.underlying43 pPart_ (by omega) (by rw [bpPart_]; omega) hs0 (fun n cs x hx hs hz => elem_part2 hx hs hz) f0' hlt
    refine ⟨a, cap, l, ?_, R, Q⟩
    congr 1
    apply Array.toList_inj.1
    rw [hcs, E]
theorem open_part {r : Reach} {b : Nat} {v : Value} {d : DataW H} {p : List MemPlace} (hv : Value.okWide Tryz.prog W r b 74 v) (h : DataW.Trod enc Tryz.prog W 0 (fun _ => true) true 74 v d p) (hlt : ∀ x ∈ p, x.block < W.heap.size) (hsz : FitsD Tryz.prog 74 d) :
    ∃ q : PRow, v = .agg q.cells.toArray ∧ RowIn W q := by
  obtain ⟨cs, rfl, hs⟩ := okWide_struct Tryz.underlying74 hv
  obtain ⟨fuel, hf⟩ := h
  have hv1 : (Value.agg cs).cells.toList = cs.toList := rfl
  rw [hv1] at hf
  obtain ⟨q, hq, hr⟩ := elem_part hf hsz hlt
  exact ⟨q, by rw [← hq], hr⟩
end
end Go.Proofs.YtmlhipckgmbpfaaGreat
