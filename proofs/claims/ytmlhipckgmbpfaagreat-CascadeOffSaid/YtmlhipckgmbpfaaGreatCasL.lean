/-
  Rules as arguments, opened whole.
-/
import Derived.Test.YtmlhipckgmbpfaaGreatOpenC
namespace Go.Proofs.YtmlhipckgmbpfaaGreat
open Go Go.RowKit Go.ChangeShapes Go.WideShapes Go.ChangeAt Go.Deep
set_option linter.unusedVariables false
set_option linter.unusedSimpArgs false
set_option maxRecDepth 100000
/-- a rule as it lies in a block -/
structure RRow where
  origin : Int
  ca : Option Addr
  cn : Nat
  cc : Nat
  sa : Option Addr
  sc : Nat
  ss : List SRow
  da : Option Addr
  dc : Nat
  ds : List DeclV
instance : Inhabited RRow := ⟨⟨0, none, 0, 0, none, 0, [], none, 0, []⟩⟩
def RRow.cells (r : RRow) : List Value := [.int .i64 r.origin, .slice r.ca r.cn r.cc, .slice r.sa r.ss.length r.sc, .slice r.da r.ds.length r.dc]
def RRow.r (r : RRow) : RuleV := ⟨r.origin, r.ca, r.cn, r.cc, r.ss.map SRow.ps, r.ds⟩
def RRowIn (W : World) (r : RRow) : Prop := (Rows SRow.cells 1 W r.sa r.sc r.ss ∧ ∀ q ∈ r.ss, SRowIn W q) ∧ Rows DeclV.cells 6 W r.da r.dc r.ds
section
variable {H : Type} {enc : TypeId × Value → H} {W : World}
theorem pRule_ : Tryz.prog.cellsOf 34 = 4 := by kernel_rfl
theorem pQs_ : Tryz.prog.cellsOf 30 = 1 := by kernel_rfl
theorem pDecls_ : Tryz.prog.cellsOf 32 = 1 := by kernel_rfl
theorem bpRule_ : 8 ≤ Tryz.prog.bytesOf 34 := by
  have : Nat.ble 8 (Tryz.prog.bytesOf 34) = true := by kernel_rfl
  exact Nat.le_of_ble_eq_true this
theorem elem_rule {n : Nat} {cs : List Value} {x : DataW H × List MemPlace} (h : DataW.trod enc Tryz.prog W 0 (fun _ => true) true n 34 cs = some x) (hsz : FitsD Tryz.prog 34 x.1) (hz : ∀ z ∈ x.2, z.block < W.heap.size) :
    ∃ r : RRow, cs = r.cells ∧ RRowIn W r := by
  obtain ⟨xs, m, _, hx, hl, hlen, hf⟩ := DataW.trod_struct Tryz.underlying34 h
  rw [pRule_] at hl
  match cs, hl with
  | [c0, c1, c2, c3], _ =>
    have hlen4 : xs.length = 4 := hlen
    match xs, hlen4 with
    | [x0, x1, x2, x3], _ =>
      have f0 : DataW.trod enc Tryz.prog W 0 (fun _ => true) true m 3 (List.take (Tryz.prog.cellsOf 3) (List.drop 0 [c0, c1, c2, c3])) = some x0 := hf 0 _ rfl
      rw [pInt_] at f0
      have f1 : DataW.trod enc Tryz.prog W 0 (fun _ => true) true m 30 (List.take (Tryz.prog.cellsOf 30) (List.drop 1 [c0, c1, c2, c3])) = some x1 := hf 1 _ rfl
      rw [pQs_] at f1
      have f2 : DataW.trod enc Tryz.prog W 0 (fun _ => true) true m 31 (List.take (Tryz.prog.cellsOf 31) (List.drop 2 [c0, c1, c2, c3])) = some x2 := hf 2 _ rfl
      rw [pSels_] at f2
      have f3 : DataW.trod enc Tryz.prog W 0 (fun _ => true) true m 32 (List.take (Tryz.prog.cellsOf 32) (List.drop 3 [c0, c1, c2, c3])) = some x3 := hf 3 _ rfl
      rw [pDecls_] at f3
      obtain ⟨n0, e0, _, w0⟩ := DataW.trod_int Tryz.underlying3 f0
      simp at e0
      subst hx
      have hz2 : ∀ z ∈ x2.2, z.block < W.heap.size := fun z h => hz z (by simp [h])
      have hz3 : ∀ z ∈ x3.2, z.block < W.heap.size := fun z h => hz z (by simp [h])
      have hs2 : FitsD Tryz.prog 31 x2.1 := fun n hn => hsz n (by
        show n ∈ DataW.weights Tryz.prog 34 (.agg _)
        unfold DataW.weights
        rw [Tryz.underlying34]
        exact DataW.weights_mem_each (j := 2) (t := 31) (d := x2.1) rfl rfl n hn)
      have hs3 : FitsD Tryz.prog 32 x3.1 := fun n hn => hsz n (by
        show n ∈ DataW.weights Tryz.prog 34 (.agg _)
        unfold DataW.weights
        rw [Tryz.underlying34]
        exact DataW.weights_mem_each (j := 3) (t := 32) (d := x3.1) rfl rfl n hn)
      have f1' : DataW.trod enc Tryz.prog W 0 (fun _ => true) true m 30 [c1] = some x1 := f1
      have f2' : DataW.trod enc Tryz.prog W 0 (fun _ => true) true m 31 [c2] = some x2 := f2
      have f3' : DataW.trod enc Tryz.prog W 0 (fun _ => true) true m 32 [c3] = some x3 := f3
      obtain ⟨ca, cn, cc, E1⟩ : ∃ (ca : Option Addr) (cn cc : Nat), c1 = .slice ca cn cc := by
        rcases open_slice Tryz.underlying30 f1' with ⟨h1, _⟩ | ⟨a', len, cap', m', n', D, Pl, h1, _⟩
        · simp at h1; exact ⟨_, _, _, h1⟩
        · simp at h1; exact ⟨_, _, _, h1⟩
      obtain ⟨a2, S, cap2, E2, R2, Q2⟩ := rows_in (cells := SRow.cells) (SRowIn W) Tryz.underlying31 pSel_ (by omega) (by rw [bpSel_]; omega) hs2 (fun n cs x hx hs hz => elem_sel hx hs hz) f2' hz2
      obtain ⟨a3, A, cap3, E3, R3, _⟩ := rows_in (cells := DeclV.cells) (fun _ => True) Tryz.underlying32 pDecl_ (by omega) bpDecl_ hs3 (fun n cs x hx _ _ => (elem_decl hx).imp fun y e => ⟨e, trivial⟩) f3' hz3
      exact ⟨⟨n0, ca, cn, cc, a2, cap2, S, a3, cap3, A⟩, by rw [e0, E1, E2, E3]; rfl, ⟨R2, Q2⟩, R3⟩
theorem open_rule {r : Reach} {b : Nat} {v : Value} {d : DataW H} {p : List MemPlace} (hv : Value.okWide Tryz.prog W r b 34 v) (h : DataW.Trod enc Tryz.prog W 0 (fun _ => true) true 34 v d p) (hlt : ∀ x ∈ p, x.block < W.heap.size) (hsz : FitsD Tryz.prog 34 d) :
    ∃ q : RRow, v = .agg q.cells.toArray ∧ RRowIn W q := by
  obtain ⟨cs, rfl, hs⟩ := okWide_struct Tryz.underlying34 hv
  obtain ⟨fuel, hf⟩ := h
  have hv1 : (Value.agg cs).cells.toList = cs.toList := rfl
  rw [hv1] at hf
  obtain ⟨q, hq, hr⟩ := elem_rule hf hsz hlt
  exact ⟨q, by rw [← hq], hr⟩
theorem open_rules {r : Reach} {b : Nat} {v : Value} {d : DataW H} {p : List MemPlace} (hv : Value.okWide Tryz.prog W r b 23 v) (h : DataW.Trod enc Tryz.prog W 0 (fun _ => true) true 23 v d p) (hlt : ∀ x ∈ p, x.block < W.heap.size) (hsz : FitsD Tryz.prog 23 d) :
    ∃ (a : Option Addr) (cap : Nat) (rs : List RRow), v = .slice a rs.length cap ∧ Rows RRow.cells 4 W a cap rs ∧ ∀ q ∈ rs, RRowIn W q := by
  obtain ⟨a0, n0, c0, rfl⟩ := okWide_slice Tryz.underlying23 hv
  obtain ⟨fuel, hf⟩ := h
  have hf' : DataW.trod enc Tryz.prog W 0 (fun _ => true) true fuel 23 [.slice a0 n0 c0] = some (d, p) := hf
  obtain ⟨a, rs, cap, E, R, Q⟩ := rows_in (cells := RRow.cells) (RRowIn W) Tryz.underlying23 pRule_ (by omega) bpRule_ hsz (fun n cs x hx hs hz => elem_rule hx hs hz) hf' hlt
  exact ⟨a, cap, rs, E, R, Q⟩
theorem rel_dview {a : Option Addr} {cap : Nat} {ds : List DeclV} (h : Rows DeclV.cells 6 W a cap ds) : Sy.rel (Sy.rho0 W) (Sy.dview ds) (.slice a ds.length cap) :=
  rel_rows declNone h (fun _ => rfl) (fun y u hu => by
    simp [DeclV.cells] at hu
    rcases hu with rfl | rfl | rfl | rfl | rfl | rfl <;> rfl)
theorem rel_rule {q : RRow} (h : RRowIn W q) : Sy.rel (Sy.rho0 W) (Sy.ruleA q.r) (.agg q.cells.toArray) :=
  ⟨_, rfl, _, _, rfl, rfl, _, _, rfl, rfl, _, _, rfl, rel_sview h.1.1 h.1.2, _, _, rfl, rel_dview h.2, rfl⟩
end
end Go.Proofs.YtmlhipckgmbpfaaGreat
