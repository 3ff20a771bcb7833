/-
  Lists of selectors, declarations and rules as arguments, opened whole.
-/
import Derived.Test.YtmlhipckgmbpfaaGreatOpenM
import Derived.Test.YtmlhipckgmbpfaaGreatCasB
namespace Go.Proofs.YtmlhipckgmbpfaaGreat
open Go Go.RowKit Go.ChangeShapes Go.WideShapes Go.ChangeAt Go.Deep
set_option linter.unusedVariables false
set_option linter.unusedSimpArgs false
set_option maxRecDepth 100000
/-- a selector as it lies in a block -/
structure SRow where
  a : Option Addr
  cap : Nat
  l : List PRow
instance : Inhabited SRow := ⟨⟨none, 0, []⟩⟩
def SRow.cells (r : SRow) : List Value := [.slice r.a r.l.length r.cap]
def SRow.ps (r : SRow) : List PartV := r.l.map PRow.p
def SRowIn (W : World) (r : SRow) : Prop := Rows PRow.cells 6 W r.a r.cap r.l ∧ ∀ q ∈ r.l, RowIn W q
def DeclV.cells (y : DeclV) : List Value := [.int .i64 y.prop, .int .i64 y.kind, .int .i64 y.n, .int .i64 y.d, .string y.name, .bool y.loud]
def declNone : DeclV := ⟨0, 0, 0, 0, ⟨#[]⟩, false⟩
instance : Inhabited DeclV := ⟨declNone⟩
section
variable {H : Type} {enc : TypeId × Value → H} {W : World}
theorem bpSel_ : Tryz.prog.bytesOf 45 = 24 := by kernel_rfl
theorem pSels_ : Tryz.prog.cellsOf 31 = 1 := by kernel_rfl
theorem pVal_ : Tryz.prog.cellsOf 40 = 4 := by kernel_rfl
theorem pDecl_ : Tryz.prog.cellsOf 42 = 6 := by kernel_rfl
theorem bpDecl_ : 8 ≤ Tryz.prog.bytesOf 42 := by
  have : Nat.ble 8 (Tryz.prog.bytesOf 42) = true := by kernel_rfl
  exact Nat.le_of_ble_eq_true this
theorem elem_sel {n : Nat} {cs : List Value} {x : DataW H × List MemPlace} (h : DataW.trod enc Tryz.prog W 0 (fun _ => true) true n 45 cs = some x) (hsz : FitsD Tryz.prog 45 x.1) (hz : ∀ z ∈ x.2, z.block < W.heap.size) :
    ∃ r : SRow, cs = r.cells ∧ SRowIn W r := by
  obtain ⟨y0, m, hx, hl, h0⟩ := trod_struct1 Tryz.underlying45 h
  rw [pSel_] at hl
  subst hx
  match cs, hl with
  | [c0], _ =>
    have f0 : DataW.trod enc Tryz.prog W 0 (fun _ => true) true m 43 (List.take (Tryz.prog.cellsOf 43) (List.drop 0 [c0])) = some y0 := h0
    rw [pParts_] at f0
    have f0' : DataW.trod enc Tryz.prog W 0 (fun _ => true) true m 43 [c0] = some y0 := f0
    have hs0 : FitsD Tryz.prog 43 y0.1 := fun n hn => hsz n (by
      show n ∈ DataW.weights Tryz.prog 45 (.agg _)
      unfold DataW.weights
      rw [Tryz.underlying45]
      exact DataW.weights_mem_each (j := 0) (t := 43) (d := y0.1) rfl rfl n hn)
    obtain ⟨a, l, cap, E, R, Q⟩ := rows_in (cells := PRow.cells) (RowIn W) Tryz.underlying43 pPart_ (by omega) (by rw [bpPart_]; omega) hs0 (fun n cs x hx hs hz => elem_part hx hs hz) f0' hz
    exact ⟨⟨a, cap, l⟩, by rw [E]; rfl, R, Q⟩
theorem open_selectors {r : Reach} {b : Nat} {v : Value} {d : DataW H} {p : List MemPlace} (hv : Value.okWide Tryz.prog W r b 31 v) (h : DataW.Trod enc Tryz.prog W 0 (fun _ => true) true 31 v d p) (hlt : ∀ x ∈ p, x.block < W.heap.size) (hsz : FitsD Tryz.prog 31 d) :
    ∃ (a : Option Addr) (cap : Nat) (rs : List SRow), v = .slice a rs.length cap ∧ Rows SRow.cells 1 W a cap rs ∧ ∀ q ∈ rs, SRowIn W q := by
  obtain ⟨a0, n0, c0, rfl⟩ := okWide_slice Tryz.underlying31 hv
  obtain ⟨fuel, hf⟩ := h
  have hf' : DataW.trod enc Tryz.prog W 0 (fun _ => true) true fuel 31 [.slice a0 n0 c0] = some (d, p) := hf
  obtain ⟨a, rs, cap, E, R, Q⟩ := rows_in (cells := SRow.cells) (SRowIn W) Tryz.underlying31 pSel_ (by omega) (by rw [bpSel_]; omega) hsz (fun n cs x hx hs hz => elem_sel hx hs hz) hf' hlt
  exact ⟨a, cap, rs, E, R, Q⟩
theorem elem_decl {n : Nat} {cs : List Value} {x : DataW H × List MemPlace} (h : DataW.trod enc Tryz.prog W 0 (fun _ => true) true n 42 cs = some x) : ∃ y : DeclV, cs = y.cells := by
  obtain ⟨y0, y1, y2, m, _, hl, h0, h1, h2⟩ := trod_struct3 Tryz.underlying42 h
  rw [pDecl_] at hl
  match cs, hl with
  | [c0, c1, c2, c3, c4, c5], _ =>
    have f0 : DataW.trod enc Tryz.prog W 0 (fun _ => true) true m 3 (List.take (Tryz.prog.cellsOf 3) (List.drop 0 [c0, c1, c2, c3, c4, c5])) = some y0 := h0
    have f1 : DataW.trod enc Tryz.prog W 0 (fun _ => true) true m 40 (List.take (Tryz.prog.cellsOf 40) (List.drop 1 [c0, c1, c2, c3, c4, c5])) = some y1 := h1
    have f2 : DataW.trod enc Tryz.prog W 0 (fun _ => true) true m 4 (List.take (Tryz.prog.cellsOf 4) (List.drop 5 [c0, c1, c2, c3, c4, c5])) = some y2 := h2
    rw [pInt_] at f0
    rw [pBool_] at f2
    rw [pVal_] at f1
    have f1' : DataW.trod enc Tryz.prog W 0 (fun _ => true) true m 40 [c1, c2, c3, c4] = some y1 := f1
    obtain ⟨zs, m2, _, hzx, _, hzlen, hf⟩ := DataW.trod_struct Tryz.underlying40 f1'
    have hlen4 : zs.length = 4 := hzlen
    match zs, hlen4 with
    | [z0, z1, z2, z3], _ =>
    have k0 : DataW.trod enc Tryz.prog W 0 (fun _ => true) true m2 3 (List.take (Tryz.prog.cellsOf 3) (List.drop 0 [c1, c2, c3, c4])) = some z0 := hf 0 _ rfl
    have k1 : DataW.trod enc Tryz.prog W 0 (fun _ => true) true m2 3 (List.take (Tryz.prog.cellsOf 3) (List.drop 1 [c1, c2, c3, c4])) = some z1 := hf 1 _ rfl
    have k2 : DataW.trod enc Tryz.prog W 0 (fun _ => true) true m2 3 (List.take (Tryz.prog.cellsOf 3) (List.drop 2 [c1, c2, c3, c4])) = some z2 := hf 2 _ rfl
    have k3 : DataW.trod enc Tryz.prog W 0 (fun _ => true) true m2 9 (List.take (Tryz.prog.cellsOf 9) (List.drop 3 [c1, c2, c3, c4])) = some z3 := hf 3 _ rfl
    rw [pInt_] at k0 k1 k2
    rw [pStr_] at k3
    obtain ⟨n0, e0, _, _⟩ := DataW.trod_int Tryz.underlying3 f0
    obtain ⟨n1, e1, _, _⟩ := DataW.trod_int Tryz.underlying3 k0
    obtain ⟨n2, e2, _, _⟩ := DataW.trod_int Tryz.underlying3 k1
    obtain ⟨n3, e3, _, _⟩ := DataW.trod_int Tryz.underlying3 k2
    obtain ⟨n4, e4, _, _⟩ := DataW.trod_string Tryz.underlying9 k3
    obtain ⟨n5, e5, _⟩ := DataW.trod_bool Tryz.underlying4 f2
    simp at e0 e1 e2 e3 e4 e5
    exact ⟨⟨n0, n1, n2, n3, n4, n5⟩, by rw [e0, e1, e2, e3, e4, e5]; rfl⟩
theorem open_decl {r : Reach} {b : Nat} {v : Value} {d : DataW H} {p : List MemPlace} (hv : Value.okWide Tryz.prog W r b 42 v) (h : DataW.Trod enc Tryz.prog W 0 (fun _ => true) true 42 v d p) :
    ∃ q : DeclV, v = .agg q.cells.toArray := by
  obtain ⟨cs, rfl, hs⟩ := okWide_struct Tryz.underlying42 hv
  obtain ⟨fuel, hf⟩ := h
  have hv1 : (Value.agg cs).cells.toList = cs.toList := rfl
  rw [hv1] at hf
  obtain ⟨q, hq⟩ := elem_decl hf
  exact ⟨q, by rw [← hq]⟩
theorem selsOk_of {a : Option Addr} {cap : Nat} {rs : List SRow} (h : Rows SRow.cells 1 W a cap rs) (hq : ∀ q ∈ rs, SRowIn W q) : SelsOk (rs.map SRow.ps) :=
  ⟨by rw [List.length_map]; exact h.sm, fun ps hp => by
    obtain ⟨r, hr, rfl⟩ := List.mem_map.1 hp
    obtain ⟨r1, r2⟩ := hq r hr
    exact ⟨by unfold SRow.ps; rw [List.length_map]; exact r1.sm, fun p hp => by
      obtain ⟨q, hq, rfl⟩ := List.mem_map.1 hp
      obtain ⟨s1, s2, s3⟩ := r2 q hq
      exact ⟨s3, s1.sm, s2.sm⟩⟩⟩
theorem rel_sview {a : Option Addr} {cap : Nat} {rs : List SRow} (h : Rows SRow.cells 1 W a cap rs) (hq : ∀ q ∈ rs, SRowIn W q) : Sy.rel (Sy.rho0 W) (Sy.sview (rs.map SRow.ps)) (.slice a rs.length cap) := by
  simp only [Sy.rel, List.length_map]
  refine ⟨a, cap, rfl, h.le, h.max, h.nil, fun hn => ?_⟩
  obtain ⟨b, off, rfl, hb, hcell⟩ := h.base (fun e => by rw [e] at hn; simp at hn)
  refine ⟨b, off, rfl, fun i j hi hj => ?_⟩
  have hg : (rs.map SRow.ps).getD i [] = rs[i].ps := by rw [List.getD_eq_getElem?_getD, List.getElem?_map, List.getElem?_eq_getElem hi]; rfl
  obtain ⟨r1, r2⟩ := hq rs[i] (List.getElem_mem hi)
  obtain rfl : j = 0 := by omega
  have hst : ∀ u, (SRow.cells rs[i])[0]? = some u → (Sy.rho0 W).still b (off + i * 1 + 0) = some u := fun u hu => by
    simp only [Sy.rho0, if_pos hb]
    exact hcell i hi 0 u hu
  have key := rel_pview r1 r2
  simp only [Sy.rel] at key
  rw [hg]
  exact ⟨_, hst _ rfl, key, rfl⟩
theorem rel_decl (q : DeclV) : Sy.rel (Sy.rho0 W) (Sy.declA q) (.agg q.cells.toArray) :=
  ⟨_, rfl, _, _, rfl, rfl, _, _, rfl, rfl, _, _, rfl, rfl, _, _, rfl, rfl, _, _, rfl, rfl, _, _, rfl, rfl, rfl⟩
theorem behind_walk {a : Option Addr} {cap : Nat} {rs : List NRow} (hD : Doc W a cap rs) (i : Int) {sa : Option Addr} {scap : Nat} {ss : List SRow} (hR : Rows SRow.cells 1 W sa scap ss) (hQ : ∀ q ∈ ss, SRowIn W q) (x y : DeclV) (o : Int) :
    Calls Tryz.prog 4 #[.slice a rs.length cap, .int .i64 i, .slice sa ss.length scap, .agg x.cells.toArray, .agg y.cells.toArray, .int .i64 o] W fun e w' => e = .returned (.bool true) ∧ Below W.heap.size W w' :=
  law_trueS (Sy.beh_t (rs.map NRow.n) i (ss.map SRow.ps) x y o hD.ok (selsOk_of hR hQ)) (us := [_, _, _, _, _, _])
    ⟨_, _, rfl, rel_nview hD, _, _, rfl, rfl, _, _, rfl, rel_sview hR hQ, _, _, rfl, rel_decl x, _, _, rfl, rel_decl y, _, _, rfl, rfl, rfl⟩
end
end Go.Proofs.YtmlhipckgmbpfaaGreat
