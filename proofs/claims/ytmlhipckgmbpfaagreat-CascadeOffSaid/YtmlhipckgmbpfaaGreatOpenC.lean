/-
  Lists of selectors, declarations and rules as arguments, opened whole.
-/
import Derived.Test.YtmlhipckgmbpfaaGreatOpenM
import Derived.Test.YtmlhipckgmbpfaaGreatCasA
import Derived.Test.YtmlhipckgmbpfaaGreatSyM
namespace Go.Proofs.YtmlhipckgmbpfaaGreat
open Go Go.RowKit Go.ChangeShapes Go.WideShapes Go.ChangeAt Go.Deep
set_option linter.unusedVariables false
set_option linter.unusedSimpArgs false
set_option maxRecDepth 100000
/-- a selector as it lies in a block -/
structure SRow where
  a : Option Addr
  cap : Nat
  l : List PRow
instance : Inhabited SRow := ⟨⟨none, 0, []⟩⟩
def SRow.cells (r : SRow) : List Value := [.slice r.a r.l.length r.cap]
def SRow.ps (r : SRow) : List PartV := r.l.map PRow.p
def SRowIn (W : World) (r : SRow) : Prop := Rows PRow.cells 6 W r.a r.cap r.l ∧ ∀ q ∈ r.l, RowIn W q
def DeclV.cells (y : DeclV) : List Value := [.int .i64 y.prop, .int .i64 y.kind, .int .i64 y.n, .int .i64 y.d, .string y.name, .bool y.loud]
def declNone : DeclV := ⟨0, 0, 0, 0, ⟨#[]⟩, false⟩
instance : Inhabited DeclV := ⟨declNone⟩
section
variable {H : Type} {enc : TypeId × Value → H} {W : World}
theorem bpSel_ : Tryz.prog.bytesOf 45 = 24 := by kernel_rfl
theorem pSels_ : Tryz.prog.cellsOf 31 = 1 := by kernel_rfl
theorem pVal_ : Tryz.prog.cellsOf 40 = 4 := by kernel_rfl
theorem pDecl_ : Tryz.prog.cellsOf 42 = 6 := by kernel_rfl
theorem bpDecl_ : 8 ≤ Tryz.prog.bytesOf 42 := by
  have : Nat.ble 8 (Tryz.prog.bytesOf 42) = true := by kernel_rfl
  exact Nat.le_of_ble_eq_true this
theorem elem_sel {n : Nat} {cs : List Value} {x : DataW H × List MemPlace} (h : DataW.trod enc Tryz.prog W 0 (fun _ => true) true n 45 cs = some x) (hsz : FitsD Tryz.prog 45 x.1) (hz : ∀ z ∈ x.2, z.block < W.heap.size) :
    ∃ r : SRow, cs = r.cells ∧ SRowIn W r := by
  obtain ⟨y0, m, hx, hl, h0⟩ := trod_struct1 Tryz.underlying45 h
  rw [pSel_] at hl
  subst hx
  match cs, hl with
  | [c0], _ =>
    have f0 : DataW.trod enc Tryz.prog W 0 (fun _ => true) true m 43 (List.take (Tryz.prog.cellsOf 43) (List.drop 0 [c0])) = some y0 := h0
    rw [pParts_] at f0
    have f0' : DataW.trod enc Tryz.prog W 0 (fun _ => true) true m 43 [c0] = some y0 := f0
    have hs0 : FitsD Tryz.prog 43 y0.1 := fun n hn => hsz n (by
      show n ∈ DataW.weights Tryz.prog 45 (.agg _)
      unfold DataW.weights
      rw [Tryz.underlying45]
      exact DataW.weights_mem_each (j := 0) (t := 43) (d := y0.1) rfl rfl n hn)
    obtain ⟨a, l, cap, E, R, Q⟩ := rows_in (cells := PRow.cells) (RowIn W) Tryz.underlying43 pPart_ (by omega) (by rw [bpPart_]; omega) hs0 (fun n cs x hx hs hz => elem_part hx hs hz) f0' hz
    exact ⟨⟨a, cap, l⟩, by rw [E]; rfl, R, Q⟩
theorem open_selectors {r : Reach} {b : Nat} {v : Value} {d : DataW H} {p : List MemPlace} (hv : Value.okWide Tryz.prog W r b 31 v) (h : DataW.Trod enc Tryz.prog W 0 (fun _ => true) true 31 v d p) (hlt : ∀ x ∈ p, x.block < W.heap.size) (hsz : FitsD Tryz.prog 31 d) :
    ∃ (a : Option Addr) (cap : Nat) (rs : List SRow), v = .slice a rs.length cap ∧ Rows SRow.cells 1 W a cap rs ∧ ∀ q ∈ rs, SRowIn W q := by
  obtain ⟨a0, n0, c0, rfl⟩ := okWide_slice Tryz.underlying31 hv
  obtain ⟨fuel, hf⟩ := h
  have hf' : DataW.trod enc Tryz.prog W 0 (fun _ => true) true fuel 31 [.slice a0 n0 c0] = some (d, p) := hf
  obtain ⟨a, rs, cap, E, R, Q⟩ := rows_in (cells := SRow.cells) (SRowIn W) Tryz.underlying31 pSel_ (by omega) (by rw [bpSel_]; omega) hsz (fun n cs x hx hs hz => elem_sel hx hs hz) hf' hlt
  exact ⟨a, cap, rs, E, R, Q⟩
theorem elem_decl {n : Nat} {cs : List Value} {x : DataW H × List MemPlace} (h : DataW.trod enc Tryz.prog W 0 (fun _ => true) true n 42 cs = some x) : ∃ y : DeclV, cs = y.cells := by
  obtain ⟨y0, y1, y2, m, _, hl, h0, h1, h2⟩ := trod_struct3 Tryz.underlying42 h
  rw [pDecl_] at hl
  match cs, hl with
  | [c0, c1, c2, c3, c4, c5], _ =>
    have f0 : DataW.trod enc Tryz.prog W 0 (fun _ => true) true m 3 (List.take (Tryz.prog.cellsOf 3) (List.drop 0 [c0, c1, c2, c3, c4, c5])) = some y0 := h0
    have f1 : DataW.trod enc Tryz.prog W 0 (fun _ => true) true m 40 (List.take (Tryz.prog.cellsOf 40) (List.drop 1 [c0, c1, c2, c3, c4, c5])) = some y1 := h1
    have f2 : DataW.trod enc Tryz.prog W 0 (fun _ => true) true m 4 (List.take (Tryz.prog.cellsOf 4) (List.drop 5 [c0, c1, c2, c3, c4, c5])) = some y2 := h2
    rw [pInt_] at f0
    rw [pBool_] at f2
    rw [pVal_] at f1
    have f1' : DataW.trod enc Tryz.prog W 0 (fun _ => true) true m 40 [c1, c2, c3, c4] = some y1 := f1
    obtain ⟨zs, m2, _, hzx, _, hzlen, hf⟩ := DataW.trod_struct Tryz.underlying40 f1'
    have hlen4 : zs.length = 4 := hzlen
    match zs, hlen4 with
    | [z0, z1, z2, z3], _ =>
    have k0 : DataW.trod enc Tryz.prog W 0 (fun _ => true) true m2 3 (List.take (Tryz.prog.cellsOf 3) (List.drop 0 [c1, c2, c3, c4])) = some z0 := hf 0 _ rfl
    have k1 : DataW.trod enc Tryz.prog W 0 (fun _ => true) true m2 3 (List.take (Tryz.prog.cellsOf 3) (List.drop 1 [c1, c2, c3, c4])) = some z1 := hf 1 _ rfl
    have k2 : DataW.trod enc Tryz.prog W 0 (fun _ => true) true m2 3 (List.take (Tryz.prog.cellsOf 3) (List.drop 2 [c1, c2, c3, c4])) = some z2 := hf 2 _ rfl
    have k3 : DataW.trod enc Tryz.prog W 0 (fun _ => true) true m2 9 (List.take (Tryz.prog.cellsOf 9) (List.drop 3 [c1, c2, c3, c4])) = some z3 := hf 3 _ rfl
    rw [pInt_] at k0 k1 k2
    rw [pStr_] at k3
    obtain ⟨n0, e0, _, _⟩ := DataW.trod_int Tryz.underlying3 f0
    obtain ⟨n1, e1, _, _⟩ := DataW.trod_int Tryz.underlying3 k0
    obtain ⟨n2, e2, _, _⟩ := DataW.trod_int Tryz.underlying3 k1
    obtain ⟨n3, e3, _, _⟩ := DataW.trod_int Tryz.underlying3 k2
    obtain ⟨n4, e4, _, _⟩ := DataW.trod_string Tryz.underlying9 k3
    obtain ⟨n5, e5, _⟩ := DataW.trod_bool Tryz.underlying4 f2
    simp at e0 e1 e2 e3 e4 e5
    exact ⟨⟨n0, n1, n2, n3, n4, n5⟩, by rw [e0, e1, e2, e3, e4, e5]; rfl⟩
theorem open_decl {r : Reach} {b : Nat} {v : Value} {d : DataW H} {p : List MemPlace} (hv : Value.okWide Tryz.prog W r b 42 v) (h : DataW.Trod enc Tryz.prog W 0 (fun _ => true) true 42 v d p) :
    ∃ q : DeclV, v = .agg q.cells.toArray := by
  obtain ⟨cs, rfl, hs⟩ := okWide_struct Tryz.underlying42 hv
  obtain ⟨fuel, hf⟩ := h
  have hv1 : (Value.agg cs).cells.toList = cs.toList := rfl
  rw [hv1] at hf
  obtain ⟨q, hq⟩ := elem_decl hf
  exact ⟨q, by rw [← hq]⟩
theorem selsOk_of {a : Option Addr} {cap : Nat} {rs : List SRow} (h : Rows SRow.cells 1 W a cap rs) (hq : ∀ q ∈ rs, SRowIn W q) : SelsOk (rs.map SRow.ps) :=
  ⟨by rw [List.length_map]; exact h.sm, fun ps hp => by
    obtain ⟨r, hr, rfl⟩ := List.mem_map.1 hp
    obtain ⟨r1, r2⟩ := hq r hr
    exact ⟨by unfold SRow.ps; rw [List.length_map]; exact r1.sm, fun p hp => by
      obtain ⟨q, hq, rfl⟩ := List.mem_map.1 hp
      obtain ⟨s1, s2, s3⟩ := r2 q hq
      exact ⟨s3, s1.sm, s2.sm⟩⟩⟩
theorem rel_sview {a : Option Addr} {cap : Nat} {rs : List SRow} (h : Rows SRow.cells 1 W a cap rs) (hq : ∀ q ∈ rs, SRowIn W q) : Sy.rel (Sy.rho0 W) (Sy.sview (rs.map SRow.ps)) (.slice a rs.length cap) := by
  simp only [Sy.rel, List.length_map]
  refine ⟨a, cap, rfl, h.le, h.max, h.nil, fun hn => ?_⟩
  obtain ⟨b, off, rfl, hb, hcell⟩ := h.base (fun e => by rw [e] at hn; simp at hn)
  refine ⟨b, off, rfl, fun i j hi hj => ?_⟩
  have hg : (rs.map SRow.ps).getD i [] = rs[i].ps := by rw [List.getD_eq_getElem?_getD, List.getElem?_map, List.getElem?_eq_getElem hi]; rfl
  obtain ⟨r1, r2⟩ := hq rs[i] (List.getElem_mem hi)
  obtain rfl : j = 0 := by omega
  have hst : ∀ u, (SRow.cells rs[i])[0]? = some u → (Sy.rho0 W).still b (off + i * 1 + 0) = some u := fun u hu => by
    simp only [Sy.rho0, if_pos hb]
    exact hcell i hi 0 u hu
  have key := rel_pview r1 r2
  simp only [Sy.rel] at key
  rw [hg]
  exact ⟨_, hst _ rfl, key, rfl⟩
theorem rel_decl (q : DeclV) : Sy.rel (Sy.rho0 W) (Sy.declA q) (.agg q.cells.toArray) :=
  ⟨_, rfl, _, _, rfl, rfl, _, _, rfl, rfl, _, _, rfl, rfl, _, _, rfl, rfl, _, _, rfl, rfl, _, _, rfl, rfl, rfl⟩
end
end Go.Proofs.YtmlhipckgmbpfaaGreat
namespace Go.Proofs.YtmlhipckgmbpfaaGreat
open Go Go.RowKit Pl Sy
set_option linter.unusedVariables false
set_option linter.unusedSimpArgs false

/-- a rule; its queries are never looked at -/
structure RuleV where
  origin : Int
  ca : Option Addr
  cn : Nat
  cc : Nat
  sels : List (List PartV)
  decls : List DeclV
def ruleNone : RuleV := ⟨0, none, 0, 0, [], []⟩
abbrev Sy.dview (ds : List DeclV) : AV := viewOf DeclV.cells declNone 6 ds
abbrev Sy.ruleL (r : RuleV) : List AV := [int r.origin, .lit (.slice r.ca r.cn r.cc), sview r.sels, dview r.decls]
abbrev Sy.ruleA (r : RuleV) : AV := .agg [int r.origin, .lit (.slice r.ca r.cn r.cc), sview r.sels, dview r.decls]
abbrev Sy.rview (rs : List RuleV) : AV := .view rs.length 4 fun i j => (ruleL (rs.getD i ruleNone)).getD j (.lit undef)
noncomputable abbrev Sy.probeL (pr : Nat → Fr → Mem → Tr (Ex × Fr × Mem)) (l : List (Con Tryz.prog)) (k m : Nat) (f : FuncId) (key : Nat) (F : Fr) (M : Mem) (d : D) : Tr ((Ex × Fr × Mem) × D) := codeK Tryz.prog (table l) (callK Tryz.prog (table l) (fun _ key => some (pr key)) k m) (fun key => some (pr key)) k (theBody Tryz.prog f key) F M d fun ex F' M' d' => .leaf ((ex, F', M'), d')
/-sy sm_p
fun (ns : List NodeW) (rs : List RuleV) (d : D) => probeV SyTool.probe [] 400 30 6 [nview ns, rview rs] M0 d
-/
namespace Sy
abbrev smF (ns : List NodeW) (rs : List RuleV) (n i : Int) : Fr := [some ((@AV.view (ns).length 6 (@ncell ns))), some ((rview (rs))), none, none, some ((boo false)), some (int n), some (int i), none, none, none, none, none, none, none, none, none, none, none, none, none, none, none, none, none, none, none, none, none, none, none, none, none, none, none, none, none, none, none, none, none, none, none, none, none, none, none, none, none, none, none, none, none, none, none, none, none, none, none, none, none, none, none, none, none, none, none]
abbrev smE (ns : List NodeW) (rs : List RuleV) (n : Int) : Fr := [some ((@AV.view (ns).length 6 (@ncell ns))), some ((rview (rs))), none, none, some ((boo false)), some (int n), none, none, none, none, none, none, none, none, none, none, none, none, none, none, none, none, none, none, none, none, none, none, none, none, none, none, none, none, none, none, none, none, none, none, none, none, none, none, none, none, none, none, none, none, none, none, none, none, none, none, none, none, none, none, none, none, none, none, none, none]
end Sy
/-sy sm_p2
fun (ns : List NodeW) (rs : List RuleV) (n i : Int) (d : D) => probeL SyTool.probe [] 400 30 6 4 (smF ns rs n i) M0 d
-/
namespace Sy
abbrev snF (ns : List NodeW) (rs : List RuleV) (n i k : Int) : Fr := [some ((@AV.view (ns).length 6 (@ncell ns))), some ((rview (rs))), none, none, some ((boo false)), some (int n), some (int i), some (int k), none, none, none, none, none, none, none, none, none, none, none, none, none, none, none, none, none, none, none, none, none, none, none, none, none, none, none, none, none, none, none, none, none, none, none, none, none, none, none, none, none, none, none, none, none, none, none, none, none, none, none, none, none, none, none, none, none, none]
abbrev snE (ns : List NodeW) (rs : List RuleV) (n i : Int) : Fr := [some ((@AV.view (ns).length 6 (@ncell ns))), some ((rview (rs))), none, none, some ((boo false)), some (int n), some (int i), none, none, none, none, none, none, none, none, none, none, none, none, none, none, none, none, none, none, none, none, none, none, none, none, none, none, none, none, none, none, none, none, none, none, none, none, none, none, none, none, none, none, none, none, none, none, none, none, none, none, none, none, none, none, none, none, none, none, none]
end Sy
/-sy sn_r
fun (ns : List NodeW) (rs : List RuleV) (n i k : Int) (d : D) => reckL [] [] 400 30 6 8 [true, true, false, false, true, true, true, true, false, false, false, false, false, false, false, false, false, false, false, false, false, false, false, false, false, false, false, false, false, false, false, false, false, false, false, false, false, false, false, false, false, false, false, false, false, false, false, false, false, false, false, false, false, false, false, false, false, false, false, false, false, false, false, false, false, false] (snF ns rs n i k) M0 d
-/
/-- a search: a loop that ends at the first that fits -/
theorem Sy.scanI (id : Nat) {α : Type} {P : Program} {body : Code} (xs : List α) (g : α → Bool) (d : α) (F E : Int → Fr) (M : Mem)
    (step : ∀ (k : Int) (n : Nat) (G : Ex → Fr → Mem → Prop), 0 ≤ k → k ≤ xs.length → (k < xs.length → g (xs.getD k.toNat d) = false → LoopTo P body n (F (k + 1)) M G) → (k < xs.length → g (xs.getD k.toNat d) = true → G .ret (E k) M) → (k = xs.length → G (.exit id) (F k) M) → LoopTo P body (n + 1) (F k) M G) :
    LoopTo P body (xs.length + 1) (F 0) M fun ex F' M' => M' = M ∧ ((0 ≤ idxF g xs 0 ∧ ex = .ret ∧ F' = E (idxF g xs 0)) ∨ (idxF g xs 0 = -1 ∧ ex = .exit id ∧ F' = F xs.length)) := by
  have key : ∀ (l pre : List α) (k : Int), xs = pre ++ l → k = pre.length → LoopTo P body (l.length + 1) (F k) M fun ex F' M' => M' = M ∧ ((0 ≤ idxF g l pre.length ∧ ex = .ret ∧ F' = E (idxF g l pre.length)) ∨ (idxF g l pre.length = -1 ∧ ex = .exit id ∧ F' = F xs.length)) := by
    intro l
    induction l with
    | nil =>
      intro pre k h hk
      have hl : xs.length = pre.length := by rw [h]; simp
      refine step k _ _ (by omega) (by omega) (fun h1 _ => by omega) (fun h1 _ => by omega) (fun h1 => ⟨rfl, .inr ⟨rfl, rfl, by rw [h1]⟩⟩)
    | cons x l ih =>
      intro pre k h hk
      have hl : xs.length = pre.length + l.length + 1 := by rw [h]; simp; omega
      have hg : xs.getD k.toNat d = x := by rw [h]; exact getD_at _ _ _ _ _ hk
      refine step k _ _ (by omega) (by omega) (fun h1 h2 => ?_) (fun h1 h2 => ⟨rfl, .inl ?_⟩) (fun h1 => by omega)
      · rw [hg] at h2
        have e : idxF g (x :: l) pre.length = idxF g l (pre ++ [x]).length := by
          show (if g x then _ else _) = _
          rw [if_neg (by rw [h2]; simp)]
          simp
        rw [e]
        exact ih (pre ++ [x]) (k + 1) (by rw [h]; simp) (by simp; omega)
      · rw [hg] at h2
        have e : idxF g (x :: l) pre.length = (pre.length : Int) := by
          show (if g x then _ else _) = _
          rw [if_pos h2]
        rw [e, hk]
        exact ⟨by omega, rfl, rfl⟩
  exact key xs [] 0 rfl rfl
def SelLen (r : RuleV) : Prop := r.sels.length ≤ 17592186044416
theorem Sy.sn_scan (ns : List NodeW) (rs : List RuleV) (n i : Int) (hi : inR i rs.length = true) (hs : SelLen (rs.getD i.toNat ruleNone)) : LoopTo Tryz.prog (theBody Tryz.prog 6 8) ((rs.getD i.toNat ruleNone).sels.length + 1) (snF ns rs n i 0) M0 fun ex F' M' => M' = M0 ∧ ((0 ≤ idxF bigB (rs.getD i.toNat ruleNone).sels 0 ∧ ex = .ret ∧ F' = snF ns rs n i (idxF bigB (rs.getD i.toNat ruleNone).sels 0)) ∨ (idxF bigB (rs.getD i.toNat ruleNone).sels 0 = -1 ∧ ex = .exit 2 ∧ F' = snF ns rs n i (rs.getD i.toNat ruleNone).sels.length)) :=
  scanI 2 (rs.getD i.toNat ruleNone).sels bigB [] (fun k => snF ns rs n i k) (fun k => snF ns rs n i k) M0 fun k m G h0 h1 c1 c2 c3 => by
    refine roundL [] [] 400 30 6 8 Tryz.func6 rfl (by kernel_rfl) [true, true, false, false, true, true, true, true, false, false, false, false, false, false, false, false, false, false, false, false, false, false, false, false, false, false, false, false, false, false, false, false, false, false, false, false, false, false, false, false, false, false, false, false, false, false, false, false, false, false, false, false, false, false, false, false, false, false, false, false, false, false, false, false, false, false] (.yes (.br (.yes (.yes (.br .done .done))) .done)) (.need (@inR i (rs).length) (.fork (!(leI (((((rs.getD (i).toNat ruleNone)).sels).length : Nat) : Int) k)) (.need (@inR i (rs).length) (.need (@inR k (((rs.getD (i).toNat ruleNone)).sels).length) (.fork (!(leI ((((((rs.getD (i).toNat ruleNone)).sels.getD (k).toNat [])).length : Nat) : Int) (4 : Int))) (.leaf (Ex.ret, ([(some (@AV.view (ns).length 6 (@ncell ns))), (some (rview (rs))), none, none, (some (boo false)), (some (int n)), (some (int i)), (some (int k)), none, none, none, none, none, none, none, none, none, none, none, none, none, none, none, none, none, none, none, none, none, none, none, none, none, none, none, none, none, none, none, none, none, none, none, none, none, none, none, none, none, none, none, none, none, none, none, none, none, none, none, none, none, none, none, none, none, none], (@Mem.mk 0 0 [])))) (.leaf (Ex.norm, ([(some (@AV.view (ns).length 6 (@ncell ns))), (some (rview (rs))), none, none, (some (boo false)), (some (int n)), (some (int i)), (some (int (w64 (k + (1 : Int))))), none, none, none, none, none, none, none, none, none, none, none, none, none, none, none, none, none, none, none, none, none, none, none, none, none, none, none, none, none, none, none, none, none, none, none, none, none, none, none, none, none, none, none, none, none, none, none, none, none, none, none, none, none, none, none, none, none, none], (@Mem.mk 0 0 []))))))) (.leaf ((@Ex.exit 2), ([(some (@AV.view (ns).length 6 (@ncell ns))), (some (rview (rs))), none, none, (some (boo false)), (some (int n)), (some (int i)), (some (int k)), none, none, none, none, none, none, none, none, none, none, none, none, none, none, none, none, none, none, none, none, none, none, none, none, none, none, none, none, none, none, none, none, none, none, none, none, none, none, none, none, none, none, none, none, none, none, none, none, none, none, none, none, none, none, none, none, none, none], (@Mem.mk 0 0 [])))))) (by kernel_rfl) ?_
    unfold SelLen at hs
    refine need_t hi (fork_ok (fun h => ?_) (fun h => ?_))
    · simp only [Bool.not_eq_true', Bool.not_eq_false', leI_t, leI_f, eqI_t, eqI_f, inR_t, inR_f, isSo_t, isSo_f] at h
      have hr : inR k (rs.getD i.toNat ruleNone).sels.length = true := by rw [inR_t]; omega
      refine need_t hi (need_t hr (fork_ok (fun h2 => c2 (by omega) h2) (fun h2 => ?_)))
      rw [w64_in (r := k + 1) (by omega)]
      exact c1 (by omega) h2
    · simp only [Bool.not_eq_true', Bool.not_eq_false', leI_t, leI_f, eqI_t, eqI_f, inR_t, inR_f, isSo_t, isSo_f] at h
      exact c3 (by omega)
namespace Sy
noncomputable abbrev lpSn (ns : List NodeW) (rs : List RuleV) : Lp Tryz.prog where
  f := 6
  key := 8
  S := formS (fun F M => match slotI F 5, slotI F 6, slotI F 7 with | some n, some i, some k => some (n, i, k) | _, _, _ => none) (fun x => snF ns rs x.1 x.2.1 x.2.2) (fun _ => M0) (fun x => (inR x.2.1 rs.length = true ∧ SelLen (rs.getD x.2.1.toNat ruleNone)) ∧ x.2.2 = 0) (fun x => .fork (leI 0 (idxF bigB (rs.getD x.2.1.toNat ruleNone).sels 0)) (.leaf (.ret, snE ns rs x.1 x.2.1, M0)) (.leaf (.exit 2, snE ns rs x.1 x.2.1, M0))) [true, true, false, false, true, true, true, true, false, false, false, false, false, false, false, false, false, false, false, false, false, false, false, false, false, false, false, false, false, false, false, false, false, false, false, false, false, false, false, false, false, false, false, false, false, false, false, false, false, false, false, false, false, false, false, false, false, false, false, false, false, false, false, false, false, false]
  one := by kernel_rfl
  ok := formS_ok fun x ⟨h1, h2⟩ => by
    obtain ⟨n, i, k⟩ := x
    simp only at h1 h2
    subst h2
    refine ⟨(rs.getD i.toNat ruleNone).sels.length + 1, ?_⟩
    refine ((Sy.sn_scan ns rs n i h1.1 h1.2).out [true, true, false, false, true, true, true, false, false, false, false, false, false, false, false, false, false, false, false, false, false, false, false, false, false, false, false, false, false, false, false, false, false, false, false, false, false, false, false, false, false, false, false, false, false, false, false, false, false, false, false, false, false, false, false, false, false, false, false, false, false, false, false, false, false, false]).mono fun ex F M hg => ?_
    obtain ⟨F0, ⟨hM, hg⟩, rfl⟩ := hg
    rcases hg with ⟨q1, rfl, rfl⟩ | ⟨q1, rfl, rfl⟩
    · exact .inl ⟨by rw [leI_t]; exact q1, by rw [hM]; rfl⟩
    · exact .inr ⟨by rw [leI_f, q1]; omega, by rw [hM]; rfl⟩
end Sy
/-sy sm_r
fun (ns : List NodeW) (rs : List RuleV) (n i : Int) (d : D) => reckL [] [lpSn ns rs] 400 30 6 4 [true, true, false, false, true, true, true, false, false, false, false, false, false, false, false, false, false, false, false, false, false, false, false, false, false, false, false, false, false, false, false, false, false, false, false, false, false, false, false, false, false, false, false, false, false, false, false, false, false, false, false, false, false, false, false, false, false, false, false, false, false, false, false, false, false, false] (smF ns rs n i) M0 d
-/
noncomputable def stepN (r : RuleV) (n : Int) : Int := w64 (w64 (n + (r.decls.length : Int)) + (r.sels.length : Int))
/-- how many stand in rules, as far as it is counted; false: one has too many parts -/
noncomputable def smallR : List RuleV → Int → Bool × Int
  | [], n => (true, n)
  | r :: rs, n => if leI 100 n then (true, n) else if leI 0 (idxF bigB r.sels 0) then (false, stepN r n) else smallR rs (stepN r n)
def SelLens (rs : List RuleV) : Prop := rs.length ≤ 17592186044416 ∧ ∀ r ∈ rs, SelLen r
theorem Sy.sm_loop (ns : List NodeW) (rs : List RuleV) (hs : SelLens rs) : ∀ (l pre : List RuleV) (n i : Int), rs = pre ++ l → i = pre.length → LoopTo Tryz.prog (theBody Tryz.prog 6 4) (l.length + 1) (smF ns rs n i) M0 fun ex F' M' => M' = M0 ∧ (((smallR l n).1 = true ∧ ex = .exit 0 ∧ ∃ j, F' = smF ns rs (smallR l n).2 j) ∨ ((smallR l n).1 = false ∧ ex = .ret ∧ ∃ j, F' = smF ns rs (smallR l n).2 j)) := by
  intro l
  induction l with
  | nil =>
    intro pre n i h hi
    have hl : rs.length = pre.length := by rw [h]; simp
    refine roundL [] [lpSn ns rs] 400 30 6 4 Tryz.func6 rfl (by kernel_rfl) [true, true, false, false, true, true, true, false, false, false, false, false, false, false, false, false, false, false, false, false, false, false, false, false, false, false, false, false, false, false, false, false, false, false, false, false, false, false, false, false, false, false, false, false, false, false, false, false, false, false, false, false, false, false, false, false, false, false, false, false, false, false, false, false, false, false] (.br (.auto 1 (.br (.yes (.yes (.br .done .done))) .done)) (.auto 2 .done)) (.fork (!(leI (((rs).length : Nat) : Int) i)) (.fork (!(leI (100 : Int) n)) (.need (@inR i (rs).length) (.need (@inR i (rs).length) (.need (@isSo (@And ([(some (@AV.view (ns).length 6 (@ncell ns))), (some (rview (rs))), none, none, (some (boo false)), (some (int (w64 ((w64 (n + (((((rs.getD (i).toNat ruleNone)).decls).length : Nat) : Int))) + (((((rs.getD (i).toNat ruleNone)).sels).length : Nat) : Int))))), (some (int i)), (some (int (0 : Int))), none, none, none, none, none, none, none, none, none, none, none, none, none, none, none, none, none, none, none, none, none, none, none, none, none, none, none, none, none, none, none, none, none, none, none, none, none, none, none, none, none, none, none, none, none, none, none, none, none, none, none, none, none, none, none, none, none, none] = [(some (@AV.view (ns).length 6 (@ncell ns))), (some (rview (rs))), none, none, (some (boo false)), (some (int (w64 ((w64 (n + (((((rs.getD (i).toNat ruleNone)).decls).length : Nat) : Int))) + (((((rs.getD (i).toNat ruleNone)).sels).length : Nat) : Int))))), (some (int i)), (some (int (Int.ofNat 0))), none, none, none, none, none, none, none, none, none, none, none, none, none, none, none, none, none, none, none, none, none, none, none, none, none, none, none, none, none, none, none, none, none, none, none, none, none, none, none, none, none, none, none, none, none, none, none, none, none, none, none, none, none, none, none, none, none, none]) ((@Mem.mk 0 0 []) = M0))) (.need (@isSo (@And (@And ((@inR i (rs).length) = true) ((((rs.getD (i).toNat ruleNone)).sels).length ≤ 17592186044416)) ((Int.ofNat 0) = (0 : Int)))) (.fork (leI (0 : Int) (@Pl.idxF _ bigB ((rs.getD (i).toNat ruleNone)).sels 0)) (.leaf (Ex.ret, ([(some (@AV.view (ns).length 6 (@ncell ns))), (some (rview (rs))), none, none, (some (boo false)), (some (int (w64 ((w64 (n + (((((rs.getD (i).toNat ruleNone)).decls).length : Nat) : Int))) + (((((rs.getD (i).toNat ruleNone)).sels).length : Nat) : Int))))), (some (int i)), none, none, none, none, none, none, none, none, none, none, none, none, none, none, none, none, none, none, none, none, none, none, none, none, none, none, none, none, none, none, none, none, none, none, none, none, none, none, none, none, none, none, none, none, none, none, none, none, none, none, none, none, none, none, none, none, none, none, none], (@Mem.mk 0 0 [])))) (.leaf (Ex.norm, ([(some (@AV.view (ns).length 6 (@ncell ns))), (some (rview (rs))), none, none, (some (boo false)), (some (int (w64 ((w64 (n + (((((rs.getD (i).toNat ruleNone)).decls).length : Nat) : Int))) + (((((rs.getD (i).toNat ruleNone)).sels).length : Nat) : Int))))), (some (int (w64 (i + (1 : Int))))), none, none, none, none, none, none, none, none, none, none, none, none, none, none, none, none, none, none, none, none, none, none, none, none, none, none, none, none, none, none, none, none, none, none, none, none, none, none, none, none, none, none, none, none, none, none, none, none, none, none, none, none, none, none, none, none, none, none, none], (@Mem.mk 0 0 []))))))))) (.leaf ((@Ex.exit 0), ([(some (@AV.view (ns).length 6 (@ncell ns))), (some (rview (rs))), none, none, (some (boo false)), (some (int n)), (some (int i)), none, none, none, none, none, none, none, none, none, none, none, none, none, none, none, none, none, none, none, none, none, none, none, none, none, none, none, none, none, none, none, none, none, none, none, none, none, none, none, none, none, none, none, none, none, none, none, none, none, none, none, none, none, none, none, none, none, none, none], (@Mem.mk 0 0 []))))) (.leaf ((@Ex.exit 0), ([(some (@AV.view (ns).length 6 (@ncell ns))), (some (rview (rs))), none, none, (some (boo false)), (some (int n)), (some (int i)), none, none, none, none, none, none, none, none, none, none, none, none, none, none, none, none, none, none, none, none, none, none, none, none, none, none, none, none, none, none, none, none, none, none, none, none, none, none, none, none, none, none, none, none, none, none, none, none, none, none, none, none, none, none, none, none, none, none, none], (@Mem.mk 0 0 []))))) (by kernel_rfl) ?_
    refine fork_ok (fun h => ?_) (fun h => ⟨rfl, .inl ⟨rfl, rfl, _, rfl⟩⟩)
    simp only [Bool.not_eq_true', Bool.not_eq_false', leI_t, leI_f, eqI_t, eqI_f, inR_t, inR_f, isSo_t, isSo_f] at h
    omega
  | cons r l ih =>
    intro pre n i h hi
    have hl : rs.length = pre.length + l.length + 1 := by rw [h]; simp; omega
    have hg : rs.getD i.toNat ruleNone = r := by rw [h]; exact getD_at _ _ _ _ _ hi
    have hr : inR i rs.length = true := by rw [inR_t]; omega
    have hrm : SelLen r := hs.2 r (by rw [h]; simp)
    refine roundL [] [lpSn ns rs] 400 30 6 4 Tryz.func6 rfl (by kernel_rfl) [true, true, false, false, true, true, true, false, false, false, false, false, false, false, false, false, false, false, false, false, false, false, false, false, false, false, false, false, false, false, false, false, false, false, false, false, false, false, false, false, false, false, false, false, false, false, false, false, false, false, false, false, false, false, false, false, false, false, false, false, false, false, false, false, false, false] (.br (.auto 1 (.br (.yes (.yes (.br .done .done))) .done)) (.auto 2 .done)) (.fork (!(leI (((rs).length : Nat) : Int) i)) (.fork (!(leI (100 : Int) n)) (.need (@inR i (rs).length) (.need (@inR i (rs).length) (.need (@isSo (@And ([(some (@AV.view (ns).length 6 (@ncell ns))), (some (rview (rs))), none, none, (some (boo false)), (some (int (w64 ((w64 (n + (((((rs.getD (i).toNat ruleNone)).decls).length : Nat) : Int))) + (((((rs.getD (i).toNat ruleNone)).sels).length : Nat) : Int))))), (some (int i)), (some (int (0 : Int))), none, none, none, none, none, none, none, none, none, none, none, none, none, none, none, none, none, none, none, none, none, none, none, none, none, none, none, none, none, none, none, none, none, none, none, none, none, none, none, none, none, none, none, none, none, none, none, none, none, none, none, none, none, none, none, none, none, none] = [(some (@AV.view (ns).length 6 (@ncell ns))), (some (rview (rs))), none, none, (some (boo false)), (some (int (w64 ((w64 (n + (((((rs.getD (i).toNat ruleNone)).decls).length : Nat) : Int))) + (((((rs.getD (i).toNat ruleNone)).sels).length : Nat) : Int))))), (some (int i)), (some (int (Int.ofNat 0))), none, none, none, none, none, none, none, none, none, none, none, none, none, none, none, none, none, none, none, none, none, none, none, none, none, none, none, none, none, none, none, none, none, none, none, none, none, none, none, none, none, none, none, none, none, none, none, none, none, none, none, none, none, none, none, none, none, none]) ((@Mem.mk 0 0 []) = M0))) (.need (@isSo (@And (@And ((@inR i (rs).length) = true) ((((rs.getD (i).toNat ruleNone)).sels).length ≤ 17592186044416)) ((Int.ofNat 0) = (0 : Int)))) (.fork (leI (0 : Int) (@Pl.idxF _ bigB ((rs.getD (i).toNat ruleNone)).sels 0)) (.leaf (Ex.ret, ([(some (@AV.view (ns).length 6 (@ncell ns))), (some (rview (rs))), none, none, (some (boo false)), (some (int (w64 ((w64 (n + (((((rs.getD (i).toNat ruleNone)).decls).length : Nat) : Int))) + (((((rs.getD (i).toNat ruleNone)).sels).length : Nat) : Int))))), (some (int i)), none, none, none, none, none, none, none, none, none, none, none, none, none, none, none, none, none, none, none, none, none, none, none, none, none, none, none, none, none, none, none, none, none, none, none, none, none, none, none, none, none, none, none, none, none, none, none, none, none, none, none, none, none, none, none, none, none, none, none], (@Mem.mk 0 0 [])))) (.leaf (Ex.norm, ([(some (@AV.view (ns).length 6 (@ncell ns))), (some (rview (rs))), none, none, (some (boo false)), (some (int (w64 ((w64 (n + (((((rs.getD (i).toNat ruleNone)).decls).length : Nat) : Int))) + (((((rs.getD (i).toNat ruleNone)).sels).length : Nat) : Int))))), (some (int (w64 (i + (1 : Int))))), none, none, none, none, none, none, none, none, none, none, none, none, none, none, none, none, none, none, none, none, none, none, none, none, none, none, none, none, none, none, none, none, none, none, none, none, none, none, none, none, none, none, none, none, none, none, none, none, none, none, none, none, none, none, none, none, none, none, none], (@Mem.mk 0 0 []))))))))) (.leaf ((@Ex.exit 0), ([(some (@AV.view (ns).length 6 (@ncell ns))), (some (rview (rs))), none, none, (some (boo false)), (some (int n)), (some (int i)), none, none, none, none, none, none, none, none, none, none, none, none, none, none, none, none, none, none, none, none, none, none, none, none, none, none, none, none, none, none, none, none, none, none, none, none, none, none, none, none, none, none, none, none, none, none, none, none, none, none, none, none, none, none, none, none, none, none, none], (@Mem.mk 0 0 []))))) (.leaf ((@Ex.exit 0), ([(some (@AV.view (ns).length 6 (@ncell ns))), (some (rview (rs))), none, none, (some (boo false)), (some (int n)), (some (int i)), none, none, none, none, none, none, none, none, none, none, none, none, none, none, none, none, none, none, none, none, none, none, none, none, none, none, none, none, none, none, none, none, none, none, none, none, none, none, none, none, none, none, none, none, none, none, none, none, none, none, none, none, none, none, none, none, none, none, none], (@Mem.mk 0 0 []))))) (by kernel_rfl) ?_
    have h64 : w64 (i + 1) = i + 1 := w64_in (by have := hs.1; omega)
    refine fork_ok (fun h1 => fork_ok (fun h2 => need_t hr (need_t hr (need_so ⟨rfl, rfl⟩ (need_so ⟨⟨hr, by rw [hg]; exact hrm⟩, rfl⟩ (fork_ok (fun h3 => ?_) (fun h3 => ?_)))))) (fun h2 => ?_)) (fun h1 => ?_)
    · rw [hg] at h3
      have e : smallR (r :: l) n = (false, stepN r n) := by
        show (if leI 100 n then _ else if _ then _ else _) = _
        rw [if_neg (by simpa using h2), if_pos h3]
      rw [e, hg]
      exact ⟨rfl, .inr ⟨rfl, rfl, _, rfl⟩⟩
    · rw [hg] at h3
      have e : smallR (r :: l) n = smallR l (stepN r n) := by
        show (if leI 100 n then _ else if _ then _ else _) = _
        rw [if_neg (by simpa using h2), if_neg (by rw [h3]; simp)]
      rw [e, hg, h64]
      exact ih (pre ++ [r]) (stepN r n) (i + 1) (by rw [h]; simp) (by simp; omega)
    · have e : smallR (r :: l) n = (true, n) := by
        show (if leI 100 n then _ else if _ then _ else _) = _
        rw [if_pos (by simpa using h2)]
      rw [e]
      exact ⟨rfl, .inl ⟨rfl, rfl, _, rfl⟩⟩
    · simp only [Bool.not_eq_true', Bool.not_eq_false', leI_t, leI_f, eqI_t, eqI_f, inR_t, inR_f, isSo_t, isSo_f] at h1
      omega
namespace Sy
noncomputable abbrev lpSm (ns : List NodeW) (rs : List RuleV) : Lp Tryz.prog where
  f := 6
  key := 4
  S := formS (fun F M => match slotI F 5, slotI F 6 with | some n, some i => some (n, i) | _, _ => none) (fun x => smF ns rs x.1 x.2) (fun _ => M0) (fun x => SelLens rs ∧ x.1 = 0 ∧ x.2 = 0) (fun x => .fork (smallR rs 0).1 (.leaf (.exit 0, smE ns rs (smallR rs 0).2, M0)) (.leaf (.ret, smE ns rs (smallR rs 0).2, M0))) [true, true, false, false, true, true, true, false, false, false, false, false, false, false, false, false, false, false, false, false, false, false, false, false, false, false, false, false, false, false, false, false, false, false, false, false, false, false, false, false, false, false, false, false, false, false, false, false, false, false, false, false, false, false, false, false, false, false, false, false, false, false, false, false, false, false]
  one := by kernel_rfl
  ok := formS_ok fun x ⟨h1, h2, h3⟩ => by
    obtain ⟨n, i⟩ := x
    simp only at h2 h3
    subst h2 h3
    refine ⟨rs.length + 1, ?_⟩
    refine ((Sy.sm_loop ns rs h1 rs [] 0 0 rfl rfl).out [true, true, false, false, true, true, false, false, false, false, false, false, false, false, false, false, false, false, false, false, false, false, false, false, false, false, false, false, false, false, false, false, false, false, false, false, false, false, false, false, false, false, false, false, false, false, false, false, false, false, false, false, false, false, false, false, false, false, false, false, false, false, false, false, false, false]).mono fun ex F M hg => ?_
    obtain ⟨F0, ⟨hM, hg⟩, rfl⟩ := hg
    rcases hg with ⟨q1, rfl, _, rfl⟩ | ⟨q1, rfl, _, rfl⟩
    · exact .inl ⟨q1, by rw [hM]; rfl⟩
    · exact .inr ⟨q1, by rw [hM]; rfl⟩
end Sy
/-sy sm_t
fun (ns : List NodeW) (rs : List RuleV) (d : D) => reckV [] [lpSm ns rs] 400 30 6 [nview ns, rview rs] M0 d
-/
noncomputable def smallB (ns : List NodeW) (rs : List RuleV) : Bool := (smallR rs 0).1 && (leI ns.length 30 && (leI rs.length 12 && !leI 100 (smallR rs 0).2))
theorem Sy.sm_t (ns : List NodeW) (rs : List RuleV) (hs : SelLens rs) : CallTo Tryz.prog 6 [nview ns, rview rs] M0 fun v _ => v = boo (smallB ns rs) :=
  toV [] [lpSm ns rs] 400 30 (.br (.br (.auto 2 (.br (.auto 1 .done) (.auto 1 .done))) (.auto 5 .done)) .done) (.need (@isSo (@And (((some (@AV.view (ns).length 6 (@ncell ns))) :: (some (rview (rs))) :: [none, none, (some (boo false)), (some (int (0 : Int))), (some (int (0 : Int))), none, none, none, none, none, none, none, none, none, none, none, none, none, none, none, none, none, none, none, none, none, none, none, none, none, none, none, none, none, none, none, none, none, none, none, none, none, none, none, none, none, none, none, none, none, none, none, none, none, none, none, none, none, none, none, none, none, none, none]) = [(some (@AV.view (ns).length 6 (@ncell ns))), (some (rview (rs))), none, none, (some (boo false)), (some (int (0 : Int))), (some (int (0 : Int))), none, none, none, none, none, none, none, none, none, none, none, none, none, none, none, none, none, none, none, none, none, none, none, none, none, none, none, none, none, none, none, none, none, none, none, none, none, none, none, none, none, none, none, none, none, none, none, none, none, none, none, none, none, none, none, none, none, none, none]) ((@Mem.mk 0 0 []) = M0))) (.need (@isSo (@And (@And ((rs).length ≤ 17592186044416) (∀ (r : RuleV), r ∈ rs → SelLen r)) (@And ((0 : Int) = (0 : Int)) ((0 : Int) = (0 : Int))))) (.fork ((@smallR rs (0 : Int))).fst (.fork (leI (((ns).length : Nat) : Int) (30 : Int)) (.fork (leI (((rs).length : Nat) : Int) (12 : Int)) (.leaf (boo (!(leI (100 : Int) ((@smallR rs (0 : Int))).snd)))) (.leaf (boo false))) (.leaf (boo false))) (.leaf (boo false))))) (by kernel_rfl) (by
    unfold smallB
    refine need_so ⟨rfl, rfl⟩ (need_so ⟨hs, rfl, rfl⟩ ?_)
    repeat' refine fork_ok (fun _ => ?_) (fun _ => ?_)
    all_goals refine leaf_boo ?_
    all_goals simp only [*, Bool.true_and, Bool.false_and, Bool.and_false, Bool.and_true])
noncomputable abbrev Sy.cSmall (ns : List NodeW) (rs : List RuleV) : Con Tryz.prog := atM 6 (fun _ _ => some ()) (fun _ => [nview ns, rview rs]) (fun _ => boo (smallB ns rs)) (fun _ => SelLens rs) fun _ h => ⟨⟨_, rfl⟩, sm_t ns rs h⟩
end Go.Proofs.YtmlhipckgmbpfaaGreat
