/-
  Lemmas for MarkupBack, part 6; no conditions.
-/
import Derived.Test.YtglkdhmikpejnaaRows
import Derived.ProofKit
import Derived.SizedLaws
import Derived.Deep.Slices
import Derived.Lib.SmallJoins
import Derived.Test.YtglkdhmikpejnaaMkpE
set_option linter.unusedVariables false
set_option linter.unusedSimpArgs false
set_option linter.unusedSectionVars false
namespace Go.Proofs.Ytglkdhmikpejnaa
open Go.RowKit Go.ChangeShapes Go.WideShapes Go.ChangeAt Go.Deep
theorem own : ownKnob Try.prog.godebug = none := by kernel_rfl
theorem laidOut : laidOutB Try.prog = true := by kernel_rfl
section
variable {H : Type} {enc : TypeId × Value → H} {P : Program}
theorem trodAll_below (hl : laidOutB P = true) {W W' : World} (hb : Below W.heap.size W W') : ∀ (ts : List TypeId) (vs : List Value) (ds : List (DataW H)) (ps : List MemPlace),
    (∀ t ∈ ts, P.readableRec t = true ∧ t < P.types.size) → DataW.TrodAll enc P W 0 (fun _ => true) true ts vs ds ps → (∀ x ∈ ps, x.block < W.heap.size) →
    DataW.TrodAll enc P W' 0 (fun b => decide (b < W.heap.size)) true ts vs ds ps
  | [], [], [], ps, _, h, _ => h
  | t :: ts, v :: vs, d :: ds, ps, hr, h, hlt => by
    obtain ⟨p, q, h1, h2, rfl⟩ := h
    obtain ⟨r1, r2⟩ := hr t (by simp)
    exact ⟨p, q, Below.trod hl r1 r2 h1 hb (fun x hx => hlt x (by simp [hx])), trodAll_below hl hb ts vs ds q (fun t ht => hr t (by simp [ht])) h2 (fun x hx => hlt x (by simp [hx])), rfl⟩
  | [], _ :: _, _, _, _, h, _ => h.elim
  | [], [], _ :: _, _, _, h, _ => h.elim
  | _ :: _, [], _, _, _, h, _ => h.elim
  | _ :: _, _ :: _, [], _, _, h, _ => h.elim
theorem trodAll_len {W : World} {base : Nat} {sp : Nat → Bool} {hd : Bool} : ∀ (ts : List TypeId) (vs : List Value) (ds : List (DataW H)) (ps : List MemPlace), DataW.TrodAll enc P W base sp hd ts vs ds ps → ds.length = ts.length
  | [], [], [], _, _ => rfl
  | t :: ts, v :: vs, d :: ds, ps, h => by
    obtain ⟨p, q, _, h2, _⟩ := h
    simp [trodAll_len ts vs ds q h2]
  | [], _ :: _, _, _, h => h.elim
  | [], [], _ :: _, _, h => h.elim
  | _ :: _, [], _, _, h => h.elim
  | _ :: _, _ :: _, [], _, h => h.elim
theorem law_lifted {C : Checked} {os : Os} {f : FuncId} {fn : Func} {s : ChangeSpec} {tb : TypeId}
    (own : ownKnob C.prog.godebug = none) (started : os.Started) (noInit : C.prog.inits.idxOf? f = none) (hfn : C.prog.funcs[f]? = some fn) (hlaid : laidOutB C.prog = true)
    (witness : ∃ (w : World) (tape : Tape) (i : Input), w.os = os ∧ (w.forCall tape i).Shaped C.prog ∧ i.vars = [] ∧ Input.okWide C.prog (w.forCall tape i) .any w.heap.size f i ∧
      s.pre6 enc C.prog fn [] false (w.forCall tape i).memory i.args ∧ ({} : Assume).holds C.prog (lone (Frame.enter C.prog f i.args .normal) [] (w.forCall tape i)))
    (hres : fn.resultTypes = #[tb]) (hb : C.prog.underlying tb = some .bool) (hv : s.vars = [])
    (hspec : ∀ ds : List (DataW H), ds.length = fn.params.toList.length → (s.fn H ds).results = [.lit (.bool true)] ∧ (s.fn H ds).args = ds ∧ (s.fn H ds).vars = [])
    (hreadB : fn.params.toList.all (fun t => C.prog.readableRec t && decide (t < C.prog.types.size)) = true)
    (contract : ∀ (W : World) (base : Nat) (args : Array Value) (ds : List (DataW H)) (p : List MemPlace),
      (∀ (j : Nat) t v, fn.params[j]? = some t → args[j]? = some v → Value.okWide C.prog W .any base t v) →
      DataW.TrodAll enc C.prog W 0 (fun _ => true) true fn.params.toList args.toList ds p → (∀ x ∈ p, x.block < W.heap.size) →
      (DataW.weightsEach C.prog fn.params.toList ds).all (· ≤ reachBytes) = true →
      Calls C.prog f args W fun e W' => e = .returned (.bool true) ∧ Below W.heap.size W W') :
    ReturnsInHanded {} C os f .any (s.pre6 enc C.prog fn [] false) (s.post enc C.prog fn false true false false) := by
  have hread : ∀ t ∈ fn.params.toList, C.prog.readableRec t = true ∧ t < C.prog.types.size := fun t ht => by
    have := List.all_eq_true.1 hreadB t ht
    simpa using this
  refine returnsInHanded_of_change_sized own started noInit hfn witness ?_
  intro W base args ds gs before hval hW _ hsz _
  have hW' := hW
  obtain ⟨p, q, hA, hV, hpq, _, _⟩ := hW
  have hpl : ∀ x ∈ p, x.block < W.heap.size := fun x hx => hW'.lt x (by rw [hpq]; simp [hx])
  rw [hv] at hV
  obtain ⟨hgs, hq⟩ : gs = [] ∧ q = [] := by
    cases gs with
    | nil => exact ⟨rfl, hV⟩
    | cons _ _ => exact hV.elim
  subst hgs
  have hvt : s.plain.varTypes C.prog = [] := by
    have : s.plain.vars = [] := hv
    unfold DataSpec.varTypes
    rw [this]; rfl
  rw [hvt, List.append_nil, List.append_nil] at hsz
  have hlen : ds.length = fn.params.toList.length := trodAll_len _ _ _ _ hA
  obtain ⟨s1, s2, s3⟩ := hspec ds hlen
  refine (contract W base args ds p hval hA hpl hsz).mono fun e W' ⟨he, hbl⟩ => ?_
  subst he
  refine ⟨_, rfl, ds, [], before, [], p, [], hW', ?_, ?_, ?_, hbl.frame _, fun h => by cases h⟩
  · rw [List.append_nil, s1, hres]
    exact trodAll_mk1 (shut_bool hb _)
  · rw [List.append_nil, s2]
    exact trodAll_below hlaid hbl _ _ _ _ hread hA hpl
  · rw [List.append_nil, s3, hv]
    rfl
end
end Go.Proofs.Ytglkdhmikpejnaa
namespace Go.Proofs.Ytglkdhmikpejnaa
open Go.RowKit Go.ChangeShapes Go.WideShapes Go.ChangeAt Go.Deep
section
variable {H : Type} {enc : TypeId × Value → H} {W : World}
theorem weightsAll_mem {P : Program} {e : TypeId} {n : Nat} : ∀ (l : List (DataW H)) (d : DataW H), d ∈ l → n ∈ d.weights P e → n ∈ DataW.weightsAll P e l
  | d' :: r, d, hd, hn => by
    unfold DataW.weightsAll
    rcases List.mem_cons.1 hd with rfl | hd
    · exact List.mem_append_left _ hn
    · exact List.mem_append_right _ (weightsAll_mem r d hd hn)
def FitsD (P : Program) (t : TypeId) (d : DataW H) : Prop := ∀ n ∈ d.weights P t, n ≤ reachBytes
theorem rows_in {α : Type} [Inhabited α] {cells : α → List Value} {s : Nat} {t e : TypeId} {P : Program} {fuel : Nat} {c : Value} {x : DataW H × List MemPlace} (Q : α → Prop)
    (ht : P.underlying t = some (.slice e)) (hce : P.cellsOf e = s) (hs : 0 < s) (hbe : 8 ≤ P.bytesOf e) (hsz : FitsD P t x.1)
    (helem : ∀ n cs x, DataW.trod enc P W 0 (fun _ => true) true n e cs = some x → FitsD P e x.1 → (∀ z ∈ x.2, z.block < W.heap.size) → ∃ y : α, cs = cells y ∧ Q y)
    (h : DataW.trod enc P W 0 (fun _ => true) true fuel t [c] = some x) (hlt : ∀ z ∈ x.2, z.block < W.heap.size) :
    ∃ (a : Option Addr) (xs : List α) (cap : Nat), c = .slice a xs.length cap ∧ Rows cells s W a cap xs ∧ ∀ y ∈ xs, Q y := by
  rcases open_slice ht h with ⟨hc, _⟩ | ⟨a, len, cap, m, n, D, Pl, hc, hb, hl, hm, hmm, hx, hel⟩
  · simp at hc
    subst hc
    exact ⟨none, [], 0, rfl, ⟨by simp, by simp, by simp, fun _ => rfl, fun h => absurd rfl h⟩, by simp⟩
  · simp at hc
    subst hc
    simp only [if_true] at hmm
    subst hmm
    subst hx
    have hlen : len ≤ 17592186044416 := by
      have := hsz ((((List.range len).map D).length + ((List.range (m - len)).map fun j => D (len + j)).length) * P.bytesOf e) (by simp [DataW.weights, ht])
      simp at this
      have h3 : len * 8 ≤ (len + (m - len)) * P.bytesOf e := Nat.mul_le_mul (by omega) hbe
      have h4 : reachBytes = 140737488351232 := by decide
      omega
    have key : ∀ i, i < len → ∃ y : α, W.cells? 0 (a.add (i * s)) s = some (cells y) ∧ Q y := by
      intro i hi
      obtain ⟨cs', h1, h2⟩ := hel i (by omega)
      rw [hce] at h1
      obtain ⟨y, rfl, hq⟩ := helem n cs' _ h2 (fun n hn => hsz n (by
        show n ∈ DataW.weights P t (.slice _ _)
        unfold DataW.weights
        rw [ht]
        exact List.mem_cons_of_mem _ (List.mem_append_left _ (weightsAll_mem _ (D i) (List.mem_map.2 ⟨i, by simpa using hi, rfl⟩) hn)))) (fun z hz => hlt z (by
        simp only [List.mem_append, List.mem_flatMap]
        exact Or.inr ⟨i, by simp; omega, hz⟩))
      exact ⟨y, h1, hq⟩
    obtain ⟨F, hF⟩ := choose_lt key
    refine ⟨some a, (List.range len).map F, m, by simp, ⟨by simpa using hl, by simpa [maxLen] using hm, by simpa using hlen, (fun h => by cases h), fun hne => ?_⟩, ?_⟩
    · have h0 : 0 < len := by
        rcases Nat.eq_zero_or_pos len with h0 | h0
        · subst h0; exact absurd rfl hne
        · exact h0
      obtain ⟨b, off, spot⟩ := a
      have hspot : spot = none := by
        have h1 := (hF 0 h0).1
        obtain ⟨_, hlen, hc⟩ := World.cells?_some h1
        have hc0 := hc 0 (by omega)
        rw [List.getElem?_eq_getElem (by omega)] at hc0
        have := World.cell?_spot hc0
        simpa [Addr.add] using this
      subst hspot
      refine ⟨b, off, rfl, ?_, ?_⟩
      · exact hlt (.cell b off) (by
          simp only [List.mem_append]
          exact Or.inl (MemPlace.mem_row.2 ⟨0, Nat.mul_pos (by omega) (by rw [hce]; exact hs), by simp⟩))
      · intro k hk j u hu
        have hk' : k < len := by simpa using hk
        obtain ⟨_, hlen, hc⟩ := World.cells?_some (hF k hk').1
        simp only [List.getElem_map, List.getElem_range] at hu
        have hj : j < s := by
          rcases Nat.lt_or_ge j s with h' | h'
          · exact h'
          · rw [List.getElem?_eq_none (by omega)] at hu; cases hu
        have := hc j hj
        rw [hu] at this
        rw [← this, add_add]
        unfold Addr.add
        split
        · rename_i hz
          have : k * s = 0 ∧ j = 0 := by omega
          simp [this.1, this.2]
        · simp [Nat.add_assoc]
    · intro y hy
      obtain ⟨i, hi, rfl⟩ := List.mem_map.1 hy
      exact (hF i (by simpa using hi)).2
end
end Go.Proofs.Ytglkdhmikpejnaa
namespace Go.Proofs.Ytglkdhmikpejnaa
open Go Go.RowKit Go.ChangeShapes Go.WideShapes Go.ChangeAt Go.Deep
set_option maxRecDepth 100000
instance : Inhabited ByteArray := ⟨⟨#[]⟩⟩
instance : Inhabited AttrV := ⟨attrNone⟩
structure QRow where
  n : NdV
  a : Option Addr
  cap : Nat
  b : Option Addr
  cbp : Nat
instance : Inhabited QRow := ⟨⟨ndNone, none, 0, none, 0⟩⟩
def QRow.cells (r : QRow) : List Value := [.int .i64 r.n.par, .string r.n.tag, .string r.n.id, .slice r.a r.n.cls.length r.cap, .slice r.b r.n.atts.length r.cbp, .string r.n.text]
def QRowIn (W : World) (r : QRow) : Prop := Rows strCells 1 W r.a r.cap r.n.cls ∧ Rows AttrV.cells 2 W r.b r.cbp r.n.atts ∧ r.n.Ok
section
variable {H : Type} {enc : TypeId × Value → H} {W : World}
theorem pInt_ : Try.prog.cellsOf 3 = 1 := by kernel_rfl
theorem pStr_ : Try.prog.cellsOf 9 = 1 := by kernel_rfl
theorem pStrs_ : Try.prog.cellsOf 26 = 1 := by kernel_rfl
theorem bpStr_ : Try.prog.bytesOf 9 = 16 := by kernel_rfl
theorem pAttr_ : Try.prog.cellsOf 67 = 2 := by kernel_rfl
theorem pNode_ : Try.prog.cellsOf 40 = 6 := by kernel_rfl
theorem pAttrs_ : Try.prog.cellsOf 38 = 1 := by kernel_rfl
theorem bpAttr_ : Try.prog.bytesOf 67 = 32 := by kernel_rfl
theorem bpNode_ : Try.prog.bytesOf 40 = 104 := by kernel_rfl
theorem elem_s {n : Nat} {cs : List Value} {x : DataW H × List MemPlace} (h : DataW.trod enc Try.prog W 0 (fun _ => true) true n 9 cs = some x) : ∃ y : ByteArray, cs = strCells y ∧ y.size ≤ maxLen := by
  obtain ⟨s, e, _, w⟩ := DataW.trod_string Try.underlying9 h
  exact ⟨s, e, w⟩
theorem elem_attr {n : Nat} {cs : List Value} {x : DataW H × List MemPlace} (h : DataW.trod enc Try.prog W 0 (fun _ => true) true n 67 cs = some x) : ∃ y : AttrV, cs = y.cells ∧ (y.name.size ≤ maxLen ∧ y.value.size ≤ maxLen) := by
  obtain ⟨y0, y1, m, _, hl, h0, h1⟩ := trod_struct2 Try.underlying67 h
  rw [pAttr_] at hl
  match cs, hl with
  | [c0, c1], _ =>
    have f0 : DataW.trod enc Try.prog W 0 (fun _ => true) true m 9 (List.take (Try.prog.cellsOf 9) (List.drop 0 [c0, c1])) = some y0 := h0
    have f1 : DataW.trod enc Try.prog W 0 (fun _ => true) true m 9 (List.take (Try.prog.cellsOf 9) (List.drop 1 [c0, c1])) = some y1 := h1
    rw [pStr_] at f0 f1
    obtain ⟨n0, e0, _, w0⟩ := DataW.trod_string Try.underlying9 f0
    obtain ⟨n1, e1, _, w1⟩ := DataW.trod_string Try.underlying9 f1
    simp at e0 e1
    exact ⟨⟨n0, n1⟩, by rw [e0, e1]; rfl, w0, w1⟩
theorem elem_node {n : Nat} {cs : List Value} {x : DataW H × List MemPlace} (h : DataW.trod enc Try.prog W 0 (fun _ => true) true n 40 cs = some x) (hsz : FitsD Try.prog 40 x.1) (hz : ∀ z ∈ x.2, z.block < W.heap.size) :
    ∃ r : QRow, cs = r.cells ∧ QRowIn W r := by
  obtain ⟨xs, m, _, hx, hl, hlen, hf⟩ := DataW.trod_struct Try.underlying40 h
  rw [pNode_] at hl
  match cs, hl with
  | [c0, c1, c2, c3, c4, c5], _ =>
    have hlen6 : xs.length = 6 := hlen
    match xs, hlen6 with
    | [x0, x1, x2, x3, x4, x5], _ =>
      have f0 : DataW.trod enc Try.prog W 0 (fun _ => true) true m 3 (List.take (Try.prog.cellsOf 3) (List.drop 0 [c0, c1, c2, c3, c4, c5])) = some x0 := hf 0 _ rfl
      rw [pInt_] at f0
      have f1 : DataW.trod enc Try.prog W 0 (fun _ => true) true m 9 (List.take (Try.prog.cellsOf 9) (List.drop 1 [c0, c1, c2, c3, c4, c5])) = some x1 := hf 1 _ rfl
      rw [pStr_] at f1
      have f2 : DataW.trod enc Try.prog W 0 (fun _ => true) true m 9 (List.take (Try.prog.cellsOf 9) (List.drop 2 [c0, c1, c2, c3, c4, c5])) = some x2 := hf 2 _ rfl
      rw [pStr_] at f2
      have f3 : DataW.trod enc Try.prog W 0 (fun _ => true) true m 26 (List.take (Try.prog.cellsOf 26) (List.drop 3 [c0, c1, c2, c3, c4, c5])) = some x3 := hf 3 _ rfl
      rw [pStrs_] at f3
      have f4 : DataW.trod enc Try.prog W 0 (fun _ => true) true m 38 (List.take (Try.prog.cellsOf 38) (List.drop 4 [c0, c1, c2, c3, c4, c5])) = some x4 := hf 4 _ rfl
      rw [pAttrs_] at f4
      have f5 : DataW.trod enc Try.prog W 0 (fun _ => true) true m 9 (List.take (Try.prog.cellsOf 9) (List.drop 5 [c0, c1, c2, c3, c4, c5])) = some x5 := hf 5 _ rfl
      rw [pStr_] at f5
      obtain ⟨n0, e0, _, w0⟩ := DataW.trod_int Try.underlying3 f0
      obtain ⟨n1, e1, _, w1⟩ := DataW.trod_string Try.underlying9 f1
      obtain ⟨n2, e2, _, w2⟩ := DataW.trod_string Try.underlying9 f2
      obtain ⟨n5, e5, _, w5⟩ := DataW.trod_string Try.underlying9 f5
      simp at e0 e1 e2 e5
      subst hx
      have hz3 : ∀ z ∈ x3.2, z.block < W.heap.size := fun z h => hz z (by simp [h])
      have hz4 : ∀ z ∈ x4.2, z.block < W.heap.size := fun z h => hz z (by simp [h])
      have hs3 : FitsD Try.prog 26 x3.1 := fun n hn => hsz n (by
        show n ∈ DataW.weights Try.prog 40 (.agg _)
        unfold DataW.weights
        rw [Try.underlying40]
        exact DataW.weights_mem_each (j := 3) (t := 26) (d := x3.1) rfl rfl n hn)
      have hs4 : FitsD Try.prog 38 x4.1 := fun n hn => hsz n (by
        show n ∈ DataW.weights Try.prog 40 (.agg _)
        unfold DataW.weights
        rw [Try.underlying40]
        exact DataW.weights_mem_each (j := 4) (t := 38) (d := x4.1) rfl rfl n hn)
      have f3' : DataW.trod enc Try.prog W 0 (fun _ => true) true m 26 [c3] = some x3 := f3
      have f4' : DataW.trod enc Try.prog W 0 (fun _ => true) true m 38 [c4] = some x4 := f4
      obtain ⟨a3, C, cap3, E3, R3, Q3⟩ := rows_in (cells := strCells) (fun y : ByteArray => y.size ≤ maxLen) Try.underlying26 pStr_ (by omega) (by rw [bpStr_]; omega) hs3 (fun n cs x hx _ _ => elem_s hx) f3' hz3
      obtain ⟨a4, A, cap4, E4, R4, Q4⟩ := rows_in (cells := AttrV.cells) (fun y : AttrV => y.name.size ≤ maxLen ∧ y.value.size ≤ maxLen) Try.underlying38 pAttr_ (by omega) (by rw [bpAttr_]; omega) hs4 (fun n cs x hx _ _ => elem_attr hx) f4' hz4
      exact ⟨⟨⟨n0, n1, n2, C, A, n5⟩, a3, cap3, a4, cap4⟩, by rw [e0, e1, e2, e5, E3, E4]; rfl, R3, R4, w1, w2, ⟨R3.sm, Q3⟩, ⟨R4.sm, Q4⟩, w5⟩
theorem open_nodesV {r : Reach} {b : Nat} {v : Value} {d : DataW H} {p : List MemPlace} (hv : Value.okWide Try.prog W r b 22 v) (h : DataW.Trod enc Try.prog W 0 (fun _ => true) true 22 v d p) (hlt : ∀ x ∈ p, x.block < W.heap.size) (hsz : FitsD Try.prog 22 d) :
    ∃ (a : Option Addr) (cap : Nat) (rs : List QRow), v = .slice a rs.length cap ∧ Rows QRow.cells 6 W a cap rs ∧ ∀ q ∈ rs, QRowIn W q := by
  obtain ⟨a0, n0, c0, rfl⟩ := okWide_slice Try.underlying22 hv
  obtain ⟨fuel, hf⟩ := h
  have hf' : DataW.trod enc Try.prog W 0 (fun _ => true) true fuel 22 [.slice a0 n0 c0] = some (d, p) := hf
  obtain ⟨a, rs, cap, E, R, Q⟩ := rows_in (cells := QRow.cells) (fun r => QRowIn W r) Try.underlying22 pNode_ (by omega) (by rw [bpNode_]; omega) hsz (fun n cs x hx hs hz => elem_node hx hs hz) hf' hlt
  exact ⟨a, cap, rs, E, R, Q⟩
theorem rel_rows {α : Type} {cells : α → List Value} {s : Nat} (d : α) {W : World} {a : Option Addr} {cap : Nat} {xs : List α} (h : Rows cells s W a cap xs) (hc : ∀ x, (cells x).length = s) (ho : ∀ x, ∀ u ∈ cells x, u.oneCell' = true) : Sy.rel (Sy.rho0 W) (Sy.viewOf cells d s xs) (.slice a xs.length cap) := by
  simp only [Sy.viewOf, Sy.rel]
  refine ⟨a, cap, rfl, h.le, h.max, h.nil, fun hn => ?_⟩
  obtain ⟨b, off, rfl, hb, hcell⟩ := h.base (fun e => by rw [e] at hn; simp at hn)
  refine ⟨b, off, rfl, fun i j hi hj => ?_⟩
  have hg : xs.getD i d = xs[i] := by rw [List.getD_eq_getElem?_getD, List.getElem?_eq_getElem hi]; rfl
  have hj' : j < (cells xs[i]).length := by rw [hc]; exact hj
  have hu : (cells xs[i])[j]? = some (cells xs[i])[j] := List.getElem?_eq_getElem hj'
  refine ⟨(cells xs[i])[j], ?_, ?_, ho _ _ (List.getElem_mem _)⟩
  · simp only [Sy.rho0, if_pos hb]
    exact hcell i hi j _ hu
  · rw [hg, List.getD_eq_getElem?_getD, hu]
    simp
theorem rel_nview {a : Option Addr} {cap : Nat} {l : List QRow} (h : Rows QRow.cells 6 W a cap l) (hq : ∀ q ∈ l, QRowIn W q) : Sy.rel (Sy.rho0 W) (Sy.nview (l.map QRow.n)) (.slice a l.length cap) := by
  simp only [Sy.rel, List.length_map]
  refine ⟨a, cap, rfl, h.le, h.max, h.nil, fun hn => ?_⟩
  obtain ⟨b, off, rfl, hb, hcell⟩ := h.base (fun e => by rw [e] at hn; simp at hn)
  refine ⟨b, off, rfl, fun i j hi hj => ?_⟩
  have hg : (l.map QRow.n).getD i ndNone = l[i].n := by rw [List.getD_eq_getElem?_getD, List.getElem?_map, List.getElem?_eq_getElem hi]; rfl
  obtain ⟨r1, r2, _⟩ := hq l[i] (List.getElem_mem hi)
  have hst : ∀ {j : Nat} u, (QRow.cells l[i])[j]? = some u → (Sy.rho0 W).still b (off + i * 6 + j) = some u := fun u hu => by
    simp only [Sy.rho0, if_pos hb]
    exact hcell i hi _ u hu
  unfold Sy.ndcell
  rw [hg]
  rcases j with _ | _ | _ | _ | _ | _ | j
  · exact ⟨_, hst _ rfl, rfl, rfl⟩
  · exact ⟨_, hst _ rfl, rfl, rfl⟩
  · exact ⟨_, hst _ rfl, rfl, rfl⟩
  · refine ⟨_, hst _ rfl, ?_, rfl⟩
    show Sy.rel (Sy.rho0 W) (Sy.cview l[i].n.cls) _
    exact rel_rows (⟨#[]⟩ : ByteArray) r1 (fun _ => rfl) (fun y u hu => by simp [strCells] at hu; rw [hu]; rfl)
  · refine ⟨_, hst _ rfl, ?_, rfl⟩
    show Sy.rel (Sy.rho0 W) (Sy.aview l[i].n.atts) _
    exact rel_rows attrNone r2 (fun _ => rfl) (fun y u hu => by
      simp [AttrV.cells] at hu
      rcases hu with rfl | rfl <;> rfl)
  · exact ⟨_, hst _ rfl, rfl, rfl⟩
  · omega
end
end Go.Proofs.Ytglkdhmikpejnaa
namespace Go.Proofs.Ytglkdhmikpejnaa
open Go Go.RowKit Pl Sy
open Classical in
noncomputable def frN (L : List NdV) : NdV := if h : ∃ n k, TreeF L n k then h.choose else ndNone
open Classical in
noncomputable def frK (L : List NdV) : Ft := if h : ∃ n k, TreeF L n k then h.choose_spec.choose else .nil
theorem fr_ok {L : List NdV} (h : TreeOk L ∧ 0 < L.length) : TreeF L (frN L) (frK L) := by
  have hx := treeF h.1 h.2
  unfold frN frK
  rw [dif_pos hx, dif_pos hx]
  exact hx.choose_spec.choose_spec
noncomputable def prTx (L : List NdV) (b w : ByteArray) : ByteArray := ⟨⟨(Ft.cons (frN L) (frK L) .nil).pr b.data.toList w.data.toList⟩⟩
noncomputable abbrev Sy.cPrR (L : List NdV) : Con Try.prog := atX 10 (fun args => match args with | [_, _, .lit (.string b), .lit (.string w)] => some (b, w) | _ => none) (fun x => [nview L, int 0, .lit (.string x.1), .lit (.string x.2)]) (fun x => .lit (.string (prTx L x.1 x.2))) (fun x => (TreeOk L ∧ 0 < L.length) ∧ x.1.size ≤ 100 ∧ x.2.size ≤ 100) fun x h => ⟨⟨⟨nview_free L, trivial, trivial, trivial, trivial⟩, trivial⟩, print_tree (fr_ok h.1) x.1 x.2 h.2.1 h.2.2⟩
end Go.Proofs.Ytglkdhmikpejnaa
namespace Go.Proofs.Ytglkdhmikpejnaa
open Go Go.RowKit Pl Sy
namespace Sy
end Sy
theorem prTx_size {ns : List NdV} (h : TreeOk ns ∧ 0 < ns.length) (b w : ByteArray) (hb : b.size ≤ 100) (hw : w.size ≤ 100) : (prTx ns b w).size ≤ 10000000 := by
  have hF := fr_ok h
  have h1 := Ft.pr_le b.data.toList w.data.toList _ hF.good
  have h2 : (Ft.cons (frN ns) (frK ns) .nil).sz * (2710 + 3 * b.data.toList.length + w.data.toList.length) ≤ 1024 * 3200 := Nat.mul_le_mul hF.sz (by rw [← size_toList, ← size_toList]; omega)
  show ((Ft.cons (frN ns) (frK ns) .nil).pr b.data.toList w.data.toList).length ≤ _
  omega
end Go.Proofs.Ytglkdhmikpejnaa
namespace Go.Proofs.Ytglkdhmikpejnaa
open Go Go.RowKit Pl Sy
theorem rt3_ge : ∀ (F : Ft) (i : Nat) (x : Int × (List UInt8 × Int)), x ∈ rt3 F i → (i : Int) ≤ x.1
  | .nil, i, x, h => by cases h
  | .cons n k nx, i, x, h => by
    rcases List.mem_cons.1 h with h | h
    · rw [h]; exact Int.le_refl _
    · have := rt3_ge nx (i + 1 + k.sz) x h
      omega
def look3 : List (Int × (List UInt8 × Int)) → Int → List UInt8 × Int
  | [], _ => ([], 0)
  | a :: l, x => if x = a.1 then a.2 else look3 l x
theorem look_rt3 : ∀ (F : Ft) (i : Nat) (x : Int × (List UInt8 × Int)), x ∈ rt3 F i → look3 (rt3 F i) x.1 = x.2
  | .nil, i, x, h => by cases h
  | .cons n k nx, i, x, h => by
    rcases List.mem_cons.1 h with h | h
    · rw [h]; exact if_pos rfl
    · have hg := rt3_ge nx (i + 1 + k.sz) x h
      show (if x.1 = (i : Nat) then _ else look3 (rt3 nx (i + 1 + k.sz)) x.1) = _
      rw [if_neg (by omega)]
      exact look_rt3 nx (i + 1 + k.sz) x h
theorem Sy.wno_all (L : List NdV) (hl : L.length ≤ 1024) : ∀ (F : Ft) (i : Nat) (p : Int), InL L F i p → -1 ≤ p → p < i → OutL L F i → F.good → i + F.sz ≤ L.length →
    ∀ x ∈ rt3 F i, ∀ T a0, AdrOk 0 a0 → limX (T.size + x.2.1.length) → CallTo Try.prog 25 [.ptr 0 0, int x.1] (xM a0 T (nview L)) fun v M' => v = int x.2.2 ∧ XEnd M' (T ++ ⟨⟨x.2.1⟩⟩) (nview L) := by
  intro F
  induction F with
  | nil => intro i p h h0 h1 ho hg hs x hx; cases hx
  | cons n k nx ihk ihn =>
    intro i p h h0 h1 ho hg hs x hx T a0 ha hlim
    have hs' := hs
    simp only [Ft.sz] at hs'
    have hall := h
    obtain ⟨⟨g1, g2⟩, g3, g4⟩ := h
    rcases List.mem_cons.1 hx with hx | hx
    · subst hx
      have ik := ihk (i + 1) (i : Nat) g3 (by omega) (by omega) (OutL.kid hall h0 h1 ho) hg.2.1 (by omega)
      have eN : ndN L (i : Nat) = setP n p := g2
      have hhead : n.cls.length ≤ 1000 ∧ n.atts.length ≤ 1000 := by
        by_cases ht : n.tag.data.toList = []
        · obtain ⟨t1, t2, t3, t4⟩ := nd_words hg.1.1 ht
          rw [t2, t3]
          exact ⟨Nat.zero_le _, Nat.zero_le _⟩
        · obtain ⟨_, q2, _⟩ := elem_mk (nd_elem hg.1.1 ht)
          exact ⟨by have := q2.cls.1; omega, by have := q2.ats.1; omega⟩
      have e : prOne [] (ndN L (i : Nat)) k (k.pr [] [32]) = prOne [] n k (k.pr [] [32]) := by rw [eN]; rfl
      have key := wno_t L (by omega) ⟨fun y => (look3 (rt3 k (i + 1)) y).1, fun y => (look3 (rt3 k (i + 1)) y).2, fun y => ∃ x ∈ rt3 k (i + 1), x.1 = y⟩ ⟨fun T y ⟨x, hx, hy⟩ hlx a1 ha1 => by
        subst hy
        simp only [look_rt3 k (i + 1) x hx] at hlx ⊢
        exact ik x hx T a1 ha1 hlx⟩ i g1 k a0 ha T (by rw [eN]; exact hhead) (by rw [eN]; exact fun q => hg.1.2 q) ⟨g3, by omega, by omega, fun hlt => OutL.last hall h0 h1 ho hlt, fun x hx => ⟨⟨x, hx, rfl⟩, by simp only [look_rt3 k (i + 1) x hx], by simp only [look_rt3 k (i + 1) x hx]⟩⟩ (by rw [e]; exact hlim)
      rw [e] at key
      exact key
    · exact ihn (i + 1 + k.sz) p g4 h0 (by omega) (OutL.next hall h0 h1 ho) hg.2.2 (by omega) x hx T a0 ha hlim
namespace Sy
noncomputable def xNil (M : Mem) (wb : Nat) (z : AV) : Mem := (M.push (byB 0 (tcell ⟨⟨[]⟩⟩))).put wb (some (wwB (.lit (.pointer none)) (.own M.top 0 1) z))
abbrev wwB0 (z : AV) : Blk := wwB (.lit (.pointer none)) (.lit (.slice none 0 0)) z
theorem xNil_get {M : Mem} {wb : Nat} {z : AV} (h : M.get wb = some (wwB0 z)) : (xNil M wb z).get wb = some (wwB (.lit (.pointer none)) (.own M.top 0 1) z) ∧ (xNil M wb z).get M.top = some (byB 0 (tcell ⟨⟨[]⟩⟩)) := by
  have hlt := Mem.get_lt h
  have hold : (M.push (byB 0 (tcell ⟨⟨[]⟩⟩))).get wb = some (wwB0 z) := by rw [Mem.get_push_old _ _ hlt]; exact h
  have hlt' : wb < (M.push (byB 0 (tcell ⟨⟨[]⟩⟩))).top := by show wb < M.top + 1; omega
  unfold xNil
  exact ⟨put_get hold, by rw [Mem.get_put_ne _ hlt' (by omega), Mem.get_push_new]⟩
theorem CallTo.nilX {P : Program} {f : FuncId} {args : List AV} {M : Mem} {wb : Nat} {z : AV} {G : AV → Mem → Prop} (hb : M.get wb = some (wwB0 z)) (h : CallTo P f args (xNil M wb z) G) : CallTo P f args M G := fun w0 ρ us w hr hW => by
  obtain ⟨h1, h2, h3⟩ := hW.virt 5 1 (tcell ⟨⟨[]⟩⟩)
  have hlt := Mem.get_lt hb
  have hlt' : wb < (M.push (byB 0 (tcell ⟨⟨[]⟩⟩))).top := by show wb < M.top + 1; omega
  have h4 : WR w0 (nilled ρ M.top) (xNil M wb z) w := by
    refine WR.swap h3 (Nat.le_refl _) fun b' B' hb' => ?_
    rcases Mem.get_put hlt' hb' with ⟨rfl, hB⟩ | ⟨hne, hB⟩
    · simp at hB; subst hB
      refine ⟨wwB0 z, by rw [Mem.get_push_old _ _ hlt]; exact hb, rfl, fun cur hH => ⟨fun k v hv => ?_, hH.2⟩, .inr (by simp)⟩
      rcases k with _ | _ | _ | k
      · exact hH.1 0 v hv
      · simp at hv; subst hv
        obtain ⟨u, q1, q2⟩ := hH.1 1 _ rfl
        refine ⟨u, q1, ?_⟩
        simp only [rel] at q2 ⊢
        exact .inl ⟨h2, trivial, q2⟩
      · exact hH.1 2 v hv
      · simp at hv
    · exact ⟨B', hB, rfl, fun cur hH => hH, .inl rfl⟩
  refine (h w0 (nilled ρ M.top) us w (rels.ext h1 hr) h4).mono ?_
  rintro e w' ⟨ρ', u, v, M', q1, q2, q3, q4, q5⟩
  exact ⟨ρ', u, v, M', q1, h1.trans q2, q3, q4, q5⟩
end Sy
def spB : ByteArray := ⟨⟨[32]⟩⟩
noncomputable def wrTx (L : List NdV) : ByteArray := prTx L ⟨⟨[]⟩⟩ spB
theorem Sy.node0_at {L : List NdV} (h : TreeOk L ∧ 0 < L.length) {M : Mem} {wb : Nat} (hb : M.get wb = some (wwB0 (nview L))) : CallTo Try.prog 25 [.ptr wb 0, int 0] M fun v M' => v = int (L.length : Nat) ∧ M' = xRes (xNil M wb (nview L)) wb M.top 0 (tcell ⟨⟨[]⟩⟩) (wrTx L) (nview L) := by
  have hF := fr_ok h
  obtain ⟨g0, g1⟩ := xNil_get hb
  have hz := prTx_size h ⟨⟨[]⟩⟩ spB (by decide) (by decide)
  have e : (Ft.cons (frN L) (frK L) .nil).pr [] [32] = prOne [] (frN L) (frK L) ((frK L).pr [] [32]) := by
    show _ ++ [] = _
    rw [List.append_nil]
  have eW : wrTx L = ⟨⟨prOne [] (frN L) (frK L) ((frK L).pr [] [32])⟩⟩ := by
    unfold wrTx prTx
    rw [← e]
    rfl
  have hlen : ((0 + 1 + (frK L).sz : Nat) : Int) = (L.length : Nat) := by
    rw [hF.len]
    simp only [Ft.sz]
    omega
  refine CallTo.nilX hb (conX_frame (T := ⟨⟨[]⟩⟩) (rest := [int 0]) (v0 := int (L.length : Nat)) (fun a0 ha => ?_) ⟨trivial, trivial⟩ trivial (nview_free L) g0 g1 (show TIs 0 (tcell ⟨⟨[]⟩⟩) ⟨⟨[]⟩⟩ from ⟨rfl, fun _ _ _ _ => rfl⟩) (.inl rfl))
  have key := wno_all L (by rw [hF.len]; exact hF.sz) (Ft.cons (frN L) (frK L) .nil) 0 (-1) hF.lies (Int.le_refl _) (by omega) hF.out hF.good (by rw [hF.len]; omega) _ (List.mem_cons_self ..) ⟨⟨[]⟩⟩ a0 ha (by
    simp only
    have : (wrTx L).size ≤ 10000000 := hz
    rw [eW] at this
    have h2 : (ByteArray.mk (Array.mk (prOne [] (frN L) (frK L) ((frK L).pr [] [32])))).size = (prOne [] (frN L) (frK L) ((frK L).pr [] [32])).length := rfl
    unfold limX
    show 0 + (prOne [] (frN L) (frK L) ((frK L).pr [] [32])).length ≤ _
    omega)
  simp only at key
  rw [hlen] at key
  rw [eW]
  exact key
end Go.Proofs.Ytglkdhmikpejnaa
namespace Go.Proofs.Ytglkdhmikpejnaa
open Go Go.RowKit Pl Sy
structure Nw0X where
  wb : Nat
  z : AV
noncomputable def nw0Get2 (M : Mem) (wb : Nat) : Option Blk → Option Nw0X
  | some ⟨[.lit (.pointer none), .lit (.slice none 0 0), z], e, none⟩ => match Nat.beq e 62 with
    | true => some ⟨wb, z⟩
    | false => none
  | _ => none
noncomputable def nw0Get (args : List AV) (M : Mem) : Option Nw0X := match args with
  | [.ptr wb 0, .lit (.int .i64 0)] => nw0Get2 M wb (M.get wb)
  | _ => none
theorem nw0Get_ok {args : List AV} {M : Mem} {x : Nw0X} (h : nw0Get args M = some x) : args = [.ptr x.wb 0, int 0] ∧ M.get x.wb = some (wwB0 x.z) := by
  unfold nw0Get at h
  split at h
  · rename_i wb
    cases hg : M.get wb with
    | none => rw [hg] at h; cases h
    | some B =>
      rw [hg] at h
      unfold nw0Get2 at h
      split at h
      · rename_i z e heq
        simp at heq
        subst heq
        split at h
        · rename_i hb
          have h1 := Nat.eq_of_beq_eq_true hb
          subst h1
          simp at h
          subst h
          exact ⟨rfl, hg⟩
        · cases h
      · cases h
  · cases h
open Classical in
noncomputable abbrev Sy.cNw0 (L : List NdV) : Con Try.prog where
  f := 25
  run := fun args M => match nw0Get args M with
    | some x => some (int (L.length : Nat), xRes (xNil M x.wb x.z) x.wb M.top 0 (tcell ⟨⟨[]⟩⟩) (wrTx L) x.z)
    | none => none
  ob := fun args M => match nw0Get args M with
    | some x => some (isSo (x.z = nview L ∧ TreeOk L ∧ 0 < L.length))
    | none => none
  ok := fun args M v M' hr hob => by
    cases hg : nw0Get args M with
    | none => rw [hg] at hr; cases hr
    | some x =>
      rw [hg] at hr hob
      simp at hr
      obtain ⟨rfl, rfl⟩ := hr
      have h1 := hob _ rfl
      rw [isSo_t] at h1
      obtain ⟨hz, hL⟩ := h1
      obtain ⟨rfl, hb⟩ := nw0Get_ok hg
      rw [hz] at hb ⊢
      refine ⟨?_, node0_at hL hb⟩
      unfold xRes xNil
      exact ((((Grow.push M _).trans (Grow.put _ _ _)).trans (Grow.put _ _ _)).trans (Grow.put _ _ _)).trans (Grow.push _ _)
end Go.Proofs.Ytglkdhmikpejnaa
namespace Go.Proofs.Ytglkdhmikpejnaa
open Go Go.RowKit Pl Sy
def emB : ByteArray := ⟨⟨[]⟩⟩
noncomputable def pEx (L : List NdV) : Int := if eqI (ckI L) 0 = true then (if leI (wrTx L).size 32768 = true then 0 else 2) else 34
noncomputable def pSx (L : List NdV) : ByteArray := if eqI (ckI L) 0 = true then (if leI (wrTx L).size 32768 = true then wrTx L else emB) else emB
theorem wrTx_pos {L : List NdV} (h : TreeOk L ∧ 0 < L.length) : (wrTx L).size ≠ 0 := by
  have hF := fr_ok h
  have hg : (Ft.cons (frN L) (frK L) .nil).good := hF.good
  have ht := hF.tag
  unfold wrTx prTx
  rw [size_toList]
  simp only [Ft.pr, prOne, if_neg ht]
  unfold headL
  intro e
  have h1 := List.length_eq_zero_iff.1 e
  simp only [List.append_eq_nil_iff] at h1
  exact ht h1.1.1.1
theorem wrTx_of {L : List NdV} : textOf (0 + (wrTx L).size) (appc 0 (tcell ⟨⟨[]⟩⟩) (tcell (wrTx L))) = wrTx L := by
  have h : TIs (0 + (wrTx L).size) (appc 0 (tcell ⟨⟨[]⟩⟩) (tcell (wrTx L))) (⟨⟨[]⟩⟩ ++ wrTx L) := TIs.app2 (show TIs 0 (tcell ⟨⟨[]⟩⟩) ⟨⟨[]⟩⟩ from ⟨rfl, fun _ _ _ _ => rfl⟩) _
  rw [textOf_eq h]
  exact ba_ext (by simp)
theorem Sy.pri_t (L : List NdV) (h : NsOk L) : CallTo Try.prog 13 [nview L] M0 fun v _ => v = .tup [.lit (.string (pSx L)), int (pEx L)] :=
  to (G := fun r => r.1 = .tup [.lit (.string (pSx L)), int (pEx L)]) [cTck L, cNw0 L, cSt] [] 400 30 (.yes (.br .done (.yes (.br .done (.yes .done))))) (let e1 := (@AV.view (L).length 6 (@ndcell L)); let e2 := (@ByteArray.mk (@Array.mk _ [])); let e3 := (0 + (@ByteArray.size (@wrTx L))); let e4 := (((0 + 1) + 1) + 1); let e5 := (@appc 0 (@tcell e2) (@tcell (@wrTx L))); let e6 := (some (@Blk.mk [(@AV.ptr 0 0), (@AV.own ((0 + 1) + 1) e3 1), e1] 62 none)); (.need (@isSo (@And ((@HAppend.hAppend _ _ _ _ (@HAppend.hAppend _ _ _ _ [] [e1]) []) = [e1]) (@NsOk L))) (.fork (!(eqI (@ckI L) (0 : Int))) (.leaf ((@AV.tup [(@AV.lit (@Value.string e2)), (int (34 : Int))]), (@Mem.mk 0 0 []))) (.need (@isSo (@And (e1 = e1) (@And (@TreeOk L) (0 < (L).length)))) (.fork (!(leI ((e3 : Nat) : Int) (32768 : Int))) (.leaf ((@AV.tup [(@AV.lit (@Value.string e2)), (int (2 : Int))]), (@Mem.mk e4 e4 ((some (@Blk.mk [] 5 (some (@Rw.mk e3 1 e5)))) :: [none, e6])))) (.need (@isSo (@And (([] : List AV) = []) (@And (@ByRows e3 e5) (@And (e3 = e3) (@Not (e3 = 0)))))) (.leaf ((@AV.tup [(@AV.lit (@Value.string (@textOf e3 e5))), (int (0 : Int))]), (@Mem.mk e4 (e4 + 1) (none :: [none, e6])))))))))) (by kernel_rfl) (by
    have eT := wrTx_of (L := L)
    refine need_so ⟨rfl, h⟩ (fork_ok (fun q => ?_) (fun q => ?_))
    · have q : eqI (ckI L) 0 = false := by simpa using q
      unfold pSx pEx
      rw [if_neg (by rw [q]; simp), if_neg (by rw [q]; simp)]
      exact rfl
    · have q : eqI (ckI L) 0 = true := by simpa using q
      obtain ⟨t1, t2⟩ := ckI_ok h (by rw [eqI_t] at q; exact q)
      have e0 : leI (((0 + (wrTx L).size : Nat)) : Int) 32768 = leI (wrTx L).size 32768 := by rw [Nat.zero_add]
      unfold pSx pEx
      rw [if_pos q, if_pos q]
      refine need_so ⟨rfl, t1, t2⟩ (fork_ok (fun r => ?_) (fun r => ?_))
      · have r : leI (wrTx L).size 32768 = false := by rw [← e0]; simpa using r
        rw [if_neg (by rw [r]; simp), if_neg (by rw [r]; simp)]
        exact rfl
      · have r : leI (wrTx L).size 32768 = true := by rw [← e0]; simpa using r
        rw [if_pos r, if_pos r]
        have hp := wrTx_pos ⟨t1, t2⟩
        refine need_so ⟨rfl, ⟨_, TIs.app2 (show TIs 0 (tcell ⟨⟨[]⟩⟩) ⟨⟨[]⟩⟩ from ⟨rfl, fun _ _ _ _ => rfl⟩) _⟩, rfl, by omega⟩ ?_
        show _ = _
        rw [eT])
noncomputable abbrev Sy.cPri (L : List NdV) : Con Try.prog := at1 13 [nview L] (.tup [.lit (.string (pSx L)), int (pEx L)]) (NsOk L) fun h => ⟨⟨⟨nview_free L, trivial⟩, trivial, trivial, trivial⟩, pri_t L h⟩
end Go.Proofs.Ytglkdhmikpejnaa
namespace Go.Proofs.Ytglkdhmikpejnaa
open Go Go.RowKit Pl Sy
theorem back_read {ns : List NdV} (h : TreeOk ns ∧ 0 < ns.length) : treeR (wrTx ns) = .ok (wrTx ns).size ns := by
  have hF := fr_ok h
  have key := read_all (s := wrTx ns) (b := []) (w := [32]) (bl := []) (br := []) rfl rfl (by simp) rfl rfl hF.good hF.tag hF.sz hF.ht (by
    unfold wrTx prTx spB
    simp)
  rw [← hF.fl] at key
  exact key
theorem back_p {ns : List NdV} (h : TreeOk ns ∧ 0 < ns.length) (hl : leI (wrTx ns).size 32768 = true) : pE (wrTx ns) = 0 ∧ pNs (wrTx ns) = ns := by
  have hrd := back_read h
  exact ⟨by unfold pE; rw [hl, hrd]; rfl, by unfold pNs; rw [hl, hrd]; rfl⟩
theorem beq_self (l : List UInt8) : bytesEq l l = true := by rw [bytesEq_eq]; simp
theorem Sy.bac_t (ns : List NdV) (hO : NsOk ns) : CallTo Try.prog 6 [nview ns] M0 fun v _ => v = boo true :=
  toV [cCk ns, cPri ns, cPrR ns, cPar, c_sm ns, cKno] [] 400 30 (.br (.yes .done) (.yes (.yes (.br (.br (.auto 1 (.br (.yes (.auto 0 .done)) (.auto 0 .done))) (.auto 3 .done)) (.yes (.br (.br (.auto 1 (.br (.yes (.auto 0 .done)) (.auto 0 .done))) (.auto 3 .done)) (.yes (.br (.auto 2 (.br (.auto 1 (.br (.auto 1 (.yes (.auto 1 (.yes (.auto 0 .done))))) (.auto 4 .done))) (.auto 7 .done))) (.auto 11 .done))))))))) (let e1 := (@AV.view (ns).length 6 (@ndcell ns)); let e2 := (@isSo (@And ((@HAppend.hAppend _ _ _ _ (@HAppend.hAppend _ _ _ _ [] [e1]) []) = [e1]) (@NsOk ns))); let e3 := (@Array.toList _ (@ByteArray.data (@pSx ns))); let e4 := (@ByteArray.mk (@Array.mk _ [])); let e5 := (@ByteArray.mk (@Array.mk _ [(32 : UInt8)])); let e6 := (@AV.lit (@Value.string (@pSx ns))); (.fork (!(leI (((ns).length : Nat) : Int) (60 : Int))) (.need (@isSo (@And ((@HAppend.hAppend _ _ _ _ (@HAppend.hAppend _ _ _ _ ([] : List AV) ([] : List AV)) []) = []) True)) (.leaf (boo true))) (.need e2 (.need e2 (.fork (!(eqI (@ckI ns) (0 : Int))) (.fork (eqI (@pEx ns) (34 : Int)) (.fork (@bytesEq e3 (@Array.toList _ (@ByteArray.data e4))) (.need (@isSo (@And ((@HAppend.hAppend _ _ _ _ (@HAppend.hAppend _ _ _ _ ([] : List AV) ([] : List AV)) []) = []) True)) (.leaf (boo true))) (.leaf (boo false))) (.leaf (boo false))) (.need (@isSo (@And ((@HAppend.hAppend _ _ _ _ (@HAppend.hAppend _ _ _ _ [] [e1, (int (0 : Int)), (@AV.lit (@Value.string e4)), (@AV.lit (@Value.string e5))]) []) = [e1, (int (0 : Int)), (@AV.lit (@Value.string e4)), (@AV.lit (@Value.string e5))]) (@And (@And (@TreeOk ns) (0 < (ns).length)) (@And (0 ≤ 100) (1 ≤ 100))))) (.fork (!(leI (((@ByteArray.size (@prTx ns e4 e5)) : Nat) : Int) (32768 : Int))) (.fork (eqI (@pEx ns) (2 : Int)) (.fork (@bytesEq e3 (@Array.toList _ (@ByteArray.data e4))) (.need (@isSo (@And ((@HAppend.hAppend _ _ _ _ (@HAppend.hAppend _ _ _ _ ([] : List AV) ([] : List AV)) []) = []) True)) (.leaf (boo true))) (.leaf (boo false))) (.leaf (boo false))) (.need (@isSo (@And ((@HAppend.hAppend _ _ _ _ (@HAppend.hAppend _ _ _ _ [] [e6]) []) = [e6]) True)) (.fork (eqI (@pEx ns) (0 : Int)) (.fork (@bytesEq e3 (@Array.toList _ (@ByteArray.data (@prTx ns e4 e5)))) (.fork (eqI (@pE (@pSx ns)) (0 : Int)) (.need (@isSo (@And ((@HAppend.hAppend _ _ _ _ (@HAppend.hAppend _ _ _ _ [] [(@AV.view ((@pNs (@pSx ns))).length 6 (@ndcell (@pNs (@pSx ns)))), e1]) []) = [e1, e1]) (@And ((ns).length ≤ 17592186044416) (∀ (n : NdV), n ∈ ns → n.Ok)))) (.need (@isSo (@And ((@HAppend.hAppend _ _ _ _ (@HAppend.hAppend _ _ _ _ ([] : List AV) ([] : List AV)) []) = []) True)) (.leaf (boo true)))) (.leaf (boo false))) (.leaf (boo false))) (.leaf (boo false))))))))))) (by kernel_rfl) (by
    refine fork_ok (fun q => need_so ⟨rfl, trivial⟩ rfl) (fun q => need_so ⟨rfl, hO⟩ (need_so ⟨rfl, hO⟩ (fork_ok (fun r => ?_) (fun r => ?_))))
    · have r : eqI (ckI ns) 0 = false := by simpa using r
      have e1 : pEx ns = 34 := by unfold pEx; rw [if_neg (by rw [r]; simp)]
      have e2 : pSx ns = emB := by unfold pSx; rw [if_neg (by rw [r]; simp)]
      refine fork_ok (fun _ => fork_ok (fun _ => need_so ⟨rfl, trivial⟩ rfl) (fun h => ?_)) (fun h => ?_)
      · rw [e2] at h
        exact absurd (h.symm.trans (beq_self _)) (by simp)
      · rw [e1] at h
        cases h
    · have r : eqI (ckI ns) 0 = true := by simpa using r
      have hT := ckI_ok hO (by rw [eqI_t] at r; exact r)
      refine need_so ⟨rfl, hT, by omega, by omega⟩ (fork_ok (fun p => ?_) (fun p => ?_))
      · have p : leI (wrTx ns).size 32768 = false := by
          have p' : (!leI (wrTx ns).size 32768) = true := p
          simpa using p'
        have e1 : pEx ns = 2 := by unfold pEx; rw [if_pos r, if_neg (by rw [p]; simp)]
        have e2 : pSx ns = emB := by unfold pSx; rw [if_pos r, if_neg (by rw [p]; simp)]
        refine fork_ok (fun _ => fork_ok (fun _ => need_so ⟨rfl, trivial⟩ rfl) (fun h => ?_)) (fun h => ?_)
        · rw [e2] at h
          exact absurd (h.symm.trans (beq_self _)) (by simp)
        · rw [e1] at h
          cases h
      · have p : leI (wrTx ns).size 32768 = true := by
          have p' : (!leI (wrTx ns).size 32768) = false := p
          simpa using p'
        have e1 : pEx ns = 0 := by unfold pEx; rw [if_pos r, if_pos p]
        have e2 : pSx ns = wrTx ns := by unfold pSx; rw [if_pos r, if_pos p]
        obtain ⟨e3, e4⟩ := back_p hT p
        rw [e1, e2, e3, e4]
        refine need_so ⟨rfl, trivial⟩ (fork_ok (fun _ => fork_ok (fun _ => fork_ok (fun _ => need_so ⟨rfl, by have := hT.1.1.1; omega, hT.1.1.2⟩ (need_so ⟨rfl, trivial⟩ rfl)) (fun h => ?_)) (fun h => ?_)) (fun h => ?_))
        · cases h
        · exact absurd (h.symm.trans (beq_self (wrTx ns).data.toList)) (by simp)
        · cases h)
theorem back_walk {W : World} {a : Option Addr} {cap : Nat} {rs : List QRow} (hR : Rows QRow.cells 6 W a cap rs) (hQ : ∀ q ∈ rs, QRowIn W q) :
    Calls Try.prog 6 #[.slice a rs.length cap] W fun e w' => e = .returned (.bool true) ∧ Below W.heap.size W w' :=
  Sy.law_true11 (Sy.bac_t (rs.map QRow.n) ⟨by rw [List.length_map]; exact hR.sm, fun o ho => by
    obtain ⟨r, hr, rfl⟩ := List.mem_map.1 ho
    exact (hQ r hr).2.2⟩) (us := [_]) ⟨_, _, rfl, rel_nview hR hQ, rfl⟩
end Go.Proofs.Ytglkdhmikpejnaa
