/-
  Lemmas for MarkupBlanks, part 6; no conditions.
-/
import Derived.Test.YtglkdhmikpejnaaRows
import Derived.ProofKit
import Derived.SizedLaws
import Derived.Deep.Slices
import Derived.Lib.SmallJoins
import Derived.Test.YtglkdhmikpejnaaMbpE
set_option linter.unusedVariables false
set_option linter.unusedSimpArgs false
set_option linter.unusedSectionVars false
namespace Go.Proofs.Ytglkdhmikpejnaa
open Go.RowKit Go.ChangeShapes Go.WideShapes Go.ChangeAt Go.Deep
theorem own : ownKnob Try.prog.godebug = none := by kernel_rfl
theorem laidOut : laidOutB Try.prog = true := by kernel_rfl
section
variable {H : Type} {enc : TypeId × Value → H} {P : Program}
theorem trodAll_below (hl : laidOutB P = true) {W W' : World} (hb : Below W.heap.size W W') : ∀ (ts : List TypeId) (vs : List Value) (ds : List (DataW H)) (ps : List MemPlace),
    (∀ t ∈ ts, P.readableRec t = true ∧ t < P.types.size) → DataW.TrodAll enc P W 0 (fun _ => true) true ts vs ds ps → (∀ x ∈ ps, x.block < W.heap.size) →
    DataW.TrodAll enc P W' 0 (fun b => decide (b < W.heap.size)) true ts vs ds ps
  | [], [], [], ps, _, h, _ => h
  | t :: ts, v :: vs, d :: ds, ps, hr, h, hlt => by
    obtain ⟨p, q, h1, h2, rfl⟩ := h
    obtain ⟨r1, r2⟩ := hr t (by simp)
    exact ⟨p, q, Below.trod hl r1 r2 h1 hb (fun x hx => hlt x (by simp [hx])), trodAll_below hl hb ts vs ds q (fun t ht => hr t (by simp [ht])) h2 (fun x hx => hlt x (by simp [hx])), rfl⟩
  | [], _ :: _, _, _, _, h, _ => h.elim
  | [], [], _ :: _, _, _, h, _ => h.elim
  | _ :: _, [], _, _, _, h, _ => h.elim
  | _ :: _, _ :: _, [], _, _, h, _ => h.elim
theorem trodAll_len {W : World} {base : Nat} {sp : Nat → Bool} {hd : Bool} : ∀ (ts : List TypeId) (vs : List Value) (ds : List (DataW H)) (ps : List MemPlace), DataW.TrodAll enc P W base sp hd ts vs ds ps → ds.length = ts.length
  | [], [], [], _, _ => rfl
  | t :: ts, v :: vs, d :: ds, ps, h => by
    obtain ⟨p, q, _, h2, _⟩ := h
    simp [trodAll_len ts vs ds q h2]
  | [], _ :: _, _, _, h => h.elim
  | [], [], _ :: _, _, h => h.elim
  | _ :: _, [], _, _, h => h.elim
  | _ :: _, _ :: _, [], _, h => h.elim
theorem law_lifted {C : Checked} {os : Os} {f : FuncId} {fn : Func} {s : ChangeSpec} {tb : TypeId}
    (own : ownKnob C.prog.godebug = none) (started : os.Started) (noInit : C.prog.inits.idxOf? f = none) (hfn : C.prog.funcs[f]? = some fn) (hlaid : laidOutB C.prog = true)
    (witness : ∃ (w : World) (tape : Tape) (i : Input), w.os = os ∧ (w.forCall tape i).Shaped C.prog ∧ i.vars = [] ∧ Input.okWide C.prog (w.forCall tape i) .any w.heap.size f i ∧
      s.pre6 enc C.prog fn [] false (w.forCall tape i).memory i.args ∧ ({} : Assume).holds C.prog (lone (Frame.enter C.prog f i.args .normal) [] (w.forCall tape i)))
    (hres : fn.resultTypes = #[tb]) (hb : C.prog.underlying tb = some .bool) (hv : s.vars = [])
    (hspec : ∀ ds : List (DataW H), ds.length = fn.params.toList.length → (s.fn H ds).results = [.lit (.bool true)] ∧ (s.fn H ds).args = ds ∧ (s.fn H ds).vars = [])
    (hreadB : fn.params.toList.all (fun t => C.prog.readableRec t && decide (t < C.prog.types.size)) = true)
    (contract : ∀ (W : World) (base : Nat) (args : Array Value) (ds : List (DataW H)) (p : List MemPlace),
      (∀ (j : Nat) t v, fn.params[j]? = some t → args[j]? = some v → Value.okWide C.prog W .any base t v) →
      DataW.TrodAll enc C.prog W 0 (fun _ => true) true fn.params.toList args.toList ds p → (∀ x ∈ p, x.block < W.heap.size) →
      (DataW.weightsEach C.prog fn.params.toList ds).all (· ≤ reachBytes) = true →
      Calls C.prog f args W fun e W' => e = .returned (.bool true) ∧ Below W.heap.size W W') :
    ReturnsInHanded {} C os f .any (s.pre6 enc C.prog fn [] false) (s.post enc C.prog fn false true false false) := by
  have hread : ∀ t ∈ fn.params.toList, C.prog.readableRec t = true ∧ t < C.prog.types.size := fun t ht => by
    have := List.all_eq_true.1 hreadB t ht
    simpa using this
  refine returnsInHanded_of_change_sized own started noInit hfn witness ?_
  intro W base args ds gs before hval hW _ hsz _
  have hW' := hW
  obtain ⟨p, q, hA, hV, hpq, _, _⟩ := hW
  have hpl : ∀ x ∈ p, x.block < W.heap.size := fun x hx => hW'.lt x (by rw [hpq]; simp [hx])
  rw [hv] at hV
  obtain ⟨hgs, hq⟩ : gs = [] ∧ q = [] := by
    cases gs with
    | nil => exact ⟨rfl, hV⟩
    | cons _ _ => exact hV.elim
  subst hgs
  have hvt : s.plain.varTypes C.prog = [] := by
    have : s.plain.vars = [] := hv
    unfold DataSpec.varTypes
    rw [this]; rfl
  rw [hvt, List.append_nil, List.append_nil] at hsz
  have hlen : ds.length = fn.params.toList.length := trodAll_len _ _ _ _ hA
  obtain ⟨s1, s2, s3⟩ := hspec ds hlen
  refine (contract W base args ds p hval hA hpl hsz).mono fun e W' ⟨he, hbl⟩ => ?_
  subst he
  refine ⟨_, rfl, ds, [], before, [], p, [], hW', ?_, ?_, ?_, hbl.frame _, fun h => by cases h⟩
  · rw [List.append_nil, s1, hres]
    exact trodAll_mk1 (shut_bool hb _)
  · rw [List.append_nil, s2]
    exact trodAll_below hlaid hbl _ _ _ _ hread hA hpl
  · rw [List.append_nil, s3, hv]
    rfl
end
end Go.Proofs.Ytglkdhmikpejnaa
namespace Go.Proofs.Ytglkdhmikpejnaa
open Go.RowKit Go.ChangeShapes Go.WideShapes Go.ChangeAt Go.Deep
section
variable {H : Type} {enc : TypeId × Value → H} {W : World}
theorem weightsAll_mem {P : Program} {e : TypeId} {n : Nat} : ∀ (l : List (DataW H)) (d : DataW H), d ∈ l → n ∈ d.weights P e → n ∈ DataW.weightsAll P e l
  | d' :: r, d, hd, hn => by
    unfold DataW.weightsAll
    rcases List.mem_cons.1 hd with rfl | hd
    · exact List.mem_append_left _ hn
    · exact List.mem_append_right _ (weightsAll_mem r d hd hn)
def FitsD (P : Program) (t : TypeId) (d : DataW H) : Prop := ∀ n ∈ d.weights P t, n ≤ reachBytes
theorem rows_in {α : Type} [Inhabited α] {cells : α → List Value} {s : Nat} {t e : TypeId} {P : Program} {fuel : Nat} {c : Value} {x : DataW H × List MemPlace} (Q : α → Prop)
    (ht : P.underlying t = some (.slice e)) (hce : P.cellsOf e = s) (hs : 0 < s) (hbe : 8 ≤ P.bytesOf e) (hsz : FitsD P t x.1)
    (helem : ∀ n cs x, DataW.trod enc P W 0 (fun _ => true) true n e cs = some x → FitsD P e x.1 → (∀ z ∈ x.2, z.block < W.heap.size) → ∃ y : α, cs = cells y ∧ Q y)
    (h : DataW.trod enc P W 0 (fun _ => true) true fuel t [c] = some x) (hlt : ∀ z ∈ x.2, z.block < W.heap.size) :
    ∃ (a : Option Addr) (xs : List α) (cap : Nat), c = .slice a xs.length cap ∧ Rows cells s W a cap xs ∧ ∀ y ∈ xs, Q y := by
  rcases open_slice ht h with ⟨hc, _⟩ | ⟨a, len, cap, m, n, D, Pl, hc, hb, hl, hm, hmm, hx, hel⟩
  · simp at hc
    subst hc
    exact ⟨none, [], 0, rfl, ⟨by simp, by simp, by simp, fun _ => rfl, fun h => absurd rfl h⟩, by simp⟩
  · simp at hc
    subst hc
    simp only [if_true] at hmm
    subst hmm
    subst hx
    have hlen : len ≤ 17592186044416 := by
      have := hsz ((((List.range len).map D).length + ((List.range (m - len)).map fun j => D (len + j)).length) * P.bytesOf e) (by simp [DataW.weights, ht])
      simp at this
      have h3 : len * 8 ≤ (len + (m - len)) * P.bytesOf e := Nat.mul_le_mul (by omega) hbe
      have h4 : reachBytes = 140737488351232 := by decide
      omega
    have key : ∀ i, i < len → ∃ y : α, W.cells? 0 (a.add (i * s)) s = some (cells y) ∧ Q y := by
      intro i hi
      obtain ⟨cs', h1, h2⟩ := hel i (by omega)
      rw [hce] at h1
      obtain ⟨y, rfl, hq⟩ := helem n cs' _ h2 (fun n hn => hsz n (by
        show n ∈ DataW.weights P t (.slice _ _)
        unfold DataW.weights
        rw [ht]
        exact List.mem_cons_of_mem _ (List.mem_append_left _ (weightsAll_mem _ (D i) (List.mem_map.2 ⟨i, by simpa using hi, rfl⟩) hn)))) (fun z hz => hlt z (by
        simp only [List.mem_append, List.mem_flatMap]
        exact Or.inr ⟨i, by simp; omega, hz⟩))
      exact ⟨y, h1, hq⟩
    obtain ⟨F, hF⟩ := choose_lt key
    refine ⟨some a, (List.range len).map F, m, by simp, ⟨by simpa using hl, by simpa [maxLen] using hm, by simpa using hlen, (fun h => by cases h), fun hne => ?_⟩, ?_⟩
    · have h0 : 0 < len := by
        rcases Nat.eq_zero_or_pos len with h0 | h0
        · subst h0; exact absurd rfl hne
        · exact h0
      obtain ⟨b, off, spot⟩ := a
      have hspot : spot = none := by
        have h1 := (hF 0 h0).1
        obtain ⟨_, hlen, hc⟩ := World.cells?_some h1
        have hc0 := hc 0 (by omega)
        rw [List.getElem?_eq_getElem (by omega)] at hc0
        have := World.cell?_spot hc0
        simpa [Addr.add] using this
      subst hspot
      refine ⟨b, off, rfl, ?_, ?_⟩
      · exact hlt (.cell b off) (by
          simp only [List.mem_append]
          exact Or.inl (MemPlace.mem_row.2 ⟨0, Nat.mul_pos (by omega) (by rw [hce]; exact hs), by simp⟩))
      · intro k hk j u hu
        have hk' : k < len := by simpa using hk
        obtain ⟨_, hlen, hc⟩ := World.cells?_some (hF k hk').1
        simp only [List.getElem_map, List.getElem_range] at hu
        have hj : j < s := by
          rcases Nat.lt_or_ge j s with h' | h'
          · exact h'
          · rw [List.getElem?_eq_none (by omega)] at hu; cases hu
        have := hc j hj
        rw [hu] at this
        rw [← this, add_add]
        unfold Addr.add
        split
        · rename_i hz
          have : k * s = 0 ∧ j = 0 := by omega
          simp [this.1, this.2]
        · simp [Nat.add_assoc]
    · intro y hy
      obtain ⟨i, hi, rfl⟩ := List.mem_map.1 hy
      exact (hF i (by simpa using hi)).2
end
end Go.Proofs.Ytglkdhmikpejnaa
namespace Go.Proofs.Ytglkdhmikpejnaa
open Go Go.RowKit Go.ChangeShapes Go.WideShapes Go.ChangeAt Go.Deep
set_option maxRecDepth 100000
instance : Inhabited ByteArray := ⟨⟨#[]⟩⟩
instance : Inhabited AttrV := ⟨attrNone⟩
structure QRow where
  n : NdV
  a : Option Addr
  cap : Nat
  b : Option Addr
  cbp : Nat
instance : Inhabited QRow := ⟨⟨ndNone, none, 0, none, 0⟩⟩
def QRow.cells (r : QRow) : List Value := [.int .i64 r.n.par, .string r.n.tag, .string r.n.id, .slice r.a r.n.cls.length r.cap, .slice r.b r.n.atts.length r.cbp, .string r.n.text]
def QRowIn (W : World) (r : QRow) : Prop := Rows strCells 1 W r.a r.cap r.n.cls ∧ Rows AttrV.cells 2 W r.b r.cbp r.n.atts ∧ r.n.Ok
section
variable {H : Type} {enc : TypeId × Value → H} {W : World}
theorem pInt_ : Try.prog.cellsOf 3 = 1 := by kernel_rfl
theorem pStr_ : Try.prog.cellsOf 9 = 1 := by kernel_rfl
theorem pStrs_ : Try.prog.cellsOf 26 = 1 := by kernel_rfl
theorem bpStr_ : Try.prog.bytesOf 9 = 16 := by kernel_rfl
theorem pAttr_ : Try.prog.cellsOf 67 = 2 := by kernel_rfl
theorem pNode_ : Try.prog.cellsOf 40 = 6 := by kernel_rfl
theorem pAttrs_ : Try.prog.cellsOf 38 = 1 := by kernel_rfl
theorem bpAttr_ : Try.prog.bytesOf 67 = 32 := by kernel_rfl
theorem bpNode_ : Try.prog.bytesOf 40 = 104 := by kernel_rfl
theorem elem_s {n : Nat} {cs : List Value} {x : DataW H × List MemPlace} (h : DataW.trod enc Try.prog W 0 (fun _ => true) true n 9 cs = some x) : ∃ y : ByteArray, cs = strCells y ∧ y.size ≤ maxLen := by
  obtain ⟨s, e, _, w⟩ := DataW.trod_string Try.underlying9 h
  exact ⟨s, e, w⟩
theorem elem_attr {n : Nat} {cs : List Value} {x : DataW H × List MemPlace} (h : DataW.trod enc Try.prog W 0 (fun _ => true) true n 67 cs = some x) : ∃ y : AttrV, cs = y.cells ∧ (y.name.size ≤ maxLen ∧ y.value.size ≤ maxLen) := by
  obtain ⟨y0, y1, m, _, hl, h0, h1⟩ := trod_struct2 Try.underlying67 h
  rw [pAttr_] at hl
  match cs, hl with
  | [c0, c1], _ =>
    have f0 : DataW.trod enc Try.prog W 0 (fun _ => true) true m 9 (List.take (Try.prog.cellsOf 9) (List.drop 0 [c0, c1])) = some y0 := h0
    have f1 : DataW.trod enc Try.prog W 0 (fun _ => true) true m 9 (List.take (Try.prog.cellsOf 9) (List.drop 1 [c0, c1])) = some y1 := h1
    rw [pStr_] at f0 f1
    obtain ⟨n0, e0, _, w0⟩ := DataW.trod_string Try.underlying9 f0
    obtain ⟨n1, e1, _, w1⟩ := DataW.trod_string Try.underlying9 f1
    simp at e0 e1
    exact ⟨⟨n0, n1⟩, by rw [e0, e1]; rfl, w0, w1⟩
theorem elem_node {n : Nat} {cs : List Value} {x : DataW H × List MemPlace} (h : DataW.trod enc Try.prog W 0 (fun _ => true) true n 40 cs = some x) (hsz : FitsD Try.prog 40 x.1) (hz : ∀ z ∈ x.2, z.block < W.heap.size) :
    ∃ r : QRow, cs = r.cells ∧ QRowIn W r := by
  obtain ⟨xs, m, _, hx, hl, hlen, hf⟩ := DataW.trod_struct Try.underlying40 h
  rw [pNode_] at hl
  match cs, hl with
  | [c0, c1, c2, c3, c4, c5], _ =>
    have hlen6 : xs.length = 6 := hlen
    match xs, hlen6 with
    | [x0, x1, x2, x3, x4, x5], _ =>
      have f0 : DataW.trod enc Try.prog W 0 (fun _ => true) true m 3 (List.take (Try.prog.cellsOf 3) (List.drop 0 [c0, c1, c2, c3, c4, c5])) = some x0 := hf 0 _ rfl
      rw [pInt_] at f0
      have f1 : DataW.trod enc Try.prog W 0 (fun _ => true) true m 9 (List.take (Try.prog.cellsOf 9) (List.drop 1 [c0, c1, c2, c3, c4, c5])) = some x1 := hf 1 _ rfl
      rw [pStr_] at f1
      have f2 : DataW.trod enc Try.prog W 0 (fun _ => true) true m 9 (List.take (Try.prog.cellsOf 9) (List.drop 2 [c0, c1, c2, c3, c4, c5])) = some x2 := hf 2 _ rfl
      rw [pStr_] at f2
      have f3 : DataW.trod enc Try.prog W 0 (fun _ => true) true m 26 (List.take (Try.prog.cellsOf 26) (List.drop 3 [c0, c1, c2, c3, c4, c5])) = some x3 := hf 3 _ rfl
      rw [pStrs_] at f3
      have f4 : DataW.trod enc Try.prog W 0 (fun _ => true) true m 38 (List.take (Try.prog.cellsOf 38) (List.drop 4 [c0, c1, c2, c3, c4, c5])) = some x4 := hf 4 _ rfl
      rw [pAttrs_] at f4
      have f5 : DataW.trod enc Try.prog W 0 (fun _ => true) true m 9 (List.take (Try.prog.cellsOf 9) (List.drop 5 [c0, c1, c2, c3, c4, c5])) = some x5 := hf 5 _ rfl
      rw [pStr_] at f5
      obtain ⟨n0, e0, _, w0⟩ := DataW.trod_int Try.underlying3 f0
      obtain ⟨n1, e1, _, w1⟩ := DataW.trod_string Try.underlying9 f1
      obtain ⟨n2, e2, _, w2⟩ := DataW.trod_string Try.underlying9 f2
      obtain ⟨n5, e5, _, w5⟩ := DataW.trod_string Try.underlying9 f5
      simp at e0 e1 e2 e5
      subst hx
      have hz3 : ∀ z ∈ x3.2, z.block < W.heap.size := fun z h => hz z (by simp [h])
      have hz4 : ∀ z ∈ x4.2, z.block < W.heap.size := fun z h => hz z (by simp [h])
      have hs3 : FitsD Try.prog 26 x3.1 := fun n hn => hsz n (by
        show n ∈ DataW.weights Try.prog 40 (.agg _)
        unfold DataW.weights
        rw [Try.underlying40]
        exact DataW.weights_mem_each (j := 3) (t := 26) (d := x3.1) rfl rfl n hn)
      have hs4 : FitsD Try.prog 38 x4.1 := fun n hn => hsz n (by
        show n ∈ DataW.weights Try.prog 40 (.agg _)
        unfold DataW.weights
        rw [Try.underlying40]
        exact DataW.weights_mem_each (j := 4) (t := 38) (d := x4.1) rfl rfl n hn)
      have f3' : DataW.trod enc Try.prog W 0 (fun _ => true) true m 26 [c3] = some x3 := f3
      have f4' : DataW.trod enc Try.prog W 0 (fun _ => true) true m 38 [c4] = some x4 := f4
      obtain ⟨a3, C, cap3, E3, R3, Q3⟩ := rows_in (cells := strCells) (fun y : ByteArray => y.size ≤ maxLen) Try.underlying26 pStr_ (by omega) (by rw [bpStr_]; omega) hs3 (fun n cs x hx _ _ => elem_s hx) f3' hz3
      obtain ⟨a4, A, cap4, E4, R4, Q4⟩ := rows_in (cells := AttrV.cells) (fun y : AttrV => y.name.size ≤ maxLen ∧ y.value.size ≤ maxLen) Try.underlying38 pAttr_ (by omega) (by rw [bpAttr_]; omega) hs4 (fun n cs x hx _ _ => elem_attr hx) f4' hz4
      exact ⟨⟨⟨n0, n1, n2, C, A, n5⟩, a3, cap3, a4, cap4⟩, by rw [e0, e1, e2, e5, E3, E4]; rfl, R3, R4, w1, w2, ⟨R3.sm, Q3⟩, ⟨R4.sm, Q4⟩, w5⟩
theorem open_nodesV {r : Reach} {b : Nat} {v : Value} {d : DataW H} {p : List MemPlace} (hv : Value.okWide Try.prog W r b 22 v) (h : DataW.Trod enc Try.prog W 0 (fun _ => true) true 22 v d p) (hlt : ∀ x ∈ p, x.block < W.heap.size) (hsz : FitsD Try.prog 22 d) :
    ∃ (a : Option Addr) (cap : Nat) (rs : List QRow), v = .slice a rs.length cap ∧ Rows QRow.cells 6 W a cap rs ∧ ∀ q ∈ rs, QRowIn W q := by
  obtain ⟨a0, n0, c0, rfl⟩ := okWide_slice Try.underlying22 hv
  obtain ⟨fuel, hf⟩ := h
  have hf' : DataW.trod enc Try.prog W 0 (fun _ => true) true fuel 22 [.slice a0 n0 c0] = some (d, p) := hf
  obtain ⟨a, rs, cap, E, R, Q⟩ := rows_in (cells := QRow.cells) (fun r => QRowIn W r) Try.underlying22 pNode_ (by omega) (by rw [bpNode_]; omega) hsz (fun n cs x hx hs hz => elem_node hx hs hz) hf' hlt
  exact ⟨a, cap, rs, E, R, Q⟩
theorem rel_rows {α : Type} {cells : α → List Value} {s : Nat} (d : α) {W : World} {a : Option Addr} {cap : Nat} {xs : List α} (h : Rows cells s W a cap xs) (hc : ∀ x, (cells x).length = s) (ho : ∀ x, ∀ u ∈ cells x, u.oneCell' = true) : Sy.rel (Sy.rho0 W) (Sy.viewOf cells d s xs) (.slice a xs.length cap) := by
  simp only [Sy.viewOf, Sy.rel]
  refine ⟨a, cap, rfl, h.le, h.max, h.nil, fun hn => ?_⟩
  obtain ⟨b, off, rfl, hb, hcell⟩ := h.base (fun e => by rw [e] at hn; simp at hn)
  refine ⟨b, off, rfl, fun i j hi hj => ?_⟩
  have hg : xs.getD i d = xs[i] := by rw [List.getD_eq_getElem?_getD, List.getElem?_eq_getElem hi]; rfl
  have hj' : j < (cells xs[i]).length := by rw [hc]; exact hj
  have hu : (cells xs[i])[j]? = some (cells xs[i])[j] := List.getElem?_eq_getElem hj'
  refine ⟨(cells xs[i])[j], ?_, ?_, ho _ _ (List.getElem_mem _)⟩
  · simp only [Sy.rho0, if_pos hb]
    exact hcell i hi j _ hu
  · rw [hg, List.getD_eq_getElem?_getD, hu]
    simp
theorem rel_nview {a : Option Addr} {cap : Nat} {l : List QRow} (h : Rows QRow.cells 6 W a cap l) (hq : ∀ q ∈ l, QRowIn W q) : Sy.rel (Sy.rho0 W) (Sy.nview (l.map QRow.n)) (.slice a l.length cap) := by
  simp only [Sy.rel, List.length_map]
  refine ⟨a, cap, rfl, h.le, h.max, h.nil, fun hn => ?_⟩
  obtain ⟨b, off, rfl, hb, hcell⟩ := h.base (fun e => by rw [e] at hn; simp at hn)
  refine ⟨b, off, rfl, fun i j hi hj => ?_⟩
  have hg : (l.map QRow.n).getD i ndNone = l[i].n := by rw [List.getD_eq_getElem?_getD, List.getElem?_map, List.getElem?_eq_getElem hi]; rfl
  obtain ⟨r1, r2, _⟩ := hq l[i] (List.getElem_mem hi)
  have hst : ∀ {j : Nat} u, (QRow.cells l[i])[j]? = some u → (Sy.rho0 W).still b (off + i * 6 + j) = some u := fun u hu => by
    simp only [Sy.rho0, if_pos hb]
    exact hcell i hi _ u hu
  unfold Sy.ndcell
  rw [hg]
  rcases j with _ | _ | _ | _ | _ | _ | j
  · exact ⟨_, hst _ rfl, rfl, rfl⟩
  · exact ⟨_, hst _ rfl, rfl, rfl⟩
  · exact ⟨_, hst _ rfl, rfl, rfl⟩
  · refine ⟨_, hst _ rfl, ?_, rfl⟩
    show Sy.rel (Sy.rho0 W) (Sy.cview l[i].n.cls) _
    exact rel_rows (⟨#[]⟩ : ByteArray) r1 (fun _ => rfl) (fun y u hu => by simp [strCells] at hu; rw [hu]; rfl)
  · refine ⟨_, hst _ rfl, ?_, rfl⟩
    show Sy.rel (Sy.rho0 W) (Sy.aview l[i].n.atts) _
    exact rel_rows attrNone r2 (fun _ => rfl) (fun y u hu => by
      simp [AttrV.cells] at hu
      rcases hu with rfl | rfl <;> rfl)
  · exact ⟨_, hst _ rfl, rfl, rfl⟩
  · omega
end
end Go.Proofs.Ytglkdhmikpejnaa
namespace Go.Proofs.Ytglkdhmikpejnaa
open Go Go.RowKit Pl Sy
open Classical in
noncomputable def frN (L : List NdV) : NdV := if h : ∃ n k, TreeF L n k then h.choose else ndNone
open Classical in
noncomputable def frK (L : List NdV) : Ft := if h : ∃ n k, TreeF L n k then h.choose_spec.choose else .nil
theorem fr_ok {L : List NdV} (h : TreeOk L ∧ 0 < L.length) : TreeF L (frN L) (frK L) := by
  have hx := treeF h.1 h.2
  unfold frN frK
  rw [dif_pos hx, dif_pos hx]
  exact hx.choose_spec.choose_spec
noncomputable def prTx (L : List NdV) (b w : ByteArray) : ByteArray := ⟨⟨(Ft.cons (frN L) (frK L) .nil).pr b.data.toList w.data.toList⟩⟩
noncomputable abbrev Sy.cPrR (L : List NdV) : Con Try.prog := atX 10 (fun args => match args with | [_, _, .lit (.string b), .lit (.string w)] => some (b, w) | _ => none) (fun x => [nview L, int 0, .lit (.string x.1), .lit (.string x.2)]) (fun x => .lit (.string (prTx L x.1 x.2))) (fun x => (TreeOk L ∧ 0 < L.length) ∧ x.1.size ≤ 100 ∧ x.2.size ≤ 100) fun x h => ⟨⟨⟨nview_free L, trivial, trivial, trivial, trivial⟩, trivial⟩, print_tree (fr_ok h.1) x.1 x.2 h.2.1 h.2.2⟩
end Go.Proofs.Ytglkdhmikpejnaa
namespace Go.Proofs.Ytglkdhmikpejnaa
open Go Go.RowKit Pl Sy
namespace Sy
abbrev blaF (ns : List NdV) (b : ByteArray) : Fr := (some (nview ns) :: none :: none :: none :: none :: some (.lit (.string b)) :: (nn47 []))
end Sy
theorem blanks_read {ns : List NdV} (h : TreeOk ns ∧ 0 < ns.length) (b : ByteArray) (hb : Bl b.data.toList) : treeR ((b ++ prTx ns b (⟨⟨[32]⟩⟩ ++ b)) ++ b) = .ok ((b ++ prTx ns b (⟨⟨[32]⟩⟩ ++ b)) ++ b).size ns := by
  have hF := fr_ok h
  have hw : (⟨⟨[32]⟩⟩ ++ b : ByteArray).data.toList = 32 :: b.data.toList := by simp [ByteArray.data_append]
  have hbw : Bl (32 :: b.data.toList) := by
    unfold Bl
    rw [List.all_cons, Bool.and_eq_true]
    exact ⟨rfl, hb⟩
  have key := read_all (s := (b ++ prTx ns b (⟨⟨[32]⟩⟩ ++ b)) ++ b) hb hbw (by simp) hb hb hF.good hF.tag hF.sz hF.ht (by
    unfold prTx
    rw [hw]
    simp [ByteArray.data_append])
  rw [← hF.fl] at key
  exact key
theorem prTx_size {ns : List NdV} (h : TreeOk ns ∧ 0 < ns.length) (b w : ByteArray) (hb : b.size ≤ 100) (hw : w.size ≤ 100) : (prTx ns b w).size ≤ 10000000 := by
  have hF := fr_ok h
  have h1 := Ft.pr_le b.data.toList w.data.toList _ hF.good
  have h2 : (Ft.cons (frN ns) (frK ns) .nil).sz * (2710 + 3 * b.data.toList.length + w.data.toList.length) ≤ 1024 * 3200 := Nat.mul_le_mul hF.sz (by rw [← size_toList, ← size_toList]; omega)
  show ((Ft.cons (frN ns) (frK ns) .nil).pr b.data.toList w.data.toList).length ≤ _
  omega
theorem Sy.bla_t (ns : List NdV) (n : Int) (hO : NsOk ns) (hsm : ns.length ≤ 40) (hck : ckI ns = 0) : CallTo Try.prog 3 [nview ns, int n] M0 fun v _ => v = boo true := fun w0 ρ us w hr hW => by
  have hr0 := hr
  have hargs : rels ρ [nview ns] (us.take 1) := by
    simp only [rels] at hr ⊢
    obtain ⟨u, us1, rfl, hu, _⟩ := hr
    exact ⟨u, [], rfl, hu, rfl⟩
  simp only [rels] at hr0
  obtain ⟨u0, us0, e0, hu0, _⟩ := hr0
  simp only [rels, rel] at hr
  obtain ⟨u, us1, rfl, ⟨a, cap, rfl, hr1, hr2, hr3, hr4⟩, u2, us2, rfl, rfl, rfl⟩ := hr
  simp only [List.cons.injEq] at e0
  obtain ⟨rfl, _⟩ := e0
  have hT := ckI_ok hO hck
  have key := CallTo.frame (G := fun v => v = int 0) ((cck_t ns hO).mono fun v _ h => ⟨by rw [h]; trivial, by rw [h, hck]⟩) ⟨nview_free ns, trivial⟩ M0 w0 ρ _ w hargs hW
  have hc : decide ((40 : Int) < (ns.length : Int)) = false := by simp; omega
  go_enter Try.func3, Try.ntmps3
  generalize hR6 : Code.seq (Code.region 4 _ false) _ = RR
  go_wp2_with (go_at_call 8; refine key.mono ?_; rintro e w' ⟨ρ6, u6, v6, M6, rfl, hE6, hv6, hW6, rfl, rfl⟩; simp only [rel] at hv6; subst hv6)
  · rename_i hbit
    have hbl : ∀ (i : Nat) (h : i < [Value.string { data := #[] }, Value.string { data := #[32] }, Value.string { data := #[10] }, Value.string { data := #[32, 9, 13, 10, 32] }].length), ∃ b : ByteArray, [Value.string { data := #[] }, Value.string { data := #[32] }, Value.string { data := #[10] }, Value.string { data := #[32, 9, 13, 10, 32] }][i]'h = .string b ∧ Bl b.data.toList ∧ b.size ≤ 5 := by
      intro i h
      rcases i with _ | _ | _ | _ | i
      · exact ⟨_, rfl, rfl, by decide⟩
      · exact ⟨_, rfl, rfl, by decide⟩
      · exact ⟨_, rfl, rfl, by decide⟩
      · exact ⟨_, rfl, rfl, by decide⟩
      · exfalso
        simp only [List.length_cons, List.length_nil] at h
        omega
    obtain ⟨b, hb, hb1, hb2⟩ := hbl (bits BinOp.and IntKind.i64 n 3).toNat (by simp only [List.length_cons, List.length_nil]; omega)
    rw [hb]
    have hRR : RR = cSnd (cSnd (cSnd (bodyOf 3))) := by rw [← hR6]; kernel_rfl
    clear hR6
    subst hRR
    have hW8 := hW6.extra (Obj.cells #[Value.string { data := #[] }, Value.string { data := #[32] }, Value.string { data := #[10] }, Value.string { data := #[32, 9, 13, 10, 32] }] 9)
    refine codeC [cPrR ns, cPar, c_sm ns, cKno] [] [] 400 30 _ (by kernel_rfl) (false :: false :: false :: false :: true :: (ff48 [])) (F := blaF ns b) (M := M0) (ρ := ρ6) (w0 := w0) ⟨rfl, fun t v hv => ?_, rfl⟩ hW8 (.yes (.yes (.yes (.yes (.br (.yes .done) (.yes (.br (.auto 1 (.yes (.auto 1 (.yes (.auto 0 .done))))) (.auto 4 .done)))))))) (let e1 := (@ByteArray.size b); let e2 := (9223372036854775807 : Int); let e3 := (@AV.view (ns).length 6 (@ndcell ns)); let e4 := (@AV.lit (@Value.string (@HAppend.hAppend _ _ _ _ (@ByteArray.mk (@Array.mk _ [(32 : UInt8)])) b))); let e5 := (@prTx ns b (@HAppend.hAppend _ _ _ _ (@ByteArray.mk (@Array.mk _ [(32 : UInt8)])) b)); let e6 := (@AV.lit (@Value.string (@HAppend.hAppend _ _ _ _ (@HAppend.hAppend _ _ _ _ b e5) b))); let e7 := (@pNs (@HAppend.hAppend _ _ _ _ (@HAppend.hAppend _ _ _ _ b e5) b)); (.need (leI (((1 + e1) : Nat) : Int) e2) (.need (@isSo (@And ((@HAppend.hAppend _ _ _ _ (@HAppend.hAppend _ _ _ _ [] [e3, (int (0 : Int)), (@AV.lit (@Value.string b)), e4]) []) = [e3, (int (0 : Int)), (@AV.lit (@Value.string b)), e4]) (@And (@And (@TreeOk ns) (0 < (ns).length)) (@And (e1 ≤ 100) ((@ByteArray.size (@HAppend.hAppend _ _ _ _ (@ByteArray.mk (@Array.mk _ [(32 : UInt8)])) b)) ≤ 100))))) (.need (leI (((e1 + (@ByteArray.size e5)) : Nat) : Int) e2) (.need (leI ((((@ByteArray.size (@HAppend.hAppend _ _ _ _ b e5)) + e1) : Nat) : Int) e2) (.fork (!(leI (((@ByteArray.size (@HAppend.hAppend _ _ _ _ (@HAppend.hAppend _ _ _ _ b e5) b)) : Nat) : Int) (32768 : Int))) (.need (@isSo (@And ((@HAppend.hAppend _ _ _ _ (@HAppend.hAppend _ _ _ _ ([] : List AV) ([] : List AV)) []) = []) True)) (.leaf (ExP.ret, ((none :: none :: none :: none :: (some (boo true)) :: (nn48 [])), (@Mem.mk 0 0 []))))) (.need (@isSo (@And ((@HAppend.hAppend _ _ _ _ (@HAppend.hAppend _ _ _ _ [] [e6]) []) = [e6]) True)) (.fork (eqI (@pE (@HAppend.hAppend _ _ _ _ (@HAppend.hAppend _ _ _ _ b e5) b)) (0 : Int)) (.need (@isSo (@And ((@HAppend.hAppend _ _ _ _ (@HAppend.hAppend _ _ _ _ [] [(@AV.view (e7).length 6 (@ndcell e7)), e3]) []) = [e3, e3]) (@And ((ns).length ≤ 17592186044416) (∀ (n : NdV), n ∈ ns → n.Ok)))) (.need (@isSo (@And ((@HAppend.hAppend _ _ _ _ (@HAppend.hAppend _ _ _ _ ([] : List AV) ([] : List AV)) []) = []) True)) (.leaf (ExP.ret, ((none :: none :: none :: none :: (some (boo true)) :: (nn48 [])), (@Mem.mk 0 0 [])))))) (.leaf (ExP.ret, ((none :: none :: none :: none :: (some (boo false)) :: (nn48 [])), (@Mem.mk 0 0 [])))))))))))) (by kernel_rfl) ?_
    · rcases t with _ | _ | _ | _ | _ | _ | t
      · simp at hv; subst hv; exact hu0.ext hE6
      · simp at hv
      · simp at hv
      · simp at hv
      · simp at hv
      · simp at hv; subst hv; simp only [rel]; rfl
      · exfalso
        rcases t with _ | _ | _ | _ | _ | _ | _ | _ | _ | _ | _ | _ | _ | _ | _ | _ | _ | _ | _ | _ | _ | _ | _ | _ | _ | _ | _ | _ | _ | _ | _ | _ | _ | _ | _ | _ | _ | _ | _ | _ | _ | _ | _ | _ | _ | _ | _ | t <;> simp at hv
    · have fin : ∀ ρ' a' w', Ext ρ6 ρ' → EndP w0 ρ' .ret (none :: none :: none :: none :: some (boo true) :: (nn48 [])) M0 a' w' → bodyPost Try.prog Try.f3 (fun e w' => ∃ ρ' u v M', e = .returned u ∧ Ext ρ ρ' ∧ rel ρ' v u ∧ WR w0 ρ' M' w' ∧ v = boo true) .ret a' w' := fun ρ' a' w' q1 q2 => by
        obtain ⟨u, r1, r2⟩ := resultsA_sound (fn := Try.f3) (v := boo true) q2.1 q2.2 (by kernel_rfl)
        exact bodyPost_ret r2 q2.1.defers ⟨ρ', u, boo true, M0, rfl, hE6.trans q1, r1, q2.2, rfl⟩
      have hrd := blanks_read hT b hb1
      have hz := prTx_size hT b (⟨⟨[32]⟩⟩ ++ b) (by omega) (by rw [ByteArray.size_append]; show 1 + b.size ≤ 100; omega)
      have hw1 : (⟨⟨[32]⟩⟩ ++ b : ByteArray).size ≤ 100 := by rw [ByteArray.size_append]; show 1 + b.size ≤ 100; omega
      conv => zeta
      generalize hX : prTx ns b (⟨⟨[32]⟩⟩ ++ b) = X at *
      refine need_t (by rw [leI_t]; omega) (need_so ⟨rfl, hT, by omega, hw1⟩ (need_t (by rw [leI_t]; omega) (need_t (by rw [leI_t, ByteArray.size_append]; omega) (fork_ok (fun q => need_so ⟨rfl, trivial⟩ fin) (fun q => need_so ⟨rfl, trivial⟩ ?_)))))
      have q : leI ((b ++ X) ++ b).size 32768 = true := by simpa using q
      have e1 : pE ((b ++ X) ++ b) = 0 := by unfold pE; rw [q, hrd]; rfl
      have e2 : pNs ((b ++ X) ++ b) = ns := by unfold pNs; rw [q, hrd]; rfl
      rw [e1, e2]
      exact fork_ok (fun _ => need_so ⟨rfl, by have := hT.1.1.1; omega, hT.1.1.2⟩ (need_so ⟨rfl, trivial⟩ fin)) (fun h => by cases h)
  · rename_i hbit
    exfalso
    obtain ⟨h1, h2⟩ := andI_in 3 n (by omega)
    exact hbit ⟨h1, by have e : bits BinOp.and IntKind.i64 n 3 = andI 3 n := rfl; omega⟩
theorem Sy.kno_free (w0 : World) (ρ : Rho) (w : World) (hW : WR w0 ρ M0 w) : Calls Try.prog 9 (List.toArray []) w fun e w' => ∃ ρ' u v M', e = .returned u ∧ Ext ρ ρ' ∧ rel ρ' v u ∧ WR w0 ρ' M' w' ∧ M' = M0 ∧ v = boo true :=
  CallTo.frame (G := fun v => v = boo true) (kno_t.mono fun v _ h => ⟨by rw [h]; trivial, h⟩) trivial M0 w0 ρ [] w (by simp only [rels]) hW
theorem Sy.bla_no (ns : List NdV) (n : Int) (hO : NsOk ns) (hck : ns.length ≤ 40 → ckI ns ≠ 0) : CallTo Try.prog 3 [nview ns, int n] M0 fun v _ => v = boo true := fun w0 ρ us w hr hW => by
  have hargs : rels ρ [nview ns] (us.take 1) := by
    simp only [rels] at hr ⊢
    obtain ⟨u, us1, rfl, hu, _⟩ := hr
    exact ⟨u, [], rfl, hu, rfl⟩
  simp only [rels, rel] at hr
  obtain ⟨u, us1, rfl, ⟨a, cap, rfl, hr1, hr2, hr3, hr4⟩, u2, us2, rfl, rfl, rfl⟩ := hr
  by_cases hsm : ns.length ≤ 40
  · have key := CallTo.frame (G := fun v => v = int (ckI ns)) ((cck_t ns hO).mono fun v _ h => ⟨by rw [h]; trivial, h⟩) ⟨nview_free ns, trivial⟩ M0 w0 ρ _ w hargs hW
    have hc : decide ((40 : Int) < (ns.length : Int)) = false := by simp; omega
    have hne : (ckI ns = 0) = False := by simp [hck hsm]
    go_enter Try.func3, Try.ntmps3
    generalize hR6 : Code.seq (Code.region 3 _ false) _ = RR
    go_wp2_with (first
      | (go_at_call 8; refine key.mono ?_; rintro e w' ⟨ρ6, u6, v6, M6, rfl, hE6, hv6, hW6, rfl, rfl⟩; simp only [rel] at hv6; subst hv6)
      | (go_at_call 9; refine (kno_free w0 ρ6 _ hW6).mono ?_; rintro e w' ⟨ρ7, u7, v7, M7, rfl, hE7, hv7, hW7, rfl, rfl⟩; simp only [rel] at hv7; subst hv7))
    go_ret
    exact ⟨ρ7, _, boo true, M0, rfl, hE6.trans hE7, by simp only [rel]; rfl, hW7, rfl⟩
  · have hc : decide ((40 : Int) < (ns.length : Int)) = true := by simp; omega
    go_enter Try.func3, Try.ntmps3
    generalize hR6 : Code.seq (Code.region 3 _ false) _ = RR
    go_wp2_with (go_at_call 9; refine (kno_free w0 ρ _ hW).mono ?_; rintro e w' ⟨ρ7, u7, v7, M7, rfl, hE7, hv7, hW7, rfl, rfl⟩; simp only [rel] at hv7; subst hv7)
    go_ret
    exact ⟨ρ7, _, boo true, M0, rfl, hE7, by simp only [rel]; rfl, hW7, rfl⟩
theorem Sy.bla_all (ns : List NdV) (n : Int) (hO : NsOk ns) : CallTo Try.prog 3 [nview ns, int n] M0 fun v _ => v = boo true := by
  by_cases h1 : ns.length ≤ 40
  · by_cases h2 : ckI ns = 0
    · exact bla_t ns n hO h1 h2
    · exact bla_no ns n hO fun _ => h2
  · exact bla_no ns n hO fun h => absurd h h1
theorem blanks_walk {W : World} {a : Option Addr} {cap : Nat} {rs : List QRow} (hR : Rows QRow.cells 6 W a cap rs) (hQ : ∀ q ∈ rs, QRowIn W q) (n : Int) :
    Calls Try.prog 3 #[.slice a rs.length cap, .int .i64 n] W fun e w' => e = .returned (.bool true) ∧ Below W.heap.size W w' :=
  Sy.law_true11 (Sy.bla_all (rs.map QRow.n) n ⟨by rw [List.length_map]; exact hR.sm, fun o ho => by
    obtain ⟨r, hr, rfl⟩ := List.mem_map.1 ho
    exact (hQ r hr).2.2⟩) (us := [_, _]) ⟨_, _, rfl, rel_nview hR hQ, _, _, rfl, rfl, rfl⟩
end Go.Proofs.Ytglkdhmikpejnaa
