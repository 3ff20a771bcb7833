/-
  Lemmas for MarkupAgain, part 6; no conditions.
-/
import Derived.Test.YtglkdhmikpejnaaRows
import Derived.ProofKit
import Derived.SizedLaws
import Derived.Deep.Slices
import Derived.Lib.SmallJoins
import Derived.Test.YtglkdhmikpejnaaMapE
set_option linter.unusedVariables false
set_option linter.unusedSimpArgs false
set_option linter.unusedSectionVars false
namespace Go.Proofs.Ytglkdhmikpejnaa
open Go.RowKit Go.ChangeShapes Go.WideShapes Go.ChangeAt Go.Deep
theorem own : ownKnob Try.prog.godebug = none := by kernel_rfl
theorem laidOut : laidOutB Try.prog = true := by kernel_rfl
section
variable {H : Type} {enc : TypeId × Value → H} {P : Program}
theorem trodAll_below (hl : laidOutB P = true) {W W' : World} (hb : Below W.heap.size W W') : ∀ (ts : List TypeId) (vs : List Value) (ds : List (DataW H)) (ps : List MemPlace),
    (∀ t ∈ ts, P.readableRec t = true ∧ t < P.types.size) → DataW.TrodAll enc P W 0 (fun _ => true) true ts vs ds ps → (∀ x ∈ ps, x.block < W.heap.size) →
    DataW.TrodAll enc P W' 0 (fun b => decide (b < W.heap.size)) true ts vs ds ps
  | [], [], [], ps, _, h, _ => h
  | t :: ts, v :: vs, d :: ds, ps, hr, h, hlt => by
    obtain ⟨p, q, h1, h2, rfl⟩ := h
    obtain ⟨r1, r2⟩ := hr t (by simp)
    exact ⟨p, q, Below.trod hl r1 r2 h1 hb (fun x hx => hlt x (by simp [hx])), trodAll_below hl hb ts vs ds q (fun t ht => hr t (by simp [ht])) h2 (fun x hx => hlt x (by simp [hx])), rfl⟩
  | [], _ :: _, _, _, _, h, _ => h.elim
  | [], [], _ :: _, _, _, h, _ => h.elim
  | _ :: _, [], _, _, _, h, _ => h.elim
  | _ :: _, _ :: _, [], _, _, h, _ => h.elim
theorem trodAll_len {W : World} {base : Nat} {sp : Nat → Bool} {hd : Bool} : ∀ (ts : List TypeId) (vs : List Value) (ds : List (DataW H)) (ps : List MemPlace), DataW.TrodAll enc P W base sp hd ts vs ds ps → ds.length = ts.length
  | [], [], [], _, _ => rfl
  | t :: ts, v :: vs, d :: ds, ps, h => by
    obtain ⟨p, q, _, h2, _⟩ := h
    simp [trodAll_len ts vs ds q h2]
  | [], _ :: _, _, _, h => h.elim
  | [], [], _ :: _, _, h => h.elim
  | _ :: _, [], _, _, h => h.elim
  | _ :: _, _ :: _, [], _, h => h.elim
theorem law_lifted {C : Checked} {os : Os} {f : FuncId} {fn : Func} {s : ChangeSpec} {tb : TypeId}
    (own : ownKnob C.prog.godebug = none) (started : os.Started) (noInit : C.prog.inits.idxOf? f = none) (hfn : C.prog.funcs[f]? = some fn) (hlaid : laidOutB C.prog = true)
    (witness : ∃ (w : World) (tape : Tape) (i : Input), w.os = os ∧ (w.forCall tape i).Shaped C.prog ∧ i.vars = [] ∧ Input.okWide C.prog (w.forCall tape i) .any w.heap.size f i ∧
      s.pre6 enc C.prog fn [] false (w.forCall tape i).memory i.args ∧ ({} : Assume).holds C.prog (lone (Frame.enter C.prog f i.args .normal) [] (w.forCall tape i)))
    (hres : fn.resultTypes = #[tb]) (hb : C.prog.underlying tb = some .bool) (hv : s.vars = [])
    (hspec : ∀ ds : List (DataW H), ds.length = fn.params.toList.length → (s.fn H ds).results = [.lit (.bool true)] ∧ (s.fn H ds).args = ds ∧ (s.fn H ds).vars = [])
    (hreadB : fn.params.toList.all (fun t => C.prog.readableRec t && decide (t < C.prog.types.size)) = true)
    (contract : ∀ (W : World) (base : Nat) (args : Array Value) (ds : List (DataW H)) (p : List MemPlace),
      (∀ (j : Nat) t v, fn.params[j]? = some t → args[j]? = some v → Value.okWide C.prog W .any base t v) →
      DataW.TrodAll enc C.prog W 0 (fun _ => true) true fn.params.toList args.toList ds p → (∀ x ∈ p, x.block < W.heap.size) →
      (DataW.weightsEach C.prog fn.params.toList ds).all (· ≤ reachBytes) = true →
      Calls C.prog f args W fun e W' => e = .returned (.bool true) ∧ Below W.heap.size W W') :
    ReturnsInHanded {} C os f .any (s.pre6 enc C.prog fn [] false) (s.post enc C.prog fn false true false false) := by
  have hread : ∀ t ∈ fn.params.toList, C.prog.readableRec t = true ∧ t < C.prog.types.size := fun t ht => by
    have := List.all_eq_true.1 hreadB t ht
    simpa using this
  refine returnsInHanded_of_change_sized own started noInit hfn witness ?_
  intro W base args ds gs before hval hW _ hsz _
  have hW' := hW
  obtain ⟨p, q, hA, hV, hpq, _, _⟩ := hW
  have hpl : ∀ x ∈ p, x.block < W.heap.size := fun x hx => hW'.lt x (by rw [hpq]; simp [hx])
  rw [hv] at hV
  obtain ⟨hgs, hq⟩ : gs = [] ∧ q = [] := by
    cases gs with
    | nil => exact ⟨rfl, hV⟩
    | cons _ _ => exact hV.elim
  subst hgs
  have hvt : s.plain.varTypes C.prog = [] := by
    have : s.plain.vars = [] := hv
    unfold DataSpec.varTypes
    rw [this]; rfl
  rw [hvt, List.append_nil, List.append_nil] at hsz
  have hlen : ds.length = fn.params.toList.length := trodAll_len _ _ _ _ hA
  obtain ⟨s1, s2, s3⟩ := hspec ds hlen
  refine (contract W base args ds p hval hA hpl hsz).mono fun e W' ⟨he, hbl⟩ => ?_
  subst he
  refine ⟨_, rfl, ds, [], before, [], p, [], hW', ?_, ?_, ?_, hbl.frame _, fun h => by cases h⟩
  · rw [List.append_nil, s1, hres]
    exact trodAll_mk1 (shut_bool hb _)
  · rw [List.append_nil, s2]
    exact trodAll_below hlaid hbl _ _ _ _ hread hA hpl
  · rw [List.append_nil, s3, hv]
    rfl
end
end Go.Proofs.Ytglkdhmikpejnaa
namespace Go.Proofs.Ytglkdhmikpejnaa
open Go Go.RowKit Go.ChangeShapes Go.WideShapes Go.ChangeAt Go.Deep
set_option maxRecDepth 100000
instance : Inhabited ByteArray := ⟨⟨#[]⟩⟩
instance : Inhabited AttrV := ⟨attrNone⟩
structure QRow where
  n : NdV
  a : Option Addr
  cap : Nat
  b : Option Addr
  cbp : Nat
instance : Inhabited QRow := ⟨⟨ndNone, none, 0, none, 0⟩⟩
def QRow.cells (r : QRow) : List Value := [.int .i64 r.n.par, .string r.n.tag, .string r.n.id, .slice r.a r.n.cls.length r.cap, .slice r.b r.n.atts.length r.cbp, .string r.n.text]
section
variable {H : Type} {enc : TypeId × Value → H} {W : World}
end
end Go.Proofs.Ytglkdhmikpejnaa
namespace Go.Proofs.Ytglkdhmikpejnaa
open Go Go.RowKit Pl Sy
open Classical in
noncomputable def frN (L : List NdV) : NdV := if h : ∃ n k, TreeF L n k then h.choose else ndNone
open Classical in
noncomputable def frK (L : List NdV) : Ft := if h : ∃ n k, TreeF L n k then h.choose_spec.choose else .nil
theorem fr_ok {L : List NdV} (h : TreeOk L ∧ 0 < L.length) : TreeF L (frN L) (frK L) := by
  have hx := treeF h.1 h.2
  unfold frN frK
  rw [dif_pos hx, dif_pos hx]
  exact hx.choose_spec.choose_spec
noncomputable def prTx (L : List NdV) (b w : ByteArray) : ByteArray := ⟨⟨(Ft.cons (frN L) (frK L) .nil).pr b.data.toList w.data.toList⟩⟩
end Go.Proofs.Ytglkdhmikpejnaa
namespace Go.Proofs.Ytglkdhmikpejnaa
open Go Go.RowKit Pl Sy
namespace Sy
end Sy
theorem prTx_size {ns : List NdV} (h : TreeOk ns ∧ 0 < ns.length) (b w : ByteArray) (hb : b.size ≤ 100) (hw : w.size ≤ 100) : (prTx ns b w).size ≤ 10000000 := by
  have hF := fr_ok h
  have h1 := Ft.pr_le b.data.toList w.data.toList _ hF.good
  have h2 : (Ft.cons (frN ns) (frK ns) .nil).sz * (2710 + 3 * b.data.toList.length + w.data.toList.length) ≤ 1024 * 3200 := Nat.mul_le_mul hF.sz (by rw [← size_toList, ← size_toList]; omega)
  show ((Ft.cons (frN ns) (frK ns) .nil).pr b.data.toList w.data.toList).length ≤ _
  omega
end Go.Proofs.Ytglkdhmikpejnaa
namespace Go.Proofs.Ytglkdhmikpejnaa
open Go Go.RowKit Pl Sy
theorem rt3_ge : ∀ (F : Ft) (i : Nat) (x : Int × (List UInt8 × Int)), x ∈ rt3 F i → (i : Int) ≤ x.1
  | .nil, i, x, h => by cases h
  | .cons n k nx, i, x, h => by
    rcases List.mem_cons.1 h with h | h
    · rw [h]; exact Int.le_refl _
    · have := rt3_ge nx (i + 1 + k.sz) x h
      omega
def look3 : List (Int × (List UInt8 × Int)) → Int → List UInt8 × Int
  | [], _ => ([], 0)
  | a :: l, x => if x = a.1 then a.2 else look3 l x
theorem look_rt3 : ∀ (F : Ft) (i : Nat) (x : Int × (List UInt8 × Int)), x ∈ rt3 F i → look3 (rt3 F i) x.1 = x.2
  | .nil, i, x, h => by cases h
  | .cons n k nx, i, x, h => by
    rcases List.mem_cons.1 h with h | h
    · rw [h]; exact if_pos rfl
    · have hg := rt3_ge nx (i + 1 + k.sz) x h
      show (if x.1 = (i : Nat) then _ else look3 (rt3 nx (i + 1 + k.sz)) x.1) = _
      rw [if_neg (by omega)]
      exact look_rt3 nx (i + 1 + k.sz) x h
theorem Sy.wno_all (L : List NdV) (hl : L.length ≤ 1024) : ∀ (F : Ft) (i : Nat) (p : Int), InL L F i p → -1 ≤ p → p < i → OutL L F i → F.good → i + F.sz ≤ L.length →
    ∀ x ∈ rt3 F i, ∀ T a0, AdrOk 0 a0 → limX (T.size + x.2.1.length) → CallTo Try.prog 25 [.ptr 0 0, int x.1] (xM a0 T (nview L)) fun v M' => v = int x.2.2 ∧ XEnd M' (T ++ ⟨⟨x.2.1⟩⟩) (nview L) := by
  intro F
  induction F with
  | nil => intro i p h h0 h1 ho hg hs x hx; cases hx
  | cons n k nx ihk ihn =>
    intro i p h h0 h1 ho hg hs x hx T a0 ha hlim
    have hs' := hs
    simp only [Ft.sz] at hs'
    have hall := h
    obtain ⟨⟨g1, g2⟩, g3, g4⟩ := h
    rcases List.mem_cons.1 hx with hx | hx
    · subst hx
      have ik := ihk (i + 1) (i : Nat) g3 (by omega) (by omega) (OutL.kid hall h0 h1 ho) hg.2.1 (by omega)
      have eN : ndN L (i : Nat) = setP n p := g2
      have hhead : n.cls.length ≤ 1000 ∧ n.atts.length ≤ 1000 := by
        by_cases ht : n.tag.data.toList = []
        · obtain ⟨t1, t2, t3, t4⟩ := nd_words hg.1.1 ht
          rw [t2, t3]
          exact ⟨Nat.zero_le _, Nat.zero_le _⟩
        · obtain ⟨_, q2, _⟩ := elem_mk (nd_elem hg.1.1 ht)
          exact ⟨by have := q2.cls.1; omega, by have := q2.ats.1; omega⟩
      have e : prOne [] (ndN L (i : Nat)) k (k.pr [] [32]) = prOne [] n k (k.pr [] [32]) := by rw [eN]; rfl
      have key := wno_t L (by omega) ⟨fun y => (look3 (rt3 k (i + 1)) y).1, fun y => (look3 (rt3 k (i + 1)) y).2, fun y => ∃ x ∈ rt3 k (i + 1), x.1 = y⟩ ⟨fun T y ⟨x, hx, hy⟩ hlx a1 ha1 => by
        subst hy
        simp only [look_rt3 k (i + 1) x hx] at hlx ⊢
        exact ik x hx T a1 ha1 hlx⟩ i g1 k a0 ha T (by rw [eN]; exact hhead) (by rw [eN]; exact fun q => hg.1.2 q) ⟨g3, by omega, by omega, fun hlt => OutL.last hall h0 h1 ho hlt, fun x hx => ⟨⟨x, hx, rfl⟩, by simp only [look_rt3 k (i + 1) x hx], by simp only [look_rt3 k (i + 1) x hx]⟩⟩ (by rw [e]; exact hlim)
      rw [e] at key
      exact key
    · exact ihn (i + 1 + k.sz) p g4 h0 (by omega) (OutL.next hall h0 h1 ho) hg.2.2 (by omega) x hx T a0 ha hlim
namespace Sy
noncomputable def xNil (M : Mem) (wb : Nat) (z : AV) : Mem := (M.push (byB 0 (tcell ⟨⟨[]⟩⟩))).put wb (some (wwB (.lit (.pointer none)) (.own M.top 0 1) z))
abbrev wwB0 (z : AV) : Blk := wwB (.lit (.pointer none)) (.lit (.slice none 0 0)) z
theorem xNil_get {M : Mem} {wb : Nat} {z : AV} (h : M.get wb = some (wwB0 z)) : (xNil M wb z).get wb = some (wwB (.lit (.pointer none)) (.own M.top 0 1) z) ∧ (xNil M wb z).get M.top = some (byB 0 (tcell ⟨⟨[]⟩⟩)) := by
  have hlt := Mem.get_lt h
  have hold : (M.push (byB 0 (tcell ⟨⟨[]⟩⟩))).get wb = some (wwB0 z) := by rw [Mem.get_push_old _ _ hlt]; exact h
  have hlt' : wb < (M.push (byB 0 (tcell ⟨⟨[]⟩⟩))).top := by show wb < M.top + 1; omega
  unfold xNil
  exact ⟨put_get hold, by rw [Mem.get_put_ne _ hlt' (by omega), Mem.get_push_new]⟩
theorem CallTo.nilX {P : Program} {f : FuncId} {args : List AV} {M : Mem} {wb : Nat} {z : AV} {G : AV → Mem → Prop} (hb : M.get wb = some (wwB0 z)) (h : CallTo P f args (xNil M wb z) G) : CallTo P f args M G := fun w0 ρ us w hr hW => by
  obtain ⟨h1, h2, h3⟩ := hW.virt 5 1 (tcell ⟨⟨[]⟩⟩)
  have hlt := Mem.get_lt hb
  have hlt' : wb < (M.push (byB 0 (tcell ⟨⟨[]⟩⟩))).top := by show wb < M.top + 1; omega
  have h4 : WR w0 (nilled ρ M.top) (xNil M wb z) w := by
    refine WR.swap h3 (Nat.le_refl _) fun b' B' hb' => ?_
    rcases Mem.get_put hlt' hb' with ⟨rfl, hB⟩ | ⟨hne, hB⟩
    · simp at hB; subst hB
      refine ⟨wwB0 z, by rw [Mem.get_push_old _ _ hlt]; exact hb, rfl, fun cur hH => ⟨fun k v hv => ?_, hH.2⟩, .inr (by simp)⟩
      rcases k with _ | _ | _ | k
      · exact hH.1 0 v hv
      · simp at hv; subst hv
        obtain ⟨u, q1, q2⟩ := hH.1 1 _ rfl
        refine ⟨u, q1, ?_⟩
        simp only [rel] at q2 ⊢
        exact .inl ⟨h2, trivial, q2⟩
      · exact hH.1 2 v hv
      · simp at hv
    · exact ⟨B', hB, rfl, fun cur hH => hH, .inl rfl⟩
  refine (h w0 (nilled ρ M.top) us w (rels.ext h1 hr) h4).mono ?_
  rintro e w' ⟨ρ', u, v, M', q1, q2, q3, q4, q5⟩
  exact ⟨ρ', u, v, M', q1, h1.trans q2, q3, q4, q5⟩
end Sy
def spB : ByteArray := ⟨⟨[32]⟩⟩
noncomputable def wrTx (L : List NdV) : ByteArray := prTx L ⟨⟨[]⟩⟩ spB
theorem Sy.node0_at {L : List NdV} (h : TreeOk L ∧ 0 < L.length) {M : Mem} {wb : Nat} (hb : M.get wb = some (wwB0 (nview L))) : CallTo Try.prog 25 [.ptr wb 0, int 0] M fun v M' => v = int (L.length : Nat) ∧ M' = xRes (xNil M wb (nview L)) wb M.top 0 (tcell ⟨⟨[]⟩⟩) (wrTx L) (nview L) := by
  have hF := fr_ok h
  obtain ⟨g0, g1⟩ := xNil_get hb
  have hz := prTx_size h ⟨⟨[]⟩⟩ spB (by decide) (by decide)
  have e : (Ft.cons (frN L) (frK L) .nil).pr [] [32] = prOne [] (frN L) (frK L) ((frK L).pr [] [32]) := by
    show _ ++ [] = _
    rw [List.append_nil]
  have eW : wrTx L = ⟨⟨prOne [] (frN L) (frK L) ((frK L).pr [] [32])⟩⟩ := by
    unfold wrTx prTx
    rw [← e]
    rfl
  have hlen : ((0 + 1 + (frK L).sz : Nat) : Int) = (L.length : Nat) := by
    rw [hF.len]
    simp only [Ft.sz]
    omega
  refine CallTo.nilX hb (conX_frame (T := ⟨⟨[]⟩⟩) (rest := [int 0]) (v0 := int (L.length : Nat)) (fun a0 ha => ?_) ⟨trivial, trivial⟩ trivial (nview_free L) g0 g1 (show TIs 0 (tcell ⟨⟨[]⟩⟩) ⟨⟨[]⟩⟩ from ⟨rfl, fun _ _ _ _ => rfl⟩) (.inl rfl))
  have key := wno_all L (by rw [hF.len]; exact hF.sz) (Ft.cons (frN L) (frK L) .nil) 0 (-1) hF.lies (Int.le_refl _) (by omega) hF.out hF.good (by rw [hF.len]; omega) _ (List.mem_cons_self ..) ⟨⟨[]⟩⟩ a0 ha (by
    simp only
    have : (wrTx L).size ≤ 10000000 := hz
    rw [eW] at this
    have h2 : (ByteArray.mk (Array.mk (prOne [] (frN L) (frK L) ((frK L).pr [] [32])))).size = (prOne [] (frN L) (frK L) ((frK L).pr [] [32])).length := rfl
    unfold limX
    show 0 + (prOne [] (frN L) (frK L) ((frK L).pr [] [32])).length ≤ _
    omega)
  simp only at key
  rw [hlen] at key
  rw [eW]
  exact key
end Go.Proofs.Ytglkdhmikpejnaa
namespace Go.Proofs.Ytglkdhmikpejnaa
open Go Go.RowKit Pl Sy
structure Nw0X where
  wb : Nat
  z : AV
noncomputable def nw0Get2 (M : Mem) (wb : Nat) : Option Blk → Option Nw0X
  | some ⟨[.lit (.pointer none), .lit (.slice none 0 0), z], e, none⟩ => match Nat.beq e 62 with
    | true => some ⟨wb, z⟩
    | false => none
  | _ => none
noncomputable def nw0Get (args : List AV) (M : Mem) : Option Nw0X := match args with
  | [.ptr wb 0, .lit (.int .i64 0)] => nw0Get2 M wb (M.get wb)
  | _ => none
theorem nw0Get_ok {args : List AV} {M : Mem} {x : Nw0X} (h : nw0Get args M = some x) : args = [.ptr x.wb 0, int 0] ∧ M.get x.wb = some (wwB0 x.z) := by
  unfold nw0Get at h
  split at h
  · rename_i wb
    cases hg : M.get wb with
    | none => rw [hg] at h; cases h
    | some B =>
      rw [hg] at h
      unfold nw0Get2 at h
      split at h
      · rename_i z e heq
        simp at heq
        subst heq
        split at h
        · rename_i hb
          have h1 := Nat.eq_of_beq_eq_true hb
          subst h1
          simp at h
          subst h
          exact ⟨rfl, hg⟩
        · cases h
      · cases h
  · cases h
open Classical in
noncomputable abbrev Sy.cNw0 (L : List NdV) : Con Try.prog where
  f := 25
  run := fun args M => match nw0Get args M with
    | some x => some (int (L.length : Nat), xRes (xNil M x.wb x.z) x.wb M.top 0 (tcell ⟨⟨[]⟩⟩) (wrTx L) x.z)
    | none => none
  ob := fun args M => match nw0Get args M with
    | some x => some (isSo (x.z = nview L ∧ TreeOk L ∧ 0 < L.length))
    | none => none
  ok := fun args M v M' hr hob => by
    cases hg : nw0Get args M with
    | none => rw [hg] at hr; cases hr
    | some x =>
      rw [hg] at hr hob
      simp at hr
      obtain ⟨rfl, rfl⟩ := hr
      have h1 := hob _ rfl
      rw [isSo_t] at h1
      obtain ⟨hz, hL⟩ := h1
      obtain ⟨rfl, hb⟩ := nw0Get_ok hg
      rw [hz] at hb ⊢
      refine ⟨?_, node0_at hL hb⟩
      unfold xRes xNil
      exact ((((Grow.push M _).trans (Grow.put _ _ _)).trans (Grow.put _ _ _)).trans (Grow.put _ _ _)).trans (Grow.push _ _)
end Go.Proofs.Ytglkdhmikpejnaa
namespace Go.Proofs.Ytglkdhmikpejnaa
open Go Go.RowKit Pl Sy
def emB : ByteArray := ⟨⟨[]⟩⟩
noncomputable def pEx (L : List NdV) : Int := if eqI (ckI L) 0 = true then (if leI (wrTx L).size 32768 = true then 0 else 2) else 34
noncomputable def pSx (L : List NdV) : ByteArray := if eqI (ckI L) 0 = true then (if leI (wrTx L).size 32768 = true then wrTx L else emB) else emB
theorem wrTx_pos {L : List NdV} (h : TreeOk L ∧ 0 < L.length) : (wrTx L).size ≠ 0 := by
  have hF := fr_ok h
  have hg : (Ft.cons (frN L) (frK L) .nil).good := hF.good
  have ht := hF.tag
  unfold wrTx prTx
  rw [size_toList]
  simp only [Ft.pr, prOne, if_neg ht]
  unfold headL
  intro e
  have h1 := List.length_eq_zero_iff.1 e
  simp only [List.append_eq_nil_iff] at h1
  exact ht h1.1.1.1
theorem wrTx_of {L : List NdV} : textOf (0 + (wrTx L).size) (appc 0 (tcell ⟨⟨[]⟩⟩) (tcell (wrTx L))) = wrTx L := by
  have h : TIs (0 + (wrTx L).size) (appc 0 (tcell ⟨⟨[]⟩⟩) (tcell (wrTx L))) (⟨⟨[]⟩⟩ ++ wrTx L) := TIs.app2 (show TIs 0 (tcell ⟨⟨[]⟩⟩) ⟨⟨[]⟩⟩ from ⟨rfl, fun _ _ _ _ => rfl⟩) _
  rw [textOf_eq h]
  exact ba_ext (by simp)
theorem Sy.pri_t (L : List NdV) (h : NsOk L) : CallTo Try.prog 13 [nview L] M0 fun v _ => v = .tup [.lit (.string (pSx L)), int (pEx L)] :=
  to (G := fun r => r.1 = .tup [.lit (.string (pSx L)), int (pEx L)]) [cTck L, cNw0 L, cSt] [] 400 30 (.yes (.br .done (.yes (.br .done (.yes .done))))) (let e1 := (@AV.view (L).length 6 (@ndcell L)); let e2 := (@ByteArray.mk (@Array.mk _ [])); let e3 := (0 + (@ByteArray.size (@wrTx L))); let e4 := (((0 + 1) + 1) + 1); let e5 := (@appc 0 (@tcell e2) (@tcell (@wrTx L))); let e6 := (some (@Blk.mk [(@AV.ptr 0 0), (@AV.own ((0 + 1) + 1) e3 1), e1] 62 none)); (.need (@isSo (@And ((@HAppend.hAppend _ _ _ _ (@HAppend.hAppend _ _ _ _ [] [e1]) []) = [e1]) (@NsOk L))) (.fork (!(eqI (@ckI L) (0 : Int))) (.leaf ((@AV.tup [(@AV.lit (@Value.string e2)), (int (34 : Int))]), (@Mem.mk 0 0 []))) (.need (@isSo (@And (e1 = e1) (@And (@TreeOk L) (0 < (L).length)))) (.fork (!(leI ((e3 : Nat) : Int) (32768 : Int))) (.leaf ((@AV.tup [(@AV.lit (@Value.string e2)), (int (2 : Int))]), (@Mem.mk e4 e4 ((some (@Blk.mk [] 5 (some (@Rw.mk e3 1 e5)))) :: [none, e6])))) (.need (@isSo (@And (([] : List AV) = []) (@And (@ByRows e3 e5) (@And (e3 = e3) (@Not (e3 = 0)))))) (.leaf ((@AV.tup [(@AV.lit (@Value.string (@textOf e3 e5))), (int (0 : Int))]), (@Mem.mk e4 (e4 + 1) (none :: [none, e6])))))))))) (by kernel_rfl) (by
    have eT := wrTx_of (L := L)
    refine need_so ⟨rfl, h⟩ (fork_ok (fun q => ?_) (fun q => ?_))
    · have q : eqI (ckI L) 0 = false := by simpa using q
      unfold pSx pEx
      rw [if_neg (by rw [q]; simp), if_neg (by rw [q]; simp)]
      exact rfl
    · have q : eqI (ckI L) 0 = true := by simpa using q
      obtain ⟨t1, t2⟩ := ckI_ok h (by rw [eqI_t] at q; exact q)
      have e0 : leI (((0 + (wrTx L).size : Nat)) : Int) 32768 = leI (wrTx L).size 32768 := by rw [Nat.zero_add]
      unfold pSx pEx
      rw [if_pos q, if_pos q]
      refine need_so ⟨rfl, t1, t2⟩ (fork_ok (fun r => ?_) (fun r => ?_))
      · have r : leI (wrTx L).size 32768 = false := by rw [← e0]; simpa using r
        rw [if_neg (by rw [r]; simp), if_neg (by rw [r]; simp)]
        exact rfl
      · have r : leI (wrTx L).size 32768 = true := by rw [← e0]; simpa using r
        rw [if_pos r, if_pos r]
        have hp := wrTx_pos ⟨t1, t2⟩
        refine need_so ⟨rfl, ⟨_, TIs.app2 (show TIs 0 (tcell ⟨⟨[]⟩⟩) ⟨⟨[]⟩⟩ from ⟨rfl, fun _ _ _ _ => rfl⟩) _⟩, rfl, by omega⟩ ?_
        show _ = _
        rw [eT])
noncomputable abbrev Sy.cPri (L : List NdV) : Con Try.prog := at1 13 [nview L] (.tup [.lit (.string (pSx L)), int (pEx L)]) (NsOk L) fun h => ⟨⟨⟨nview_free L, trivial⟩, trivial, trivial, trivial⟩, pri_t L h⟩
end Go.Proofs.Ytglkdhmikpejnaa
namespace Go.Proofs.Ytglkdhmikpejnaa
open Go Go.RowKit Pl Sy
theorem back_read {ns : List NdV} (h : TreeOk ns ∧ 0 < ns.length) : treeR (wrTx ns) = .ok (wrTx ns).size ns := by
  have hF := fr_ok h
  have key := read_all (s := wrTx ns) (b := []) (w := [32]) (bl := []) (br := []) rfl rfl (by simp) rfl rfl hF.good hF.tag hF.sz hF.ht (by
    unfold wrTx prTx spB
    simp)
  rw [← hF.fl] at key
  exact key
theorem back_p {ns : List NdV} (h : TreeOk ns ∧ 0 < ns.length) (hl : leI (wrTx ns).size 32768 = true) : pE (wrTx ns) = 0 ∧ pNs (wrTx ns) = ns := by
  have hrd := back_read h
  exact ⟨by unfold pE; rw [hl, hrd]; rfl, by unfold pNs; rw [hl, hrd]; rfl⟩
end Go.Proofs.Ytglkdhmikpejnaa
namespace Go.Proofs.Ytglkdhmikpejnaa
open Go Go.RowKit Pl Sy
theorem nmX_len {s : ByteArray} {a : Int} (h : InM s a) : ((nmX s a).size : Int) ≤ nmE s a - a := by
  have h1 := nmE_in h
  have h0 := h.1.1
  unfold nmX
  rw [ByteArray.size_extract]
  omega
theorem wdX_len {s : ByteArray} {a : Int} (h : InM s a) (hb : wdBad s a = false) : ((wdX s a).size : Int) + 1 ≤ wdE s a - a := by
  have h1 := wdX_in h hb
  have h0 := h.1.1
  unfold wdX
  rw [ByteArray.size_extract]
  omega
def mkW (i : ByteArray) (cs : List ByteArray) (ats : List AttrV) : Nat := (idL i).length + (clsL cs).length + (atsL ats).length
theorem idL_le (i : ByteArray) : (idL i).length ≤ i.size + 1 := by
  unfold idL
  rw [size_toList]
  split
  · exact Nat.zero_le _
  · simp
theorem clsL_app (cs : List ByteArray) (x : ByteArray) : (clsL (cs ++ [x])).length = (clsL cs).length + (x.size + 1) := by
  unfold clsL
  rw [List.map_append, List.flatten_append, List.length_append]
  rw [size_toList]
  simp [clL]
theorem atsL_app (ats : List AttrV) (x : AttrV) : (atsL (ats ++ [x])).length = (atsL ats).length + (x.name.size + x.value.size + 5) := by
  unfold atsL
  rw [List.map_append, List.flatten_append, List.length_append]
  rw [size_toList, size_toList]
  simp [atL]
  omega
theorem someB_nil {i : ByteArray} (h : someB i = false) : (idL i).length = 0 := by
  unfold someB at h
  have h1 : bytesEq i.data.toList [] = true := by simpa using h
  rw [bytesEq_eq, decide_eq_true_eq] at h1
  unfold idL
  rw [if_pos h1]
  rfl
theorem hdR_w {s : ByteArray} : ∀ (n : Nat) (a : Int) (i : ByteArray) (cs : List ByteArray) (ats : List AttrV), InM s a → (hdR s n a i cs ats).bad = false →
    (mkW (hdR s n a i cs ats).id (hdR s n a i cs ats).cls (hdR s n a i cs ats).ats : Int) ≤ mkW i cs ats + ((hdR s n a i cs ats).pl - a) := by
  intro n
  induction n with
  | zero => intro a i cs ats h hb; unfold hdR; simp only; omega
  | succ n ih =>
    intro a i cs ats h hb
    have h0 := h.1
    unfold hdR at hb ⊢
    split
    · rename_i q
      rw [q] at hb
      have hlt := pk_lt (by decide) q
      have hi1 : InM s (a + 1) := ⟨by omega, h.2⟩
      have hz := nmE_in hi1
      have hx := nmX_len hi1
      simp only at hb
      split
      · rename_i e; rw [e] at hb; cases hb
      · rename_i e0
        rw [e0] at hb
        simp only at hb
        split
        · rename_i e; rw [e] at hb; cases hb
        · rename_i e
          rw [e] at hb
          have h1 := ih _ _ _ _ hz.1 hb
          have h2 := idL_le (nmX s (a + 1))
          have h3 := someB_nil e0
          unfold mkW at *
          omega
    · rename_i q
      rw [q] at hb
      simp only at hb
      split
      · rename_i q2
        rw [q2] at hb
        have hlt := pk_lt (by decide) q2
        have hi1 : InM s (a + 1) := ⟨by omega, h.2⟩
        have hz := nmE_in hi1
        have hx := nmX_len hi1
        simp only at hb
        split
        · rename_i e; rw [e] at hb; cases hb
        · rename_i e0
          rw [e0] at hb
          simp only at hb
          split
          · rename_i e; rw [e] at hb; cases hb
          · rename_i e
            rw [e] at hb
            have h1 := ih _ _ _ _ hz.1 hb
            have h2 := clsL_app cs (nmX s (a + 1))
            unfold mkW at *
            omega
      · rename_i q2
        rw [q2] at hb
        simp only at hb
        split
        · rename_i q3
          rw [q3] at hb
          simp only at hb
          split
          · rename_i e; rw [e] at hb; cases hb
          · rename_i e0
            rw [e0] at hb
            simp only at hb
            split
            · rename_i e; rw [e] at hb; cases hb
            · rename_i e
              rw [e] at hb
              have hz := at_in h e
              have h1 := ih _ _ _ _ hz.1 hb
              have h2 := atsL_app ats (atR s a)
              unfold atBad at e
              simp only [Bool.or_eq_false_iff] at e
              obtain ⟨q1, q2, q3, q4, q5⟩ := e
              have k1 := (nd_in h q1).1
              have k2 := nmX_len k1
              have k3 := nmE_in k1
              have k4 := (nd_in k3.1 q3).1
              have k5 := wdX_len k4 q4
              have k6 : (atR s a).name = nmX s (a + 1) := rfl
              have k7 : (atR s a).value = wdX s (atE s a + 1) := rfl
              rw [k6, k7] at h2
              unfold mkW atW atE at *
              omega
        · show (mkW i cs ats : Int) ≤ mkW i cs ats + (a - a)
          omega
def ownW (n : NdV) : Nat := (headL n).length + n.text.size
theorem head_w {s : ByteArray} {a : Int} (h : InM s a) (hb : (hedR s a).bad = false) : (ownW (hedN s a) : Int) ≤ (hedR s a).pl - a := by
  have hE := nmE_in h
  have hx := nmX_len h
  have e : (ownW (hedN s a) : Int) = (nmX s a).size + mkW (hedR s a).id (hedR s a).cls (hedR s a).ats := by
    unfold ownW headL mkW hedN
    rw [size_toList (nmX s a)]
    simp only [List.length_append]
    have : (⟨⟨[]⟩⟩ : ByteArray).size = 0 := rfl
    omega
  rw [e]
  unfold hedR at hb ⊢
  split
  · rename_i e; rw [e] at hb; cases hb
  · rename_i e
    rw [e] at hb
    have h1 := hdR_w _ _ _ _ _ hE.1 hb
    have h2 : mkW ⟨⟨[]⟩⟩ [] [] = 0 := rfl
    omega
def sumW : List NdV → Nat
  | [] => 0
  | n :: ns => ownW n + 3 + sumW ns
theorem sumW_app (a b : List NdV) : sumW (a ++ b) = sumW a + sumW b := by
  induction a with
  | nil => simp [sumW]
  | cons n ns ih => simp only [List.cons_append, sumW, ih]; omega
def EndW (s : ByteArray) (r : TrR) : Prop := ∀ a ns, r = .ok a ns → sumW ns ≤ 4 * s.size
theorem nxT_w {s : ByteArray} {go : Int → List NdV → List Int → TrR} {a : Int} {ns : List NdV} {os : List Int} (ha : InM s a) (h : (sumW ns : Int) ≤ 4 * a) (hgo : EndW s (go a ns os)) : EndW s (nxT s go a ns os) := fun a' ns' hr => by
  unfold nxT at hr
  have := ha.1
  split at hr
  · exact hgo a' ns' hr
  · split at hr
    · simp at hr
      obtain ⟨rfl, rfl⟩ := hr
      omega
    · cases hr
theorem elT_w {s : ByteArray} {go : Int → List NdV → List Int → TrR} {b : Int} {ns : List NdV} {os : List Int} (hb : InM s b) (h : (sumW ns : Int) ≤ 4 * b) (hgo : ∀ a ns os, InM s a → (sumW ns : Int) ≤ 4 * a → EndW s (go a ns os)) : EndW s (elT s go b ns os) := fun a' ns' hr => by
  unfold elT at hr
  split at hr
  · cases hr
  · split at hr
    · cases hr
    · split at hr
      · cases hr
      · rename_i hok
        have hi := hed_in hb hok
        have hg := hed_gt hb hok
        have hs := scI_le mblB s (hedR s b).pl hi.1.1.1 hi.1.1.2
        have hw := head_w hb hok
        have e : sumW (ns ++ [putN (hedN s b) os]) = sumW ns + (ownW (hedN s b) + 3) := by rw [sumW_app]; rfl
        split at hr
        · rename_i q
          have hlt := pk_lt (by decide) q
          exact hgo _ _ _ ⟨by have := hb.1; omega, hb.2⟩ (by rw [e]; omega) a' ns' hr
        · exact nxT_w hi.1 (by rw [e]; omega) (hgo _ _ _ hi.1 (by rw [e]; omega)) a' ns' hr
theorem tN_w (s : ByteArray) : ∀ (n : Nat) (a : Int) (ns : List NdV) (os : List Int), InM s a → (sumW ns : Int) ≤ 4 * a → EndW s (tN s n a ns os) := by
  intro n
  induction n with
  | zero => intro a ns os ha h a' ns' hr; cases hr
  | succ n ih =>
    intro a ns os ha h
    have hb : InM s (scI mblB s a) := scI_in ha
    have hs := scI_le mblB s a ha.1.1 ha.1.2
    have hel : EndW s (elT s (tN s n) (scI mblB s a) ns os) := elT_w hb (by omega) fun a ns os ha h => ih a ns os ha h
    unfold tN ndT'
    split
    · exact hel
    · split
      · rename_i q1
        have hlt := pk_lt (by decide) q1
        have hin : InM s (scI mblB s a + 1) := ⟨by have := hb.1; omega, hb.2⟩
        exact nxT_w hin (by omega) (ih _ _ _ hin (by omega))
      · split
        · intro a' ns' hr
          unfold wrT at hr
          split at hr
          · cases hr
          · split at hr
            · cases hr
            · rename_i hok
              have hin := wdX_in hb hok
              have hw := wdX_len hb hok
              have e : sumW (ns ++ [wrdN (wdX s (scI mblB s a)) os]) = sumW ns + ((wdX s (scI mblB s a)).size + 3) := by
                rw [sumW_app]
                show sumW ns + (ownW _ + 3 + 0) = _
                have e2 : ownW (wrdN (wdX s (scI mblB s a)) os) = (wdX s (scI mblB s a)).size := by
                  unfold ownW wrdN headL
                  simp [idL, clsL, atsL]
                rw [e2]
              exact nxT_w hin.1 (by rw [e]; omega) (ih _ _ _ hin.1 (by rw [e]; omega)) a' ns' hr
        · exact hel
theorem treeR_w {s : ByteArray} (hl : limM s.size) {a : Int} {ns : List NdV} (h : treeR s = .ok a ns) : sumW ns ≤ 4 * s.size :=
  tN_w s (s.size + 2) 0 [] [] ⟨⟨Int.le_refl 0, by omega⟩, hl⟩ (Int.le_refl 0) a ns h
theorem prOne_w (n : NdV) (k : Ft) (t : List UInt8) : (prOne [] n k t).length ≤ ownW n + 2 + t.length := by
  unfold prOne ownW
  rw [size_toList]
  split
  · simp only [List.length_cons, List.length_append, List.length_nil]; omega
  · rw [List.length_append]
    split
    · simp only [List.length_nil]; omega
    · simp only [List.length_cons, List.length_append, List.length_nil]; omega
theorem Ft.pr_w : ∀ (F : Ft) (i : Nat) (p : Int), (F.pr [] [32]).length ≤ sumW (F.fl i p)
  | .nil, i, p => Nat.zero_le _
  | .cons n k nx, i, p => by
    have h1 := Ft.pr_w k (i + 1) (i : Nat)
    have h2 := Ft.pr_w nx (i + 1 + k.sz) p
    have h3 := prOne_w n k (k.pr [] [32])
    have e : ownW (setP n p) = ownW n := rfl
    simp only [Ft.pr, Ft.fl, sumW, sumW_app, List.length_append, e]
    split
    · simp only [List.length_nil]; omega
    · simp only [List.length_append, List.length_cons, List.length_nil]; omega
theorem wrTx_w {L : List NdV} (h : TreeOk L ∧ 0 < L.length) : (wrTx L).size ≤ sumW L := by
  have hF := fr_ok h
  have h1 := Ft.pr_w (Ft.cons (frN L) (frK L) .nil) 0 (-1)
  rw [← hF.fl] at h1
  unfold wrTx prTx
  rw [size_toList]
  exact h1
end Go.Proofs.Ytglkdhmikpejnaa
namespace Go.Proofs.Ytglkdhmikpejnaa
open Go Go.RowKit Pl Sy
def EndE (r : TrR) : Prop := ∀ k e, r = .bad k e → e ≠ 0
theorem nxT_e {s : ByteArray} {go : Int → List NdV → List Int → TrR} {a : Int} {ns : List NdV} {os : List Int} (hgo : EndE (go a ns os)) : EndE (nxT s go a ns os) := fun k e hr => by
  unfold nxT at hr
  split at hr
  · exact hgo k e hr
  · split at hr
    · cases hr
    · simp at hr
      omega
theorem elT_e {s : ByteArray} {go : Int → List NdV → List Int → TrR} {b : Int} {ns : List NdV} {os : List Int} (hb : InM s b) (hgo : ∀ a ns os, InM s a → b < a → EndE (go a ns os)) : EndE (elT s go b ns os) := fun k e hr => by
  unfold elT at hr
  split at hr
  · simp at hr; omega
  · split at hr
    · rename_i hf
      rw [eqI_f] at hf
      simp at hr
      omega
    · split at hr
      · simp at hr; omega
      · rename_i hok
        have hi := hed_in hb hok
        have hg := hed_gt hb hok
        have hs := scI_le mblB s (hedR s b).pl hi.1.1.1 hi.1.1.2
        split at hr
        · rename_i q
          have hlt := pk_lt (by decide) q
          exact hgo _ _ _ ⟨by have := hb.1; omega, hb.2⟩ (by omega) k e hr
        · exact nxT_e (hgo _ _ _ hi.1 hg) k e hr
theorem tN_e (s : ByteArray) : ∀ (n : Nat) (a : Int) (ns : List NdV) (os : List Int), InM s a → s.size - a < n → EndE (tN s n a ns os) := by
  intro n
  induction n with
  | zero => intro a ns os ha h; have := ha.1; omega
  | succ n ih =>
    intro a ns os ha h
    have hb : InM s (scI mblB s a) := scI_in ha
    have hs := scI_le mblB s a ha.1.1 ha.1.2
    have hel : EndE (elT s (tN s n) (scI mblB s a) ns os) := elT_e hb fun a ns os ha hlt => ih a ns os ha (by omega)
    unfold tN ndT'
    split
    · exact hel
    · split
      · rename_i q1
        have hlt := pk_lt (by decide) q1
        exact nxT_e (ih _ _ _ ⟨by have := hb.1; omega, hb.2⟩ (by omega))
      · split
        · intro k e hr
          unfold wrT at hr
          split at hr
          · rename_i hf
            rw [eqI_f] at hf
            simp at hr
            omega
          · split at hr
            · simp at hr; omega
            · rename_i hok
              have hin := wdX_in hb hok
              exact nxT_e (ih _ _ _ hin.1 (by omega)) k e hr
        · exact hel
theorem treeR_e {s : ByteArray} (hl : limM s.size) : EndE (treeR s) := tN_e s (s.size + 2) 0 [] [] ⟨⟨Int.le_refl 0, by omega⟩, hl⟩ (by omega)
theorem ckN_of {ns : List NdV} : ∀ (m : Nat) (k : Int), (∀ y, k ≤ y → y < k + m → ndB (ndN ns y) = true ∧ stdB ns y = true ∧ depI ns y ≤ 64) → ckN ns m k = 0
  | 0, k, h => rfl
  | m + 1, k, h => by
    obtain ⟨q1, q2, q3⟩ := h k (Int.le_refl k) (by omega)
    rw [ckN, if_pos q1, if_pos q2, if_pos (by rw [leI_t]; exact q3)]
    exact ckN_of m (k + 1) fun y h1 h2 => h y (by omega) (by omega)
theorem ckI_of {ns : List NdV} (h : TreeOk ns) (h0 : 0 < ns.length) : ckI ns = 0 := by
  have h1 := h.1.1
  unfold ckI
  rw [if_neg (by rw [eqI_t]; omega), if_pos (by rw [leI_t]; omega)]
  refine ckN_of _ _ fun y y1 y2 => ?_
  have := h.2 y.toNat (by omega)
  rw [Int.toNat_of_nonneg y1] at this
  exact this
theorem par_of {s : ByteArray} (hs : s.size ≤ 3000) : (pE s = 0 ∧ (TreeOk (pNs s) ∧ 0 < (pNs s).length) ∧ sumW (pNs s) ≤ 4 * s.size) ∨ (pE s ≠ 0 ∧ pNs s = []) := by
  have hle : leI s.size 32768 = true := by rw [leI_t]; omega
  have hl : limM s.size := by unfold limM; omega
  unfold pE pNs
  rw [hle]
  simp only
  cases hr : treeR s with
  | bad k e => exact .inr ⟨treeR_e hl k e hr, rfl⟩
  | ok a ns =>
    have h1 := treeR_tree hl (by rw [hr]; rfl)
    rw [hr] at h1
    exact .inl ⟨rfl, h1, treeR_w hl hr⟩
theorem Sy.aga_t (s : ByteArray) : CallTo Try.prog 7 [.lit (.string s)] M0 fun v _ => v = boo true :=
  toV [cPar, cPri (pNs s), cCk (pNs s), c_sm (pNs s), cKno] [] 400 30 (.br (.yes .done) (.yes (.br (.br (.yes (.auto 0 .done)) (.auto 0 .done)) (.yes (.yes (.yes (.br (.auto 1 (.br (.auto 1 (.br (.auto 1 (.yes (.auto 1 (.yes (.auto 0 .done))))) (.auto 4 .done))) (.auto 7 .done))) (.auto 10 .done)))))))) (let e1 := (@AV.view ((@pNs s)).length 6 (@ndcell (@pNs s))); let e2 := (@isSo (@And ((@HAppend.hAppend _ _ _ _ (@HAppend.hAppend _ _ _ _ [] [e1]) []) = [e1]) (@NsOk (@pNs s)))); let e3 := (@AV.lit (@Value.string (@pSx (@pNs s)))); (.fork (!(leI (((@ByteArray.size s) : Nat) : Int) (3000 : Int))) (.need (@isSo (@And ((@HAppend.hAppend _ _ _ _ (@HAppend.hAppend _ _ _ _ ([] : List AV) ([] : List AV)) []) = []) True)) (.leaf (boo true))) (.need (@isSo (@And ((@HAppend.hAppend _ _ _ _ (@HAppend.hAppend _ _ _ _ [] [(@AV.lit (@Value.string s))]) []) = [(@AV.lit (@Value.string s))]) True)) (.fork (!(eqI (@pE s) (0 : Int))) (.fork (eqI ((((@pNs s)).length : Nat) : Int) (0 : Int)) (.need (@isSo (@And ((@HAppend.hAppend _ _ _ _ (@HAppend.hAppend _ _ _ _ ([] : List AV) ([] : List AV)) []) = []) True)) (.leaf (boo true))) (.leaf (boo false))) (.need e2 (.need (@isSo (@And ((@HAppend.hAppend _ _ _ _ (@HAppend.hAppend _ _ _ _ [] [e3]) []) = [e3]) True)) (.need e2 (.fork (eqI (@ckI (@pNs s)) (0 : Int)) (.fork (eqI (@pEx (@pNs s)) (0 : Int)) (.fork (eqI (@pE (@pSx (@pNs s))) (0 : Int)) (.need (@isSo (@And ((@HAppend.hAppend _ _ _ _ (@HAppend.hAppend _ _ _ _ [] [(@AV.view ((@pNs (@pSx (@pNs s)))).length 6 (@ndcell (@pNs (@pSx (@pNs s))))), e1]) []) = [e1, e1]) (@And (((@pNs s)).length ≤ 17592186044416) (∀ (n : NdV), n ∈ pNs s → n.Ok)))) (.need (@isSo (@And ((@HAppend.hAppend _ _ _ _ (@HAppend.hAppend _ _ _ _ ([] : List AV) ([] : List AV)) []) = []) True)) (.leaf (boo true)))) (.leaf (boo false))) (.leaf (boo false))) (.leaf (boo false)))))))))) (by kernel_rfl) (by
    refine fork_ok (fun q => need_so ⟨rfl, trivial⟩ rfl) (fun q => need_so ⟨rfl, trivial⟩ ?_)
    have q : leI s.size 3000 = true := by simpa using q
    rw [leI_t] at q
    rcases par_of (s := s) (by omega) with ⟨h1, hT, hw⟩ | ⟨h1, h2⟩
    · have hO : NsOk (pNs s) := ⟨by have := hT.1.1.1; omega, hT.1.1.2⟩
      have r : eqI (ckI (pNs s)) 0 = true := by rw [eqI_t]; exact ckI_of hT.1 hT.2
      have p : leI (wrTx (pNs s)).size 32768 = true := by
        have := wrTx_w hT
        rw [leI_t]
        omega
      have e1 : pEx (pNs s) = 0 := by unfold pEx; rw [if_pos r, if_pos p]
      have e2 : pSx (pNs s) = wrTx (pNs s) := by unfold pSx; rw [if_pos r, if_pos p]
      obtain ⟨e3, e4⟩ := back_p hT p
      rw [e1, e2, e3, e4, h1]
      refine fork_ok (fun h => by cases h) (fun _ => need_so ⟨rfl, hO⟩ (need_so ⟨rfl, trivial⟩ (need_so ⟨rfl, hO⟩ (fork_ok (fun _ => fork_ok (fun _ => fork_ok (fun _ => need_so ⟨rfl, hO⟩ (need_so ⟨rfl, trivial⟩ rfl)) (fun h => by cases h)) (fun h => by cases h)) (fun h => ?_)))))
      exact absurd (h.symm.trans r) (by simp)
    · rw [h2]
      refine fork_ok (fun _ => fork_ok (fun _ => need_so ⟨rfl, trivial⟩ rfl) (fun h => by cases h)) (fun h => ?_)
      have h : eqI (pE s) 0 = true := by simpa using h
      rw [eqI_t] at h
      exact absurd h h1)
theorem again_walk {W : World} (s : ByteArray) : Calls Try.prog 7 #[.string s] W fun e w' => e = .returned (.bool true) ∧ Below W.heap.size W w' :=
  Sy.law_true11 (Sy.aga_t s) (us := [_]) ⟨_, _, rfl, rfl, rfl⟩
end Go.Proofs.Ytglkdhmikpejnaa
