/-
  The small interpreter, part 7d: a region that draws its order does what the order of the text does.
-/
import Derived.Test.YtijmldgdcknbnaaEv76
namespace Go.Proofs.Ytijmldgdcknbnaa.Ev
open Go Go.RowKit
set_option linter.unusedVariables false

def effIdx (ops : Array Oper) : List Nat := (ops.toList.zipIdx.filter fun oi => isEff oi.1).map (·.2)
def adm (ms E : List Nat) (i p : Nat) : Bool := E.all fun e => (!(ms.getD i 0).testBit e || decide (e < p)) && (!(ms.getD e 0).testBit i || decide (p ≤ e))
noncomputable def loadOk (P : Program) (ops : Array Oper) (es : List (AV × Mem)) (F : Fr) (M : Mem) (o : Oper) (i p : Nat) : Bool := match wantedA ops (frAt ops.toList es F i) o with
  | some true => match evRead P (frAt ops.toList es F i) (memAt es M p) o, es[i]? with
    | some v, some (v', _) => aeq v v'
    | _, _ => false
  | _ => true
noncomputable def loadsOk (P : Program) (ops : Array Oper) (es : List (AV × Mem)) (F : Fr) (M : Mem) : Bool :=
  ops.toList.zipIdx.all fun oi => !isLoad oi.1 || (0 :: (effIdx ops).map (· + 1)).all fun p => !adm (masks ops.toList []) (effIdx ops) oi.2 p || loadOk P ops es F M oi.1 oi.2 p

noncomputable def evDraw (P : Program) (call : CallF) (ops : Array Oper) (F : Fr) (M : Mem) : Option (Fr × Mem) :=
  if stat ops then match evSeq P call ops ops.toList F M with
    | some es => if loadsOk P ops es F M then some (frAt ops.toList es F ops.size, memAt es M ops.size) else none
    | none => none
  else none

theorem mem_effIdx {ops : Array Oper} {e : Nat} {o : Oper} (h : ops[e]? = some o) (he : isEff o = true) : e ∈ effIdx ops := by
  unfold effIdx
  exact List.mem_map.2 ⟨(o, e), List.mem_filter.2 ⟨mem_zipIdx h, he⟩, rfl⟩

/-- an operation that is no load does not look at memory, if it leaves it as it is -/
theorem evRead_mem {P : Program} {F : Fr} {M M' : Mem} {o : Oper} (h : isLoad o = false) : evRead P F M o = evRead P F M' o := by
  have key : evRead' P F M o = evRead' P F M' o := by
    unfold evRead'
    cases ho : o.op <;> first | rfl | (exfalso; simp [isLoad, ho] at h; done)
  rw [evRead_def, evRead_def, key]

/-- a frame, at some temporaries alone -/
def rst (F : Fr) (ts : List Tmp) : Fr := F.mapIdx fun t x => if ts.contains t then x else none
theorem rst_get (F : Fr) (ts : List Tmp) (t : Nat) (h : t ∈ ts) : (rst F ts)[t]? = F[t]? := by
  simp only [rst, List.getElem?_mapIdx]
  cases F[t]? with
  | none => rfl
  | some x => simp [h]
theorem rst_some {F : Fr} {ts : List Tmp} {t : Nat} {v : AV} (h : (rst F ts)[t]? = some (some v)) : t ∈ ts ∧ F[t]? = some (some v) := by
  simp only [rst, List.getElem?_mapIdx] at h
  cases hx : F[t]? with
  | none => simp [hx] at h
  | some x =>
    simp only [hx, Option.map_some, Option.some.injEq] at h
    split at h
    · rename_i hc
      exact ⟨by simpa using hc, by rw [h]⟩
    · cases h
theorem rst_ev {F : Fr} {o : Oper} {ops : Array Oper} : ∀ x ∈ o.op.operands, evX (rst F (o.looksAt ops)) x = evX F x := fun x hx => by
  cases x with
  | tmp t =>
    rw [evX_tmp, evX_tmp]
    have ht : t ∈ o.looksAt ops := List.mem_append_left _ (List.mem_filterMap.2 ⟨Operand.tmp t, by simpa using hx, rfl⟩)
    rw [rst_get F (o.looksAt ops) t ht]
  | _ => rfl

/-- what a frame owes to the operations that are done -/
structure Done (ops : Array Oper) (es : List (AV × Mem)) (F0 : Fr) (listed : Array Bool) (ρ : Rho) (a : Act) : Prop where
  size : F0.length = a.tmps.size
  defers : a.defers = []
  wrote : ∀ (j : Nat) (o : Oper) (t : Nat) (v : AV) (M : Mem), ops[j]? = some o → o.dst = some t → listed.getD j false = true → es[j]? = some (v, M) → t < a.tmps.size → rel ρ v (a.tmps.getD t undef)
  stood : ∀ (t : Nat) (v : AV), (∀ (j : Nat) (o : Oper), ops[j]? = some o → o.dst = some t → listed.getD j false = false) → F0[t]? = some (some v) → rel ρ v (a.tmps.getD t undef)
theorem Done.ext {ops : Array Oper} {es : List (AV × Mem)} {F0 : Fr} {listed : Array Bool} {ρ ρ' : Rho} {a : Act} (h : Done ops es F0 listed ρ a) (he : Ext ρ ρ') : Done ops es F0 listed ρ' a :=
  ⟨h.size, h.defers, fun j o t v M h1 h2 h3 h4 h5 => (h.wrote j o t v M h1 h2 h3 h4 h5).ext he, fun t v h1 h2 => (h.stood t v h1 h2).ext he⟩

def Closed (ops : Array Oper) (listed : Array Bool) : Prop := ∀ (i : Nat) (o : Oper), ops[i]? = some o → listed.getD i false = true → ∀ p ∈ preds o, listed.getD p false = true
theorem Closed.reach {ops : Array Oper} {listed : Array Bool} (h : Closed ops listed) {i j : Nat} (hr : Reach ops i j) : listed.getD i false = true → listed.getD j false = true := by
  induction hr with
  | one ho hp => exact fun hi => h _ _ ho hi _ hp
  | more ho hp _ ih => exact fun hi => ih (h _ _ ho hi _ hp)
theorem Closed.ready {ops : Array Oper} {listed : Array Bool} (h : Closed ops listed) {i j : Nat} {o : Oper} (ho : ops[i]? = some o) (hp : ∀ p ∈ preds o, listed.getD p false = true) (hr : Reach ops i j) : listed.getD j false = true := by
  cases hr with
  | one ho' hj => rw [ho] at ho'; simp at ho'; subst ho'; exact hp _ hj
  | more ho' hq hr' => rw [ho] at ho'; simp at ho'; subst ho'; exact h.reach hr' (hp _ hq)

theorem getD_setB (listed : Array Bool) (i j : Nat) (d : Bool) : (listed.setIfInBounds i true).getD j d = if i = j ∧ i < listed.size then true else listed.getD j d := by
  rw [Array.getD_eq_getD_getElem?, Array.getElem?_setIfInBounds, Array.getD_eq_getD_getElem?]
  by_cases h : i = j
  · subst h
    by_cases h2 : i < listed.size
    · simp [h2]
    · simp [h2]
  · simp [h]

/-- the frame that the order of the text has at an operation that may come up, at what it looks at, is there -/
theorem Done.at {ops : Array Oper} (hS : StatOk ops) {es : List (AV × Mem)} {F0 : Fr} {listed : Array Bool} {ρ : Rho} {a : Act} (h : Done ops es F0 listed ρ a) (hl : es.length = ops.size) (hc : Closed ops listed) {i : Nat} {o : Oper} (ho : ops[i]? = some o)
    (hi : listed.getD i false = false) (hp : ∀ p ∈ preds o, listed.getD p false = true) : FR ρ (rst (frAt ops.toList es F0 i) (o.looksAt ops)) a := by
  have hlt : i < ops.size := (Array.getElem?_eq_some_iff.1 ho).1
  have h0 := (frAt_get ops.toList es F0 i 0 (by simp; omega) (by simpa using hl)).1
  refine ⟨by simp [rst, h0, h.size], fun t v hv => ?_, h.defers⟩
  obtain ⟨ht, hv'⟩ := rst_some hv
  rcases (frAt_get ops.toList es F0 i t (by simp; omega) (by simpa using hl)).2 with ⟨j, p, v', M', q1, q2, q3, q4, q5⟩ | ⟨q1, q2⟩
  · have e := q5 v hv'
    subst e
    have hj : ops[j]? = some p := by simpa using q2
    have hd : listed.getD j false = true := by
      rcases hS.look i o j p t ho hj (by omega) q3 ht with hr | hr
      · exact hc.ready ho hp hr
      · have := hr.lt hS; omega
    have hsz : t < a.tmps.size := by
      rw [← h.size, ← h0]
      exact (List.getElem?_eq_some_iff.1 hv').1
    exact h.wrote j p t v M' hj q3 hd q4 hsz
  · rw [q2] at hv'
    refine h.stood t v (fun j p hj hd => ?_) hv'
    by_cases hji : j = i
    · subst hji; exact hi
    · have hge : ¬ j < i := fun hlt' => q1 j p hlt' (by simpa using hj) hd
      rcases hS.look i o j p t ho hj hji hd ht with hr | hr
      · have := hr.lt hS; omega
      · cases hlj : listed.getD j false with
        | false => rfl
        | true => rw [hc.reach hr hlj] at hi; cases hi

/-- an operation is done -/
theorem Done.step {ops : Array Oper} (hS : StatOk ops) {es : List (AV × Mem)} {F0 : Fr} {listed : Array Bool} {ρ : Rho} {a : Act} (h : Done ops es F0 listed ρ a) {i : Nat} {o : Oper} (ho : ops[i]? = some o) (hlt : i < listed.size) {v : AV} {M : Mem} (hv : es[i]? = some (v, M)) {u : Value} (hu : rel ρ v u) :
    Done ops es F0 (listed.setIfInBounds i true) ρ (a.put o.dst u) := by
  have hsz : (a.put o.dst u).tmps.size = a.tmps.size := by cases o.dst <;> simp [Act.put]
  refine ⟨by rw [hsz]; exact h.size, by cases hd : o.dst <;> simp [Act.put, h.defers], fun j p t v' M' hj hd hl he ht => ?_, fun t v' hn hF => ?_⟩
  · rw [hsz] at ht
    by_cases hji : j = i
    · subst hji
      rw [ho] at hj; simp at hj; subst hj
      rw [hv] at he; simp at he
      obtain ⟨rfl, rfl⟩ := he
      rw [hd]
      simp only [Act.put, Array.getD_eq_getD_getElem?, Array.getElem?_setIfInBounds, if_true, if_pos ht]
      exact hu
    · rw [getD_setB, if_neg (by omega)] at hl
      have := h.wrote j p t v' M' hj hd hl he ht
      cases hod : o.dst with
      | none => exact this
      | some d =>
        have hne : d ≠ t := fun e => by
          subst e
          exact hS.apart i o j p d ho hj hji hd hod
        simp only [Act.put, Array.getD_eq_getD_getElem?, Array.getElem?_setIfInBounds]
        rw [if_neg hne, ← Array.getD_eq_getD_getElem?]
        exact this
  · have hno : o.dst ≠ some t := fun e => by
      have := hn i o ho e
      rw [getD_setB, if_pos ⟨rfl, hlt⟩] at this
      cases this
    have := h.stood t v' (fun j p hj hd => by
      have := hn j p hj hd
      rw [getD_setB] at this
      split at this
      · cases this
      · exact this) hF
    cases hod : o.dst with
    | none => exact this
    | some d =>
      simp only [Act.put, Array.getD_eq_getD_getElem?, Array.getElem?_setIfInBounds]
      rw [if_neg (fun e => hno (by rw [hod, e])), ← Array.getD_eq_getD_getElem?]
      exact this

structure Inv (ops : Array Oper) (es : List (AV × Mem)) (F0 : Fr) (M0 : Mem) (w0 : World) (ρ0 : Rho) (listed : Array Bool) (a : Act) (w : World) : Prop where
  size : listed.size = ops.size
  closed : Closed ops listed
  st : ∃ (ρ : Rho) (i0 : Nat), (i0 = 0 ∨ ∃ (e : Nat) (o : Oper), ops[e]? = some o ∧ isEff o = true ∧ i0 = e + 1) ∧
    (∀ (e : Nat) (o : Oper), ops[e]? = some o → isEff o = true → (listed.getD e false = true ↔ e < i0)) ∧ Ext ρ0 ρ ∧ WR w0 ρ (memAt es M0 i0) w ∧ Done ops es F0 listed ρ a

theorem mem_same {P : Program} {call : CallF} {ops : Array Oper} {es : List (AV × Mem)} {F0 : Fr} {M0 : Mem} (hs : evSeq P call ops ops.toList F0 M0 = some es) : ∀ (k i : Nat), i + k ≤ ops.size → (∀ (e : Nat) (o : Oper), i ≤ e → e < i + k → ops[e]? = some o → isEff o = false) → memAt es M0 (i + k) = memAt es M0 i
  | 0, i, _, _ => rfl
  | k + 1, i, hle, hn => by
    have ih := mem_same hs k i (by omega) (fun e o h1 h2 h3 => hn e o h1 (by omega) h3)
    have hlt : i + k < ops.size := by omega
    have ho : ops.toList[i + k]? = some ops[i + k] := by simp [hlt]
    obtain ⟨_, h2⟩ := evSeq_spec _ _ _ _ hs
    obtain ⟨v, _, h3⟩ := h2 (i + k) _ ho
    have hne := hn (i + k) ops[i + k] (by omega) (by omega) (by simp [hlt])
    have : memAt es M0 (i + k + 1) = memAt es M0 (i + k) := by
      rcases h3 with ⟨_, h4, _⟩ | ⟨_, _, _, h4⟩ | ⟨_, _, h4⟩
      · rw [hne] at h4; cases h4
      · exact h4
      · exact h4
    rw [← ih, ← this]; rfl

theorem inv_op {P : Program} (hP : Plainly P) {call : CallF} (hcall : CallOk P call) {ops : Array Oper} (hS : StatOk ops) {es : List (AV × Mem)} {F0 : Fr} {M0 : Mem} {w0 : World} {ρ0 : Rho} (hs : evSeq P call ops ops.toList F0 M0 = some es) (hL : loadsOk P ops es F0 M0 = true)
    {listed : Array Bool} {a : Act} {w : World} (h : Inv ops es F0 M0 w0 ρ0 listed a w) {i : Nat} (hi : i ∈ Region.ready .any ops listed) {Q : Exit → Act → World → Prop} {K : Act → World → Prop} (hK : ∀ a' w', Inv ops es F0 M0 w0 ρ0 (listed.setIfInBounds i true) a' w' → K a' w') :
    wpOp P ops Q i K a w := by
  obtain ⟨hi0, o, ho, hpre⟩ := mem_ready.1 hi
  have hlt : i < ops.size := (Array.getElem?_eq_some_iff.1 ho).1
  have hlt' : i < listed.size := by rw [h.size]; exact hlt
  have hif : listed.getD i false = false := by
    rw [Array.getD_eq_getD_getElem?, Array.getElem?_eq_getElem hlt'] at hi0 ⊢
    simpa using hi0
  have hp : ∀ p ∈ preds o, listed.getD p false = true := fun p hp => by
    obtain ⟨e, he, hb, rfl⟩ := mem_preds.1 hp
    exact hpre e he hb
  obtain ⟨hlen, hspec⟩ := evSeq_spec _ _ _ _ hs
  have hlen' : es.length = ops.size := by simpa using hlen
  obtain ⟨ρ, i0, c1, c2, c3, c4, c5⟩ := h.st
  have hF := c5.at hS hlen' h.closed ho hif hp
  obtain ⟨v, hv, hstep⟩ := hspec i o (by simpa using ho)
  have hwA : wantedA ops (rst (frAt ops.toList es F0 i) (o.looksAt ops)) o = wantedA ops (frAt ops.toList es F0 i) o := wantedA_congr fun t ht => rst_get _ _ t ht
  have hclosed : Closed ops (listed.setIfInBounds i true) := fun j p hj hl q hq => by
    rw [getD_setB] at hl ⊢
    split
    · rfl
    · split at hl
      · rename_i _ hij
        have e := hij.1
        subst e
        rw [ho] at hj; simp at hj; subst hj
        exact hp q hq
      · exact h.closed j p hj hl q hq
  -- nothing is written: the stage stays
  have stay : isEff o = false → ∀ (e : Nat) (o' : Oper), ops[e]? = some o' → isEff o' = true → ((listed.setIfInBounds i true).getD e false = true ↔ e < i0) := fun hne e o' he1 he2 => by
    rw [getD_setB]
    have hie : ¬ (i = e ∧ i < listed.size) := fun hh => by
      have e' := hh.1
      subst e'
      rw [ho] at he1; simp at he1; subst he1
      rw [hne] at he2; cases he2
    rw [if_neg hie]
    exact c2 e o' he1 he2
  unfold wpOp
  simp only [ho]
  have noEff : isEff o = true → ∀ (e : Nat) (o' : Oper), ops[e]? = some o' → isEff o' = true → (e < i ↔ e < i0) ∧ i0 ≤ i := fun he => by
    have hge : i0 ≤ i := by
      rcases Nat.lt_or_ge i i0 with hh | hh
      · have := (c2 i o ho he).2 hh
        rw [hif] at this; cases this
      · exact hh
    intro e o' h1 h2
    refine ⟨⟨fun hl => ?_, fun hl => by omega⟩, hge⟩
    have := h.closed.ready ho hp (hS.eff i o e o' ho h1 hl he h2)
    exact (c2 e o' h1 h2).1 this
  have memE : isEff o = true → memAt es M0 i = memAt es M0 i0 := fun he => by
    have hge := (noEff he i o ho he).2
    have := mem_same hs (i - i0) i0 (by omega) (fun e o' h1 h2 h3 => by
      cases hh : isEff o' with
      | false => rfl
      | true => have := ((noEff he e o' h3 hh).1).1 (by omega); omega)
    rw [show i0 + (i - i0) = i by omega] at this
    exact this
  have stageE : isEff o = true → ∀ (e : Nat) (o' : Oper), ops[e]? = some o' → isEff o' = true → ((listed.setIfInBounds i true).getD e false = true ↔ e < i + 1) := fun he e o' h1 h2 => by
    rw [getD_setB]
    split
    · rename_i hh
      simp; omega
    · rename_i hh
      have hne : e ≠ i := fun e' => hh ⟨e'.symm, hlt'⟩
      rw [c2 e o' h1 h2, ← (noEff he e o' h1 h2).1]
      omega
  rcases hstep with ⟨h1, h2, h3⟩ | ⟨h1, h2, h3, h4⟩ | ⟨h1, h2, h3⟩
  · -- it writes
    rw [wantedA_sound hF (hwA.trans h1), if_pos rfl]
    rw [memE h2, ← evOp1_congr (F := rst (frAt ops.toList es F0 i) (o.looksAt ops)) (F' := frAt ops.toList es F0 i) (fun x hx => rst_ev x hx)] at h3
    left
    refine evOp1_sound hP hcall hF c4 h3 (Q := Q) ?_
    intro ρ' u w' q1 q2 q3
    exact hK _ _ ⟨by simp [h.size], hclosed, ρ', i + 1, .inr ⟨i, o, ho, h2, rfl⟩, stageE h2, c3.trans q1, q3, (c5.ext q1).step hS ho hlt' hv q2⟩
  · rw [wantedA_sound hF (hwA.trans h1), if_pos rfl]
    left
    have hread : evRead P (rst (frAt ops.toList es F0 i) (o.looksAt ops)) (memAt es M0 i0) o = some v := by
      rw [evRead_congr (F' := frAt ops.toList es F0 i) (fun x hx => rst_ev x hx)]
      cases hld : isLoad o with
      | false => rw [evRead_mem (M' := memAt es M0 i) hld]; exact h3
      | true =>
        unfold loadsOk at hL
        rw [List.all_eq_true] at hL
        have := hL (o, i) (mem_zipIdx ho)
        simp only [hld, Bool.not_true, Bool.false_or, List.all_eq_true] at this
        have hm : ∀ p j, ((masks ops.toList []).getD p 0).testBit j = true → Reach ops p j := masks_sound ops.toList [] (fun j => by simp) (fun p j hb => by simp at hb)
        have h5 := this i0 (by
          rcases c1 with rfl | ⟨e, o', e1, e2, rfl⟩
          · simp
          · exact List.mem_cons_of_mem _ (List.mem_map.2 ⟨e, mem_effIdx e1 e2, rfl⟩))
        have hadm : adm (masks ops.toList []) (effIdx ops) i i0 = true := by
          unfold adm
          rw [List.all_eq_true]
          intro e he
          obtain ⟨⟨o', e'⟩, hh1, rfl⟩ := List.mem_map.1 he
          obtain ⟨hh2, hh3⟩ := List.mem_filter.1 hh1
          rw [List.mem_zipIdx_iff_getElem?] at hh2
          have hoe : ops[e']? = some o' := by simpa using hh2
          have hiff := c2 e' o' hoe hh3
          simp only [Bool.and_eq_true, Bool.or_eq_true, Bool.not_eq_true', decide_eq_true_eq]
          constructor
          · cases hb : ((masks ops.toList []).getD i 0).testBit e' with
            | false => exact .inl rfl
            | true => exact .inr (hiff.1 (h.closed.ready ho hp (hm _ _ hb)))
          · cases hb : ((masks ops.toList []).getD e' 0).testBit i with
            | false => exact .inl rfl
            | true =>
              right
              rcases Nat.lt_or_ge e' i0 with hh | hh
              · have := h.closed.reach (hm _ _ hb) (hiff.2 hh)
                rw [hif] at this; cases this
              · exact hh
        rw [hadm] at h5
        simp only [Bool.not_true, Bool.false_or, loadOk, h1, hv] at h5
        split at h5
        · rename_i x y v1 v2 M2 e1 e2
          simp at e2
          rw [e1, aeq_eq h5, e2.1]
        · cases h5
    obtain ⟨u, q1, q2⟩ := evRead_sound hF c4 hread
    unfold Oper.wp
    rw [q2 w rfl]
    exact hK _ _ ⟨by simp [h.size], hclosed, ρ, i0, c1, stay h2, c3, c4, c5.step hS ho hlt' hv q1⟩
  · rw [wantedA_sound hF (hwA.trans h1)]
    simp only [Bool.false_eq_true, if_false]
    subst h2
    cases he : isEff o with
    | false => exact hK _ _ ⟨by simp [h.size], hclosed, ρ, i0, c1, stay he, c3, c4, c5.step hS ho hlt' hv (by simp [rel])⟩
    | true => exact hK _ _ ⟨by simp [h.size], hclosed, ρ, i + 1, .inr ⟨i, o, ho, he, rfl⟩, stageE he, c3, by rw [h3, memE he]; exact c4, c5.step hS ho hlt' hv (by simp [rel])⟩


def unl (listed : Array Bool) : Nat := (listed.toList.filter (!·)).length
theorem unl_zero {listed : Array Bool} (h : unl listed = 0) (j : Nat) : listed.getD j true = true := by
  unfold unl at h
  have h1 := List.eq_nil_of_length_eq_zero h
  rw [List.filter_eq_nil_iff] at h1
  rw [Array.getD_eq_getD_getElem?]
  cases hj : listed[j]? with
  | none => rfl
  | some b =>
    have := h1 b (by have := Array.mem_of_getElem? hj; simpa using this)
    simpa using this
theorem unl_set {listed : Array Bool} {i : Nat} (h : listed.getD i true = false) : unl (listed.setIfInBounds i true) + 1 = unl listed := by
  have hi : listed.toList[i]? = some false := by
    rw [Array.getD_eq_getD_getElem?] at h
    cases hj : listed[i]? with
    | none => rw [hj] at h; cases h
    | some b => rw [hj] at h; simp at h; subst h; simpa using hj
  unfold unl
  rw [Array.toList_setIfInBounds]
  generalize listed.toList = l at hi
  clear h
  induction l generalizing i with
  | nil => simp at hi
  | cons x l ih =>
    cases i with
    | zero => simp at hi; subst hi; simp
    | succ i =>
      have := ih (by simpa using hi)
      cases x <;> simp <;> omega

theorem all_of_ready {ops : Array Oper} (hS : StatOk ops) {listed : Array Bool} (hs : listed.size = ops.size) (h : Region.ready .any ops listed = []) : ∀ j, j < ops.size → listed.getD j false = true := by
  intro j
  induction j using Nat.strongRecOn with
  | _ j ih =>
    intro hj
    cases hl : listed.getD j false with
    | true => rfl
    | false =>
      exfalso
      have hm : j ∈ Region.ready .any ops listed := mem_ready.2 ⟨by
        rw [Array.getD_eq_getD_getElem?, Array.getElem?_eq_getElem (by omega)] at hl ⊢
        simpa using hl, ops[j], by simp [hj], fun e he hb => by
        have hp : e.on ∈ preds ops[j] := mem_preds.2 ⟨e, he, hb, rfl⟩
        have hlt := hS.back j ops[j] (by simp [hj]) _ hp
        exact ih _ hlt (by omega)⟩
      rw [h] at hm
      cases hm

theorem any_of_inv {P : Program} (hP : Plainly P) {call : CallF} (hcall : CallOk P call) {ops : Array Oper} (hS : StatOk ops) {es : List (AV × Mem)} {F0 : Fr} {M0 : Mem} {w0 : World} {ρ0 : Rho} (hs : evSeq P call ops ops.toList F0 M0 = some es) (hL : loadsOk P ops es F0 M0 = true) {Q : Exit → Act → World → Prop}
    (hQ : ∀ ρ' a' w', Ext ρ0 ρ' → FR ρ' (frAt ops.toList es F0 ops.size) a' → WR w0 ρ' (memAt es M0 ops.size) w' → Q .normal a' w') :
    ∀ (fuel : Nat) (listed : Array Bool) (a : Act) (w : World), unl listed = fuel → Inv ops es F0 M0 w0 ρ0 listed a w → wpAny P .any ops Q fuel listed a w := by
  have fin : ∀ (listed : Array Bool) (a : Act) (w : World), Inv ops es F0 M0 w0 ρ0 listed a w → Region.ready .any ops listed = [] → Q .normal a w := fun listed a w h hr => by
    have hall := all_of_ready hS h.size hr
    obtain ⟨ρ, i0, c1, c2, c3, c4, c5⟩ := h.st
    obtain ⟨hlen, hspec⟩ := evSeq_spec _ _ _ _ hs
    have hlen' : es.length = ops.size := by simpa using hlen
    have hi0 : i0 ≤ ops.size := by
      rcases c1 with rfl | ⟨e, o, e1, _, rfl⟩
      · omega
      · have := (Array.getElem?_eq_some_iff.1 e1).1; omega
    have hmem := mem_same hs (ops.size - i0) i0 (by omega) (fun e o h1 h2 h3 => by
      cases hh : isEff o with
      | false => rfl
      | true =>
        have := (c2 e o h3 hh).1 (hall e (Array.getElem?_eq_some_iff.1 h3).1)
        omega)
    rw [show i0 + (ops.size - i0) = ops.size by omega] at hmem
    have h0 := (frAt_get ops.toList es F0 ops.size 0 (by simp) (by simpa using hlen')).1
    refine hQ ρ a w c3 ⟨by rw [h0, c5.size], fun t v hv => ?_, c5.defers⟩ (by rw [hmem]; exact c4)
    rcases (frAt_get ops.toList es F0 ops.size t (by simp) (by simpa using hlen')).2 with ⟨j, p, v', M', q1, q2, q3, q4, q5⟩ | ⟨q1, q2⟩
    · have e := q5 v hv
      subst e
      exact c5.wrote j p t v M' (by simpa using q2) q3 (hall j q1) q4 (by rw [← c5.size, ← h0]; exact (List.getElem?_eq_some_iff.1 hv).1)
    · rw [q2] at hv
      refine c5.stood t v (fun j p hj hd => ?_) hv
      exact absurd hd (q1 j p (Array.getElem?_eq_some_iff.1 hj).1 (by simpa using hj))
  intro fuel
  induction fuel with
  | zero =>
    intro listed a w hu h
    have hr : Region.ready .any ops listed = [] := by
      rcases hx : Region.ready .any ops listed with _ | ⟨x, xs⟩
      · rfl
      · have hm : x ∈ Region.ready .any ops listed := by rw [hx]; simp
        have h1 := (mem_ready.1 hm).1
        rw [unl_zero hu x] at h1
        cases h1
    exact ⟨hr, fin listed a w h hr⟩
  | succ fuel ih =>
    intro listed a w hu h
    refine ⟨fin listed a w h, fun i hi => inv_op hP hcall hS hs hL h hi fun a' w' h' => ih _ a' w' ?_ h'⟩
    have := unl_set (mem_ready.1 hi).1
    omega

theorem evDraw_sound {P : Program} (hP : Plainly P) (hm : P.follows .mixedOrders = true) {call : CallF} (hcall : CallOk P call) {w0 : World} {ops : Array Oper} {ρ : Rho} {F F' : Fr} {M M' : Mem} {w : World} {a : Act} (hF : FR ρ F a) (hW : WR w0 ρ M w)
    (he : evDraw P call ops F M = some (F', M')) {id : Nat} {Q : Exit → Act → World → Prop} (hQ : ∀ ρ' a' w', Ext ρ ρ' → FR ρ' F' a' → WR w0 ρ' M' w' → Q .normal a' w') : (Code.region id ops true).wp P Q a w := by
  unfold evDraw at he
  split at he
  · rename_i hst
    split at he
    · rename_i es hs
      split at he
      · rename_i hL
        simp only [Option.some.injEq, Prod.mk.injEq] at he
        obtain ⟨rfl, rfl⟩ := he
        have hfalse : ∀ j, (Array.replicate ops.size false).getD j false = false := fun j => by
          rw [Array.getD_eq_getD_getElem?, Array.getElem?_replicate]
          split <;> rfl
        refine wp_region_any hm (any_of_inv hP hcall (stat_spec hst) hs hL hQ ops.size _ a _ ?_ ⟨by simp, ?_, ρ, 0, .inl rfl, ?_, Ext.refl _, ?_, hF.len, hF.defers, ?_, ?_⟩)
        · unfold unl
          rw [Array.toList_replicate, List.filter_replicate]
          simp
        · intro i o ho hl
          rw [hfalse] at hl; cases hl
        · intro e o ho hh
          rw [hfalse]; simp
        · have : memAt es M 0 = M := by cases es <;> rfl
          rw [this]
          exact hW.drew
        · intro j o t v M2 h1 h2 h3
          rw [hfalse] at h3; cases h3
        · intro t v _ hv
          exact hF.val t v hv
      · cases he
    · cases he
  · cases he

end Go.Proofs.Ytijmldgdcknbnaa.Ev
