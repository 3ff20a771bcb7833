/-
  The small interpreter: a region that draws its order, its operations renumbered.
-/
import Derived.Test.YtmlhipckgmbpfaaGreatEv77
namespace Go.Proofs.YtmlhipckgmbpfaaGreat.Ev
open Go Go.RowKit
set_option linter.unusedVariables false

/-- the same operation, its neighbours by other numbers -/
def renO (pos : Nat → Nat) (o : Oper) : Oper := { o with after := o.after.map fun e => { e with on := pos e.on }, guard := o.guard.map fun g => (pos g.1, g.2) }
structure Renum (ops ops' : Array Oper) (pos : Nat → Nat) : Prop where
  size : ops'.size = ops.size
  at_ : ∀ (i : Nat) (o : Oper), ops[i]? = some o → ops'[pos i]? = some (renO pos o)
  back : ∀ j, j < ops.size → ∃ i, i < ops.size ∧ pos i = j
  inj : ∀ i j, i < ops.size → j < ops.size → pos i = pos j → i = j
  lt : ∀ (i : Nat) (o : Oper), ops[i]? = some o → (∀ e ∈ o.after, e.on < ops.size) ∧ ∀ g, o.guard = some g → g.1 < ops.size
theorem ren_yielded {ops ops' : Array Oper} {pos : Nat → Nat} (h : Renum ops ops' pos) {j : Nat} (hj : j < ops.size) (tmps : Array Value) : yielded ops' tmps (pos j) = yielded ops tmps j := by
  have h1 : ops[j]? = some ops[j] := by simp [hj]
  unfold yielded
  rw [h.at_ j _ h1, h1]
  rfl
theorem ren_wanted {ops ops' : Array Oper} {pos : Nat → Nat} (h : Renum ops ops' pos) {i : Nat} {o : Oper} (ho : ops[i]? = some o) (tmps : Array Value) : Region.wanted (renO pos o) (yielded ops' tmps) = Region.wanted o (yielded ops tmps) := by
  unfold Region.wanted
  have hg := (h.lt i o ho).2
  cases hgd : o.guard with
  | none => simp [renO, hgd]
  | some g =>
    obtain ⟨j, b⟩ := g
    simp only [renO, hgd, Option.map_some]
    rw [ren_yielded h (hg (j, b) hgd)]
theorem ren_wp {P : Program} {pos : Nat → Nat} {o : Oper} {a : Act} {w : World} {K : Act → World → Prop} {Q : Exit → Act → World → Prop} (h : (renO pos o).wp P a w K Q) : o.wp P a w K Q := h
theorem ren_asks {P : Program} {pos : Nat → Nat} {o : Oper} {a : Act} {w : World} (h : (renO pos o).asks P a w) : o.asks P a w := h
theorem mem_ready' {ops : Array Oper} {listed : Array Bool} {i : Nat} : i ∈ Region.ready .any ops listed ↔ listed.getD i true = false ∧ ∃ o, ops[i]? = some o ∧ ∀ e ∈ o.after, Region.binds .any e = true → listed.getD e.on false = true := mem_ready
theorem ren_ready {ops ops' : Array Oper} {pos : Nat → Nat} (h : Renum ops ops' pos) {listed listed' : Array Bool} (hs : listed.size = ops.size) (hs' : listed'.size = ops.size) (hl : ∀ i, i < ops.size → listed'.getD (pos i) false = listed.getD i false) {i : Nat} : i ∈ Region.ready .any ops listed ↔ i < ops.size ∧ pos i ∈ Region.ready .any ops' listed' := by
  have tf : ∀ (l : Array Bool) (k : Nat), k < l.size → l.getD k true = l.getD k false := fun l k hk => by
    rw [Array.getD_eq_getD_getElem?, Array.getD_eq_getD_getElem?, Array.getElem?_eq_getElem hk]; rfl
  have plt : ∀ i, i < ops.size → pos i < ops.size := fun i hi => by
    have h1 : ops[i]? = some ops[i] := by simp [hi]
    have := (Array.getElem?_eq_some_iff.1 (h.at_ i _ h1)).1
    rw [h.size] at this; exact this
  have key : ∀ i, i < ops.size → (i ∈ Region.ready .any ops listed ↔ pos i ∈ Region.ready .any ops' listed') := fun i hi => by
    have h1 : ops[i]? = some ops[i] := by simp [hi]
    rw [mem_ready', mem_ready', h.at_ i _ h1, h1, tf listed i (by omega), tf listed' (pos i) (by rw [hs']; exact plt i hi), hl i hi]
    constructor
    · rintro ⟨q1, o, q2, q3⟩
      simp at q2; subst q2
      refine ⟨q1, _, rfl, fun e he hb => ?_⟩
      simp only [renO, Array.mem_map] at he
      obtain ⟨e0, he0, rfl⟩ := he
      show listed'.getD (pos e0.on) false = true
      rw [hl _ ((h.lt i _ h1).1 e0 he0)]
      exact q3 e0 he0 hb
    · rintro ⟨q1, o, q2, q3⟩
      simp at q2; subst q2
      refine ⟨q1, _, rfl, fun e he hb => ?_⟩
      have := q3 { e with on := pos e.on } (by simp only [renO, Array.mem_map]; exact ⟨e, he, rfl⟩) hb
      have this : listed'.getD (pos e.on) false = true := this
      rw [hl _ ((h.lt i _ h1).1 e he)] at this
      exact this
  constructor
  · intro hi
    have hlt : i < ops.size := by
      obtain ⟨_, o, q2, _⟩ := mem_ready'.1 hi
      exact (Array.getElem?_eq_some_iff.1 q2).1
    exact ⟨hlt, (key i hlt).1 hi⟩
  · rintro ⟨hlt, hi⟩
    exact (key i hlt).2 hi
theorem ren_any {P : Program} {ops ops' : Array Oper} {pos : Nat → Nat} (h : Renum ops ops' pos) {Q : Exit → Act → World → Prop} : ∀ (fuel : Nat) (listed listed' : Array Bool) (a : Act) (w : World), listed.size = ops.size → listed'.size = ops.size → (∀ i, i < ops.size → listed'.getD (pos i) false = listed.getD i false) →
    wpAny P .any ops' Q fuel listed' a w → wpAny P .any ops Q fuel listed a w := by
  have nil : ∀ (listed listed' : Array Bool), listed.size = ops.size → listed'.size = ops.size → (∀ i, i < ops.size → listed'.getD (pos i) false = listed.getD i false) → (Region.ready .any ops listed = [] ↔ Region.ready .any ops' listed' = []) := fun listed listed' hs hs' hl => by
    constructor
    · intro hr
      refine List.eq_nil_iff_forall_not_mem.2 fun j hj => ?_
      have hjl : j < ops.size := by
        obtain ⟨_, o, q2, _⟩ := mem_ready'.1 hj
        rw [← h.size]; exact (Array.getElem?_eq_some_iff.1 q2).1
      obtain ⟨i, hi, rfl⟩ := h.back j hjl
      have := (ren_ready h hs hs' hl).2 ⟨hi, hj⟩
      rw [hr] at this; cases this
    · intro hr
      refine List.eq_nil_iff_forall_not_mem.2 fun i hi => ?_
      have := ((ren_ready h hs hs' hl).1 hi).2
      rw [hr] at this; cases this
  intro fuel
  induction fuel with
  | zero =>
    intro listed listed' a w hs hs' hl hw
    exact ⟨(nil listed listed' hs hs' hl).2 hw.1, hw.2⟩
  | succ fuel ih =>
    intro listed listed' a w hs hs' hl hw
    refine ⟨fun hr => hw.1 ((nil listed listed' hs hs' hl).1 hr), fun i hi => ?_⟩
    obtain ⟨hlt, hi'⟩ := (ren_ready h hs hs' hl).1 hi
    have h1 : ops[i]? = some ops[i] := by simp [hlt]
    have hstep := hw.2 (pos i) hi'
    have hnext : ∀ a' w', wpAny P .any ops' Q fuel (listed'.setIfInBounds (pos i) true) a' w' → wpAny P .any ops Q fuel (listed.setIfInBounds i true) a' w' := fun a' w' hh => ih _ _ a' w' (by simp [hs]) (by simp [hs']) (fun k hk => by
      rw [getD_setB, getD_setB, hl k hk]
      have plt : pos i < listed'.size := by
        have := (Array.getElem?_eq_some_iff.1 (h.at_ i _ h1)).1
        rw [h.size] at this; omega
      by_cases e : i = k
      · subst e; rw [if_pos ⟨rfl, plt⟩, if_pos ⟨rfl, by omega⟩]
      · rw [if_neg (fun hc => e (h.inj i k hlt hk hc.1)), if_neg (fun hc => e hc.1)]) hh
    unfold wpOp at hstep ⊢
    rw [h.at_ i _ h1] at hstep
    rw [h1]
    simp only at hstep ⊢
    rw [ren_wanted h h1] at hstep
    split
    · rename_i hwt
      rw [if_pos hwt] at hstep
      rcases hstep with hs1 | ⟨hs1, hs2⟩
      · exact .inl (Oper.wp_mono hnext (ren_wp hs1))
      · exact .inr ⟨ren_asks hs1, hs2⟩
    · rename_i hwt
      rw [if_neg hwt] at hstep
      exact hnext _ _ hstep
/-- a region in another order of the text -/
def permO (ops : Array Oper) (p : List Nat) : Array Oper := (p.map fun i => renO (fun k => p.idxOf k) (ops.getD i default)).toArray
def permOk (ops : Array Oper) (p : List Nat) : Bool := Nat.beq p.length ops.size && ((List.range ops.size).all fun i => Nat.blt (p.idxOf i) ops.size && (Nat.blt (p.getD i 0) ops.size && Nat.beq (p.idxOf (p.getD i 0)) i)) &&
  ops.toList.all fun o => o.after.toList.all (fun e => Nat.blt e.on ops.size) && (match o.guard with | some g => Nat.blt g.1 ops.size | none => true)
theorem idx_get : ∀ (p : List Nat) (i : Nat), p.idxOf i < p.length → p[p.idxOf i]? = some i
  | [], i, h => by simp at h
  | x :: p, i, h => by
    rw [List.idxOf_cons] at h ⊢
    by_cases e : x == i
    · simp only [e, cond_true] at h ⊢
      have : x = i := by simpa using e
      simp [this]
    · simp only [e, cond_false] at h ⊢
      rw [List.getElem?_cons_succ]
      exact idx_get p i (by simpa using h)
theorem permOk_spec {ops : Array Oper} {p : List Nat} (h : permOk ops p = true) : Renum ops (permO ops p) (fun k => p.idxOf k) := by
  unfold permOk at h
  rw [Bool.and_eq_true, Bool.and_eq_true, List.all_eq_true, List.all_eq_true] at h
  obtain ⟨⟨h1, h2⟩, h3⟩ := h
  have h1 := Nat.eq_of_beq_eq_true h1
  have h4 : ∀ i, i < ops.size → p.idxOf i < ops.size ∧ p.getD i 0 < ops.size ∧ p.idxOf (p.getD i 0) = i := fun i hi => by
    have := h2 i (List.mem_range.2 hi)
    rw [Bool.and_eq_true, Bool.and_eq_true, Nat.blt_eq, Nat.blt_eq] at this
    exact ⟨this.1, this.2.1, Nat.eq_of_beq_eq_true this.2.2⟩
  refine ⟨by simp [permO, h1], fun i o ho => ?_, fun j hj => ⟨p.getD j 0, (h4 j hj).2.1, (h4 j hj).2.2⟩, fun i j hi hj he => ?_, fun i o ho => ?_⟩
  · have hi := (Array.getElem?_eq_some_iff.1 ho).1
    have h5 := idx_get p i (by rw [h1]; exact (h4 i hi).1)
    unfold permO
    rw [List.getElem?_toArray, List.getElem?_map, h5]
    simp only [Option.map_some, Array.getD_eq_getD_getElem?, ho, Option.getD_some]
  · have a1 := idx_get p i (by rw [h1]; exact (h4 i hi).1)
    have a2 := idx_get p j (by rw [h1]; exact (h4 j hj).1)
    rw [he, a2] at a1
    simpa using a1.symm
  · have := h3 o (by
      have := Array.mem_of_getElem? ho
      simpa using this)
    rw [Bool.and_eq_true, List.all_eq_true] at this
    refine ⟨fun e he => by have := this.1 e (by simpa using he); rwa [Nat.blt_eq] at this, fun g hg => ?_⟩
    have := this.2
    rw [hg] at this
    simpa [Nat.blt_eq] using this
/-- new memory as late as may be -/
def lateAl (o : Oper) : Bool := match o.guard, o.op with
  | none, .alloc _ => true
  | none, .buildSlice .. => true
  | _, _ => false
/-- those that wait, which an operation wants: ahead of it -/
def lateGo (ms : List Nat) : List (Oper × Nat) → List Nat → List Nat → List Nat
  | [], wait, out => out ++ wait
  | (o, i) :: rest, wait, out => match lateAl o with
    | true => lateGo ms rest (wait ++ [i]) out
    | false => lateGo ms rest (wait.filter fun j => !(ms.getD i 0).testBit j) (out ++ (wait.filter fun j => (ms.getD i 0).testBit j) ++ [i])
def lateP (ops : Array Oper) : List Nat := lateGo (masks ops.toList []) ops.toList.zipIdx [] []
noncomputable def evDraw2 (P : Program) (call : CallF) (ops : Array Oper) (F : Fr) (M : Mem) : Option (Fr × Mem) := match evDraw P call ops F M with
  | some r => some r
  | none => match permOk ops (lateP ops) with
    | true => evDraw P call (permO ops (lateP ops)) F M
    | false => none
theorem evDraw2_sound {P : Program} (hP : Plainly P) (hm : P.follows .mixedOrders = true) {call : CallF} (hcall : CallOk P call) {w0 : Base} {ops : Array Oper} {ρ : Rho} {F F' : Fr} {M M' : Mem} {w : World} {a : Act} (hF : FR ρ F a) (hW : WR w0 ρ M w)
    (he : evDraw2 P call ops F M = some (F', M')) {id : Nat} {Q : Exit → Act → World → Prop} (hQ : ∀ ρ' a' w', Ext ρ ρ' → FR ρ' F' a' → WR w0 ρ' M' w' → Q .normal a' w') : (Code.region id ops true).wp P Q a w := by
  unfold evDraw2 at he
  split at he
  · rename_i r hr
    simp at he; subst he
    exact wp_region_any hm (evDraw_any hP hcall hF hW hr hQ)
  · split at he
    · rename_i hok
      have hR := permOk_spec hok
      have h1 := evDraw_any hP hcall hF hW he hQ
      rw [hR.size] at h1
      refine wp_region_any hm (ren_any hR _ _ _ a _ (by simp) (by simp) (fun i hi => ?_) h1)
      have hf : ∀ j, (Array.replicate ops.size false).getD j false = false := fun j => by
        rw [Array.getD_eq_getD_getElem?, Array.getElem?_replicate]
        split <;> rfl
      rw [hf, hf]
    · cases he
end Go.Proofs.YtmlhipckgmbpfaaGreat.Ev
