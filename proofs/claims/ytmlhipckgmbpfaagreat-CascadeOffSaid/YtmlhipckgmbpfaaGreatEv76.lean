/-
  The small interpreter, part 7c: regions that draw their order. The order of the text serves for all, if what is written is written in one order, and what is read does not hang on the order.
-/
import Derived.Test.YtmlhipckgmbpfaaGreatEv75
namespace Go.Proofs.YtmlhipckgmbpfaaGreat.Ev
open Go Go.RowKit
set_option linter.unusedVariables false

/-- is an operation wanted? 'none': that is not known -/
def wantedA (ops : Array Oper) (F : Fr) (o : Oper) : Option Bool := match o.guard with
  | none => some true
  | some (j, want) => match ops[j]? with
    | some oj => match oj.dst with
      | some t => match F[t]? with
        | some (some (.lit (.bool b))) => some (b == want)
        | some (some (.lit (.tuple _))) => some false
        | _ => none
      | none => none
    | none => none
theorem wantedA_sound {ρ : Rho} {F : Fr} {a : Act} (hF : FR ρ F a) {ops : Array Oper} {o : Oper} {b : Bool} (h : wantedA ops F o = some b) : Region.wanted o (yielded ops a.tmps) = b := by
  unfold wantedA at h
  unfold Region.wanted
  cases hg : o.guard with
  | none => simp only [hg, Option.some.injEq] at h; simp [h]
  | some jw =>
    obtain ⟨j, want⟩ := jw
    simp only [hg] at h ⊢
    cases hj : ops[j]? with
    | none => simp [hj] at h
    | some oj =>
      simp only [hj] at h
      cases hd : oj.dst with
      | none => simp [hd] at h
      | some t =>
        simp only [hd] at h
        unfold yielded
        simp only [hj, Option.bind_some, hd]
        have key : ∀ v, F[t]? = some (some v) → ∃ u, a.tmps[t]? = some u ∧ rel ρ v u := fun v hv => by
          have hlt : t < a.tmps.size := by rw [← hF.len]; exact (List.getElem?_eq_some_iff.1 hv).1
          have := hF.val t v hv
          rw [Array.getD_eq_getD_getElem?, Array.getElem?_eq_getElem hlt] at this
          exact ⟨_, Array.getElem?_eq_getElem hlt, this⟩
        split at h
        · rename_i c heq
          obtain ⟨u, h1, h2⟩ := key _ heq
          simp only [rel] at h2
          subst h2
          simp at h
          rw [h1, ← h]
          cases c <;> cases want <;> rfl
        · rename_i x heq
          obtain ⟨u, h1, h2⟩ := key _ heq
          simp only [rel] at h2
          subst h2
          simp at h
          subst h
          rw [h1]
          rfl
        · cases h
theorem wantedA_congr {ops : Array Oper} {F F' : Fr} {o : Oper} (h : ∀ t ∈ o.looksAt ops, F[t]? = F'[t]?) : wantedA ops F o = wantedA ops F' o := by
  unfold wantedA
  cases hg : o.guard with
  | none => rfl
  | some jw =>
    obtain ⟨j, want⟩ := jw
    simp only
    cases hj : ops[j]? with
    | none => rfl
    | some oj =>
      simp only
      cases hd : oj.dst with
      | none => rfl
      | some t =>
        simp only
        rw [h t (List.mem_append_right _ (by simp [hg, hj, hd]))]

/-! ### Which operations wait for which -/
def preds (o : Oper) : List Nat := o.after.toList.filterMap fun e => if Region.binds .any e then some e.on else none
theorem mem_preds {o : Oper} {p : Nat} : p ∈ preds o ↔ ∃ e ∈ o.after, Region.binds .any e = true ∧ e.on = p := by
  simp [preds]
inductive Reach (ops : Array Oper) : Nat → Nat → Prop
  | one {i j : Nat} {o : Oper} : ops[i]? = some o → j ∈ preds o → Reach ops i j
  | more {i p j : Nat} {o : Oper} : ops[i]? = some o → p ∈ preds o → Reach ops p j → Reach ops i j
def maskOf (acc : List Nat) (o : Oper) : Nat := (preds o).foldl (fun s p => s ||| (2 ^ p ||| acc.getD p 0)) 0
def masks : List Oper → List Nat → List Nat
  | [], acc => acc
  | o :: l, acc => masks l (acc ++ [maskOf acc o])
theorem testBit_fold (f : Nat → Nat) : ∀ (l : List Nat) (s j : Nat), (l.foldl (fun s p => s ||| f p) s).testBit j = true → s.testBit j = true ∨ ∃ p ∈ l, (f p).testBit j = true
  | [], s, j, h => .inl h
  | x :: l, s, j, h => by
    rcases testBit_fold f l _ j h with h1 | ⟨p, hp, h1⟩
    · rw [Nat.testBit_or, Bool.or_eq_true] at h1
      rcases h1 with h1 | h1
      · exact .inl h1
      · exact .inr ⟨x, by simp, h1⟩
    · exact .inr ⟨p, by simp [hp], h1⟩
theorem masks_sound {ops : Array Oper} : ∀ (l : List Oper) (acc : List Nat), (∀ j, l[j]? = ops[acc.length + j]?) → (∀ p j, (acc.getD p 0).testBit j = true → Reach ops p j) → ∀ p j, ((masks l acc).getD p 0).testBit j = true → Reach ops p j
  | [], acc, _, h => h
  | o :: l, acc, hl, h => by
    refine masks_sound l (acc ++ [maskOf acc o]) (fun j => ?_) (fun p j hb => ?_)
    · have := hl (j + 1)
      simp only [List.length_append, List.length_cons, List.length_nil]
      rw [show acc.length + (0 + 1) + j = acc.length + (j + 1) by omega, ← this]
      simp
    · have h0 : ops[acc.length]? = some o := by simpa using (hl 0).symm
      rw [List.getD_eq_getElem?_getD, List.getElem?_append] at hb
      split at hb
      · exact h p j (by rw [List.getD_eq_getElem?_getD]; exact hb)
      · by_cases hp : p = acc.length
        · subst hp
          simp at hb
          rcases testBit_fold _ _ _ _ hb with h1 | ⟨q, hq, h1⟩
          · simp at h1
          · rw [Nat.testBit_or, Bool.or_eq_true] at h1
            rcases h1 with h1 | h1
            · rw [Nat.testBit_two_pow] at h1
              simp at h1
              subst h1
              exact .one h0 hq
            · exact .more h0 hq (h q j h1)
        · rw [List.getElem?_eq_none (by simp; omega)] at hb
          simp at hb

def isEff (o : Oper) : Bool := match o.op with
  | .alloc _ => true
  | .box .. => true
  | .buildSlice .. => true
  | .makeSlice .. => true
  | .store .. => true
  | .call c => match c.callee with
    | .builtin .append => true
    | .value _ => true
    | _ => false
  | _ => false
def isLoad (o : Oper) : Bool := match o.op with | .load .. => true | _ => false

/-- new memory, made in any case -/
def isAl (P : Program) (o : Oper) : Bool := match o.op with
  | .alloc t => match o.guard with
    | none => (zeroA P t).isSome
    | some _ => false
  | .buildSlice .. => match o.guard with
    | none => true
    | some _ => false
  | _ => false
/-- .. which may come up ahead of others that write -/
def flB (P : Program) (ops : Array Oper) (ms : List Nat) (i : Nat) : Bool := match ops[i]? with
  | some o => isAl P o && ops.toList.zipIdx.any fun pj => isEff pj.1 && decide (pj.2 < i) && !(ms.getD i 0).testBit pj.2
  | none => false
abbrev fl (P : Program) (ops : Array Oper) (i : Nat) : Bool := flB P ops (masks ops.toList []) i
def statPair (P : Program) (ops : Array Oper) (ms : List Nat) (o : Oper) (i : Nat) (lk : List Tmp) (p : Oper) (j : Nat) : Bool :=
  decide (j = i) ||
   ((match p.dst with | none => true | some d => !(decide (o.dst = some d)) && (!(lk.contains d) || (ms.getD i 0).testBit j || (ms.getD j 0).testBit i)) &&
    ((!(isEff o && isEff p && decide (j < i)) || (ms.getD i 0).testBit j || flB P ops ms i) &&
     ((isEff o && !flB P ops ms i) || !flB P ops ms j || ((match p.dst with | none => true | some d => !(lk.contains d)) && (!isLoad o || !(ms.getD i 0).testBit j)))))
def stat (P : Program) (ops : Array Oper) : Bool :=
  ops.toList.zipIdx.all fun oi => (preds oi.1).all (fun p => decide (p < oi.2)) && ops.toList.zipIdx.all fun pj => statPair P ops (masks ops.toList []) oi.1 oi.2 (oi.1.looksAt ops) pj.1 pj.2

structure StatOk (P : Program) (ops : Array Oper) : Prop where
  back : ∀ (i : Nat) (o : Oper), ops[i]? = some o → ∀ p ∈ preds o, p < i
  apart : ∀ (i : Nat) (o : Oper) (j : Nat) (p : Oper) (d : Tmp), ops[i]? = some o → ops[j]? = some p → j ≠ i → p.dst = some d → o.dst ≠ some d
  look : ∀ (i : Nat) (o : Oper) (j : Nat) (p : Oper) (d : Tmp), ops[i]? = some o → ops[j]? = some p → j ≠ i → p.dst = some d → d ∈ o.looksAt ops → Reach ops i j ∨ Reach ops j i
  eff : ∀ (i : Nat) (o : Oper) (j : Nat) (p : Oper), ops[i]? = some o → ops[j]? = some p → j < i → isEff o = true → isEff p = true → Reach ops i j ∨ fl P ops i = true
  flook : ∀ (i : Nat) (o : Oper) (j : Nat) (p : Oper) (d : Tmp), ops[i]? = some o → ops[j]? = some p → j ≠ i → (isEff o = false ∨ fl P ops i = true) → fl P ops j = true → p.dst = some d → d ∉ o.looksAt ops
  fload : ∀ (i : Nat) (o : Oper) (j : Nat) (p : Oper), ops[i]? = some o → ops[j]? = some p → isEff o = false → isLoad o = true → fl P ops j = true → ((masks ops.toList []).getD i 0).testBit j = false
theorem fl_spec {P : Program} {ops : Array Oper} {i : Nat} {o : Oper} (ho : ops[i]? = some o) (h : fl P ops i = true) : o.guard = none ∧ ((∃ t z, o.op = .alloc t ∧ zeroA P t = some z) ∨ ∃ t n ps, o.op = .buildSlice t n ps) := by
  unfold fl flB at h
  rw [ho] at h
  simp only [Bool.and_eq_true] at h
  have h1 := h.1
  unfold isAl at h1
  split at h1
  · rename_i t hop
    split at h1
    · rename_i hg
      obtain ⟨z, hz⟩ := Option.isSome_iff_exists.1 h1
      exact ⟨hg, .inl ⟨t, z, hop, hz⟩⟩
    · cases h1
  · rename_i t n ps hop
    split at h1
    · rename_i hg
      exact ⟨hg, .inr ⟨t, n, ps, hop⟩⟩
    · cases h1
  · cases h1
theorem fl_eff {P : Program} {ops : Array Oper} {i : Nat} {o : Oper} (ho : ops[i]? = some o) (h : fl P ops i = true) : isEff o = true := by
  unfold isEff
  rcases (fl_spec ho h).2 with ⟨t, z, h1, _⟩ | ⟨t, n, ps, h1⟩ <;> rw [h1]
theorem mem_zipIdx {ops : Array Oper} {i : Nat} {o : Oper} (h : ops[i]? = some o) : (o, i) ∈ ops.toList.zipIdx := by
  rw [List.mem_zipIdx_iff_getElem?]
  simpa using h
theorem stat_spec {P : Program} {ops : Array Oper} (h : stat P ops = true) : StatOk P ops := by
  have hm : ∀ p j, ((masks ops.toList []).getD p 0).testBit j = true → Reach ops p j := masks_sound ops.toList [] (fun j => by simp) (fun p j hb => by simp at hb)
  unfold stat at h
  rw [List.all_eq_true] at h
  have h1 : ∀ (i : Nat) (o : Oper), ops[i]? = some o → (∀ p ∈ preds o, p < i) ∧ ∀ (j : Nat) (p : Oper), ops[j]? = some p → statPair P ops (masks ops.toList []) o i (o.looksAt ops) p j = true := fun i o ho => by
    have := h (o, i) (mem_zipIdx ho)
    rw [Bool.and_eq_true, List.all_eq_true, List.all_eq_true] at this
    exact ⟨fun p hp => by simpa using this.1 p hp, fun j p hp => this.2 (p, j) (mem_zipIdx hp)⟩
  have h2 : ∀ (i : Nat) (o : Oper) (j : Nat) (p : Oper), ops[i]? = some o → ops[j]? = some p → j ≠ i → _ := fun i o j p ho hp hne => by
    have := (h1 i o ho).2 j p hp
    unfold statPair at this
    rw [show decide (j = i) = false by simpa using hne, Bool.false_or, Bool.and_eq_true, Bool.and_eq_true] at this
    exact this
  have hself : ∀ (i : Nat) (o : Oper) (j : Nat) (p : Oper), ops[i]? = some o → ops[j]? = some p → isEff o = false → fl P ops j = true → j ≠ i := fun i o j p ho hp he hf e => by
    subst e
    rw [ho] at hp; simp at hp; subst hp
    rw [fl_eff ho hf] at he; cases he
  refine ⟨fun i o ho => (h1 i o ho).1, fun i o j p d ho hp hne hd he => ?_, fun i o j p d ho hp hne hd hl => ?_, fun i o j p ho hp hlt e1 e2 => ?_, fun i o j p d ho hp hne he hf hd hl => ?_, fun i o j p ho hp he hld hf => ?_⟩
  · have := (h2 i o j p ho hp hne).1
    simp [hd, he] at this
  · have := (h2 i o j p ho hp hne).1
    simp only [hd, Bool.and_eq_true, Bool.or_eq_true] at this
    rcases this.2 with (h2 | h2) | h2
    · simp at h2; exact absurd hl h2
    · exact .inl (hm _ _ h2)
    · exact .inr (hm _ _ h2)
  · have := (h2 i o j p ho hp (by omega)).2.1
    simp only [Bool.or_eq_true, e1, e2, hlt, decide_true, Bool.and_self, Bool.not_true, Bool.false_eq_true, false_or] at this
    rcases this with h3 | h3
    · exact .inl (hm _ _ h3)
    · exact .inr h3
  · have := (h2 i o j p ho hp hne).2.2
    have hf' : flB P ops (masks ops.toList []) j = true := hf
    have he' : (isEff o && !flB P ops (masks ops.toList []) i) = false := by
      rcases he with he | he
      · rw [he]; rfl
      · have he2 : flB P ops (masks ops.toList []) i = true := he
        rw [he2]; simp
    simp only [he', hf', hd, Bool.not_true, Bool.false_or, Bool.and_eq_true] at this
    have h3 := this.1
    simp at h3
    exact h3 hl
  · have := (h2 i o j p ho hp (hself i o j p ho hp he hf)).2.2
    have hf' : flB P ops (masks ops.toList []) j = true := hf
    simp only [he, hf', hld, Bool.false_and, Bool.not_true, Bool.false_or, Bool.and_eq_true] at this
    simpa using this.2

theorem Reach.lt {P : Program} {ops : Array Oper} (hS : StatOk P ops) {i j : Nat} (h : Reach ops i j) : j < i := by
  induction h with
  | one ho hp => exact hS.back _ _ ho _ hp
  | more ho hp _ ih => have := hS.back _ _ ho _ hp; omega

/-! ### The order of the text -/
noncomputable def evSeq (P : Program) (call : CallF) (ops : Array Oper) : List Oper → Fr → Mem → Option (List (AV × Mem))
  | [], _, _ => some []
  | o :: rest, F, M => match wantedA ops F o with
    | some true => match isEff o with
      | true => match evOp1 P call F M o with
        | some (v, M') => match evSeq P call ops rest (putF F o.dst (some v)) M' with | some es => some ((v, M') :: es) | none => none
        | none => none
      | false => match evRead P F M o with
        | some v => match evSeq P call ops rest (putF F o.dst (some v)) M with | some es => some ((v, M) :: es) | none => none
        | none => none
    | some false => match evSeq P call ops rest (putF F o.dst (some (.lit undef))) M with | some es => some ((.lit undef, M) :: es) | none => none
    | none => none
noncomputable def frAt : List Oper → List (AV × Mem) → Fr → Nat → Fr
  | o :: l, (v, _) :: es, F, i + 1 => frAt l es (putF F o.dst (some v)) i
  | _, _, F, _ => F
def memAt : List (AV × Mem) → Mem → Nat → Mem
  | (_, M') :: es, _, i + 1 => memAt es M' i
  | _, M, _ => M

def StepA (P : Program) (call : CallF) (ops : Array Oper) (F : Fr) (M : Mem) (o : Oper) (v : AV) (M' : Mem) : Prop :=
  (wantedA ops F o = some true ∧ isEff o = true ∧ evOp1 P call F M o = some (v, M')) ∨ (wantedA ops F o = some true ∧ isEff o = false ∧ evRead P F M o = some v ∧ M' = M) ∨ (wantedA ops F o = some false ∧ v = .lit undef ∧ M' = M)

theorem evSeq_spec {P : Program} {call : CallF} {ops : Array Oper} : ∀ (l : List Oper) (F : Fr) (M : Mem) (es : List (AV × Mem)), evSeq P call ops l F M = some es →
    es.length = l.length ∧ ∀ (i : Nat) (o : Oper), l[i]? = some o → ∃ v, es[i]? = some (v, memAt es M (i + 1)) ∧ StepA P call ops (frAt l es F i) (memAt es M i) o v (memAt es M (i + 1))
  | [], F, M, es, h => by simp [evSeq] at h; subst h; simp
  | o :: l, F, M, es, h => by
    have key : ∀ (v : AV) (M' : Mem) (es' : List (AV × Mem)), es = (v, M') :: es' → evSeq P call ops l (putF F o.dst (some v)) M' = some es' → StepA P call ops F M o v M' →
        es.length = (o :: l).length ∧ ∀ (i : Nat) (o' : Oper), (o :: l)[i]? = some o' → ∃ v, es[i]? = some (v, memAt es M (i + 1)) ∧ StepA P call ops (frAt (o :: l) es F i) (memAt es M i) o' v (memAt es M (i + 1)) := fun v M' es' he h1 h2 => by
      obtain ⟨h3, h4⟩ := evSeq_spec l _ _ es' h1
      subst he
      refine ⟨by simp [h3], fun i o' ho' => ?_⟩
      cases i with
      | zero =>
        simp at ho'; subst ho'
        refine ⟨v, ?_, ?_⟩
        · cases es' <;> simp [memAt]
        · cases es' <;> simpa [memAt, frAt] using h2
      | succ i =>
        obtain ⟨v', q1, q2⟩ := h4 i o' (by simpa using ho')
        exact ⟨v', by simpa [memAt] using q1, by simpa [memAt, frAt] using q2⟩
    simp only [evSeq] at h
    split at h
    · rename_i hw
      split at h
      · rename_i he
        split at h
        · rename_i v M' ho
          split at h
          · rename_i es' hs
            simp at h
            exact key v M' es' h.symm hs (.inl ⟨hw, he, ho⟩)
          · cases h
        · cases h
      · rename_i he
        split at h
        · rename_i v ho
          split at h
          · rename_i es' hs
            simp at h
            exact key v M es' h.symm hs (.inr (.inl ⟨hw, he, ho, rfl⟩))
          · cases h
        · cases h
    · rename_i hw
      split at h
      · rename_i es' hs
        simp at h
        exact key (.lit undef) M es' h.symm hs (.inr (.inr ⟨hw, rfl, rfl⟩))
      · cases h
    · cases h

/-- what stands in a frame: what the last one ahead has written, or what stood there -/
theorem frAt_get : ∀ (l : List Oper) (es : List (AV × Mem)) (F : Fr) (i : Nat) (t : Nat), i ≤ l.length → es.length = l.length →
    (frAt l es F i).length = F.length ∧
    ((∃ j o v M', j < i ∧ l[j]? = some o ∧ o.dst = some t ∧ es[j]? = some (v, M') ∧ ∀ x, (frAt l es F i)[t]? = some (some x) → x = v) ∨ ((∀ j o, j < i → l[j]? = some o → o.dst ≠ some t) ∧ (frAt l es F i)[t]? = F[t]?))
  | l, es, F, 0, t, _, _ => by
    have : frAt l es F 0 = F := by cases l <;> cases es <;> rfl
    rw [this]
    exact ⟨rfl, .inr ⟨fun j o h => by omega, rfl⟩⟩
  | [], es, F, i + 1, t, h, _ => by simp at h
  | o :: l, [], F, i + 1, t, _, h => by simp at h
  | o :: l, (v, M') :: es, F, i + 1, t, hi, hl => by
    simp only [frAt]
    obtain ⟨h0, h1⟩ := frAt_get l es (putF F o.dst (some v)) i t (by simpa using hi) (by simpa using hl)
    have hlen : (putF F o.dst (some v)).length = F.length := by cases hd : o.dst <;> simp [putF_none, putF_some]
    refine ⟨by rw [h0, hlen], ?_⟩
    rcases h1 with ⟨j, o', v', M2, q1, q2, q3, q4, q5⟩ | ⟨q1, q2⟩
    · exact .inl ⟨j + 1, o', v', M2, by omega, by simpa using q2, q3, by simpa using q4, q5⟩
    · by_cases hd : o.dst = some t
      · refine .inl ⟨0, o, v, M', by omega, rfl, hd, rfl, fun x hx => ?_⟩
        rw [q2, hd] at hx
        simp only [putF_some, List.getElem?_set, if_true] at hx
        split at hx
        · simp at hx; exact hx.symm
        · cases hx
      · refine .inr ⟨fun j o' hj ho' => ?_, ?_⟩
        · cases j with
          | zero => simp at ho'; subst ho'; exact hd
          | succ j => exact q1 j o' (by omega) (by simpa using ho')
        · rw [q2]
          cases hd' : o.dst with
          | none => rfl
          | some d =>
            simp only [putF_some, List.getElem?_set]
            rw [if_neg (fun e => hd (by rw [hd', e]))]

end Go.Proofs.YtmlhipckgmbpfaaGreat.Ev
