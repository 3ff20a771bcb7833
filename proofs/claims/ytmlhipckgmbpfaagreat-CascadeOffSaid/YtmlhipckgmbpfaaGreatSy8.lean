/-
  The symbolic interpreter, part 7b: what an operation does hangs on its operands alone; values held against one another.
-/
import Derived.Test.YtmlhipckgmbpfaaGreatSy7
namespace Go.Proofs.YtmlhipckgmbpfaaGreat.Sy
open Go Go.RowKit
set_option linter.unusedVariables false

theorem litX_congr {F F' : Fr} {x : Operand} (h : evX F x = evX F' x) : litX F x = litX F' x := by rw [litX_def, litX_def, h]
theorem optX_congr {F F' : Fr} {x : Option Operand} (h : ∀ y, x = some y → evX F y = evX F' y) : optX F x = optX F' x := by
  cases x with
  | none => rfl
  | some y => simp only [optX, litX_congr (h y rfl)]
theorem mapX_congr {F F' : Fr} : ∀ {xs : List Operand}, (∀ x ∈ xs, evX F x = evX F' x) → mapX F xs = mapX F' xs
  | [], _ => rfl
  | x :: xs, h => by simp only [mapX, h x (by simp), mapX_congr (xs := xs) (fun y hy => h y (by simp [hy]))]
theorem partsX_congr {F F' : Fr} : ∀ {ps : List (Nat × Operand)}, (∀ p ∈ ps, evX F p.2 = evX F' p.2) → partsX F ps = partsX F' ps
  | [], _ => rfl
  | (i, x) :: ps, h => by simp only [partsX, h (i, x) (by simp), partsX_congr (ps := ps) (fun y hy => h y (by simp [hy]))]

theorem evPure_congr {P : Program} {F F' : Fr} {o : Oper} (h : ∀ x ∈ o.op.operands, evX F x = evX F' x) : evPure P F o = evPure P F' o := by
  have hl : ∀ x ∈ o.op.operands, litX F x = litX F' x := fun x hx => litX_congr (h x hx)
  have hc : (o.op.operands.toList.all fun x => (litX F x).isSome) = o.op.operands.toList.all fun x => (litX F' x).isSome := by
    rw [Bool.eq_iff_iff, List.all_eq_true, List.all_eq_true]
    constructor
    · intro hh x hx; rw [← hl x (by simpa using hx)]; exact hh x hx
    · intro hh x hx; rw [hl x (by simpa using hx)]; exact hh x hx
  unfold evPure
  rw [hc]
  split
  · rename_i hcond
    rw [Bool.and_eq_true] at hcond
    have hs : ∀ cs b, o.op ≠ .select cs b := fun cs b e => by have := hcond.1; simp [noSel, e] at this
    rw [execOp_congr o hs (ρ := fun x => (litX F x).getD undef) (ρ' := fun x => (litX F' x).getD undef) (fun x hx => by simp only [hl x hx])]
  · rfl

theorem evRead_congr {P : Program} {F F' : Fr} {M : Mem} {o : Oper} (h : ∀ x ∈ o.op.operands, evX F x = evX F' x) : evRead P F M o = evRead P F' M o := by
  have key : evRead' P F M o = evRead' P F' M o := by
    unfold evRead'
    cases ho : o.op <;> simp only [ho, Op.operands] at h ⊢
    case move x => rw [h x (by simp)]
    case assign x => rw [h x (by simp)]
    case pick c a b => unfold fPick; rw [litX_congr (h c (by simp)), h a (by simp), h b (by simp)]
    case load t x => unfold fLoad; rw [h x (by simp)]
    case nilCheck x => unfold fNil; rw [h x (by simp)]
    case fieldAddr s x f => unfold fFieldAddr; rw [h x (by simp)]
    case field t x f => unfold fField; rw [h x (by simp)]
    case indexAddr t x i => unfold fIndexAddr; rw [h x (by simp), litX_congr (h i (by simp))]
    case slice t x lo hi mx =>
      unfold fSlice
      rw [h x (by simp), optX_congr (x := lo) (fun y e => h y (by simp [e])), optX_congr (x := hi) (fun y e => h y (by simp [e])), optX_congr (x := mx) (fun y e => h y (by simp [e]))]
    case extract x i => unfold fExtract; rw [h x (by simp)]
    case makeFunc f first captured => unfold fFunc; rw [mapX_congr (xs := first.toList) (fun y hy => h y (by simp at hy; simp [hy])), mapX_congr (xs := captured.toList) (fun y hy => h y (by simp at hy; simp [hy]))]
    case build t parts => unfold fBuild; rw [partsX_congr (ps := parts.toList) (fun p hp => h p.2 (by simp at hp ⊢; exact ⟨p.1, hp⟩))]
    case binOp op t x y yt => unfold fBin; rw [h x (by simp), h y (by simp)]
    case unOp op t x => unfold fNot; rw [litX_congr (h x (by simp))]
    case index t x i => unfold fIndex; rw [litX_congr (h x (by simp)), litX_congr (h i (by simp))]
    case call c =>
      unfold fLen
      cases hc : c.callee <;> simp only [Call.operands, hc] at h ⊢
      rename_i b
      cases b <;> simp only
      split
      · rename_i x t hxs hts
        rw [h x (by
          have : x ∈ c.args.toList := by rw [hxs]; simp
          simp at this ⊢; exact this)]
      · rfl
  rw [evRead_def, evRead_def, key, evPure_congr h]

theorem obRead_congr {F F' : Fr} {M : Mem} {o : Oper} (h : ∀ x ∈ o.op.operands, evX F x = evX F' x) : obRead F M o = obRead F' M o := by
  unfold obRead
  cases ho : o.op <;> simp only [ho, Op.operands] at h ⊢
  case load t x => rw [h x (by simp)]
  case indexAddr t x i => rw [h x (by simp), litX_congr (h i (by simp))]
  case slice t x lo hi mx => rw [h x (by simp), optX_congr (x := lo) (fun y e => h y (by simp [e])), optX_congr (x := hi) (fun y e => h y (by simp [e]))]
  case index t x i => rw [litX_congr (h x (by simp)), litX_congr (h i (by simp))]
theorem obEff_congr {P : Program} {F F' : Fr} {M : Mem} {o : Oper} (h : ∀ x ∈ o.op.operands, evX F x = evX F' x) : obEff P F M o = obEff P F' M o := by
  unfold obEff
  cases ho : o.op <;> simp only [ho, Op.operands] at h ⊢
  case store t x y => unfold oStore; rw [h x (by simp)]
  rename_i c
  unfold oAppend
  cases hc : c.callee <;> simp only [Call.operands, hc] at h ⊢
  rename_i b
  cases b <;> simp only
  split
  · rename_i x y t t' hxs hts
    rw [h x (by
      have : x ∈ c.args.toList := by rw [hxs]; simp
      simp at this ⊢; exact this), h y (by
      have : y ∈ c.args.toList := by rw [hxs]; simp
      simp at this ⊢; exact this)]
  · rfl
theorem obOp_congr {P : Program} {F F' : Fr} {M : Mem} {o : Oper} (h : ∀ x ∈ o.op.operands, evX F x = evX F' x) : obOp P F M o = obOp P F' M o := by
  unfold obOp; rw [evRead_congr h, obRead_congr h, obEff_congr h]

theorem evEff_congr {P : Program} {F F' : Fr} {M : Mem} {o : Oper} (h : ∀ x ∈ o.op.operands, evX F x = evX F' x) : evEff P F M o = evEff P F' M o := by
  unfold evEff
  cases ho : o.op <;> simp only [ho, Op.operands] at h ⊢
  case box t x => unfold eBox; rw [h x (by simp)]
  case buildSlice t n parts => unfold eSlice; rw [partsX_congr (ps := parts.toList) (fun p hp => h p.2 (by simp at hp ⊢; exact ⟨p.1, hp⟩))]
  case store t x y => unfold eStore; rw [h x (by simp), h y (by simp)]
  case makeSlice t l c => unfold eMake; rw [litX_congr (h l (by simp)), litX_congr (h c (by simp))]
  case call c =>
    unfold eAppend
    cases hc : c.callee <;> simp only [Call.operands, hc] at h ⊢
    rename_i b
    cases b <;> simp only
    split
    · rename_i x y t t' hxs hts
      rw [h x (by
        have : x ∈ c.args.toList := by rw [hxs]; simp
        simp at this ⊢; exact this), h y (by
        have : y ∈ c.args.toList := by rw [hxs]; simp
        simp at this ⊢; exact this)]
    · rfl

theorem evOp1_congr {P : Program} {call : CallT} {F F' : Fr} {M : Mem} {o : Oper} (h : ∀ x ∈ o.op.operands, evX F x = evX F' x) : evOp1 P call F M o = evOp1 P call F' M o := by
  have hO : evOp P F M o = evOp P F' M o := by rw [evOp_def, evOp_def, evRead_congr h, evEff_congr h]
  unfold evOp1
  rw [hO]
  cases ho : o.op <;> simp only
  rename_i c
  have hc : calleeA F c = calleeA F' c := by
    simp only [ho, Op.operands, Call.operands] at h
    unfold calleeA
    cases hc : c.callee <;> simp only [hc] at h ⊢
    rename_i x
    rw [h x (by simp), mapX_congr (xs := c.args.toList) (fun y hy => h y (by simp at hy; simp [hy]))]
  rw [hc]

theorem obOp1_congr {P : Program} {call : CallT} {F F' : Fr} {M : Mem} {o : Oper} (h : ∀ x ∈ o.op.operands, evX F x = evX F' x) : obOp1 P call F M o = obOp1 P call F' M o := by
  have hO : obOp P F M o = obOp P F' M o := obOp_congr h
  unfold obOp1
  rw [hO]
  cases ho : o.op <;> simp only
  rename_i c
  have hc : calleeA F c = calleeA F' c := by
    simp only [ho, Op.operands, Call.operands] at h
    unfold calleeA
    cases hc : c.callee <;> simp only [hc] at h ⊢
    rename_i x
    rw [h x (by simp), mapX_congr (xs := c.args.toList) (fun y hy => h y (by simp at hy; simp [hy]))]
  rw [hc]

/-! ### Values, held against one another: 'true' says that they are the same -/
def veq1 : Value → Value → Bool
  | .bool a, .bool b => decide (a = b)
  | .int k a, .int k' b => decide (k = k') && decide (a = b)
  | .string a, .string b => decide (a.data.toList = b.data.toList)
  | .pointer none, .pointer none => true
  | .slice none n c, .slice none n' c' => decide (n = n') && decide (c = c')
  | .nilFunc, .nilFunc => true
  | .nilIface, .nilIface => true
  | _, _ => false
theorem veq1_eq {a b : Value} (h : veq1 a b = true) : a = b := by
  unfold veq1 at h
  split at h <;> try (first | rfl | (cases h; done))
  · simpa using h
  · simp at h; rw [h.1, h.2]
  · rename_i a b
    simp at h
    cases a; cases b; simp at h; rw [h]
  · simp at h; rw [h.1, h.2]
def veqs : List Value → List Value → Bool
  | [], [] => true
  | a :: as, b :: bs => veq1 a b && veqs as bs
  | _, _ => false
theorem veqs_eq : ∀ {a b : List Value}, veqs a b = true → a = b
  | [], [], _ => rfl
  | [], _ :: _, h => by simp [veqs] at h
  | _ :: _, [], h => by simp [veqs] at h
  | a :: as, b :: bs, h => by
    simp only [veqs, Bool.and_eq_true] at h
    rw [veq1_eq h.1, veqs_eq h.2]
def veq : Value → Value → Bool
  | .agg a, .agg b => veqs a.toList b.toList
  | .tuple a, .tuple b => veqs a.toList b.toList
  | a, b => veq1 a b
theorem veq_eq {a b : Value} (h : veq a b = true) : a = b := by
  unfold veq at h
  split at h
  · rw [Array.toList_inj.1 (veqs_eq h)]
  · rw [Array.toList_inj.1 (veqs_eq h)]
  · exact veq1_eq h
mutual
def aeq : AV → AV → Bool
  | .lit a, .lit b => veq a b
  | .ptr b o, .ptr b' o' => decide (b = b') && decide (o = o')
  | .sl b o n c s, .sl b' o' n' c' s' => decide (b = b') && decide (o = o') && decide (n = n') && decide (c = c') && decide (s = s')
  | .esl, .esl => true
  | .agg a, .agg b => aeqs a b
  | .tup a, .tup b => aeqs a b
  | _, _ => false
def aeqs : List AV → List AV → Bool
  | [], [] => true
  | a :: as, b :: bs => aeq a b && aeqs as bs
  | _, _ => false
end
mutual
theorem aeq_eq : ∀ {a b : AV}, aeq a b = true → a = b
  | .lit a, b, h => by cases b <;> simp [aeq] at h; rw [veq_eq h]
  | .ptr b o, c, h => by cases c <;> simp [aeq] at h; rw [h.1, h.2]
  | .sl b o n c s, d, h => by cases d <;> simp [aeq] at h; rw [h.1.1.1.1, h.1.1.1.2, h.1.1.2, h.1.2, h.2]
  | .esl, d, h => by cases d <;> simp [aeq] at h; rfl
  | .agg a, b, h => by cases b <;> simp [aeq] at h; rw [aeqs_eq h]
  | .tup a, b, h => by cases b <;> simp [aeq] at h; rw [aeqs_eq h]
  | .fn f a b, d, h => by cases d <;> simp [aeq] at h
  | .view .., d, h => by cases d <;> simp [aeq] at h
  | .vptr .., d, h => by cases d <;> simp [aeq] at h
  | .own .., d, h => by cases d <;> simp [aeq] at h
  | .rptr .., d, h => by cases d <;> simp [aeq] at h
theorem aeqs_eq : ∀ {a b : List AV}, aeqs a b = true → a = b
  | [], [], _ => rfl
  | [], _ :: _, h => by simp [aeqs] at h
  | _ :: _, [], h => by simp [aeqs] at h
  | a :: as, b :: bs, h => by
    simp only [aeqs, Bool.and_eq_true] at h
    rw [aeq_eq h.1, aeqs_eq h.2]
end

end Go.Proofs.YtmlhipckgmbpfaaGreat.Sy
