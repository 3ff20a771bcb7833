/-
  The small interpreter, part 8: regions, code, calls.
-/
import Derived.Test.YtmlhipckgmbpfaaGreatEv78
import Derived.Scope
namespace Go.Proofs.YtmlhipckgmbpfaaGreat.Ev
open Go Go.RowKit
set_option linter.unusedVariables false

noncomputable def evOps (P : Program) (call : CallF) (ops : Array Oper) : List Oper → Fr → Mem → Option (Fr × Mem)
  | [], F, M => some (F, M)
  | o :: rest, F, M => match wantedA ops F o with
    | some true => match evOp1 P call F M o with
      | some (v, M') => evOps P call ops rest (putF F o.dst (some v)) M'
      | none => none
    | some false => evOps P call ops rest (putF F o.dst (some (.lit undef))) M
    | none => none
theorem evOps_sound {P : Program} (hP : Plainly P) {call : CallF} (hcall : CallOk P call) {w0 : Base} (ops : Array Oper) : ∀ (l : List Oper) {ρ : Rho} {F F' : Fr} {M M' : Mem} {w : World} {a : Act}, FR ρ F a → WR w0 ρ M w → evOps P call ops l F M = some (F', M') →
    ∀ {Q : Exit → Act → World → Prop}, (∀ ρ' a' w', Ext ρ ρ' → FR ρ' F' a' → WR w0 ρ' M' w' → Q .normal a' w') → wpList P ops Q l a w
  | [], ρ, F, F', M, M', w, a, hF, hW, he, Q, hQ => by
    simp [evOps] at he
    obtain ⟨rfl, rfl⟩ := he
    exact hQ ρ a w (Ext.refl _) hF hW
  | o :: rest, ρ, F, F', M, M', w, a, hF, hW, he, Q, hQ => by
    simp only [evOps] at he
    refine wpList_step fun K hK => ?_
    split at he
    · rename_i hw
      rw [wantedA_sound hF hw, if_pos rfl]
      split at he
      · rename_i v M2 ho
        exact evOp1_sound hP hcall hF hW ho fun ρ' u w' h1 h2 h3 => hK _ _ (evOps_sound hP hcall ops rest ((hF.ext h1).put o.dst h2) h3 he fun ρ2 a2 w2 q1 q2 q3 => hQ ρ2 a2 w2 (h1.trans q1) q2 q3)
      · cases he
    · rename_i hw
      rw [wantedA_sound hF hw]
      simp only [Bool.false_eq_true, if_false]
      exact hK _ _ (evOps_sound hP hcall ops rest (hF.put o.dst (by simp [rel])) hW he hQ)
    · cases he

/-! ### Code -/
inductive Ex where
  | norm
  | exit (id : Nat)
  | ret
def Ex.to : Ex → Exit
  | .norm => .normal
  | .exit id => .exit id
  | .ret => .ret

def evLoop (f : Fr → Mem → Option (Ex × Fr × Mem)) : Nat → Fr → Mem → Option (Ex × Fr × Mem)
  | 0, _, _ => none
  | n + 1, F, M => match f F M with
    | some (.norm, F', M') => evLoop f n F' M'
    | r => r
noncomputable def evCode (P : Program) (call : CallF) (n : Nat) : Code → Fr → Mem → Option (Ex × Fr × Mem)
  | .skip, F, M => some (.norm, F, M)
  | .label _, F, M => some (.norm, F, M)
  | .region _ ops draw, F, M => match (match draw with | true => evDraw2 P call ops F M | false => evOps P call ops ops.toList F M) with
    | some (F', M') => some (.norm, F', M')
    | none => none
  | .seq a b, F, M => match evCode P call n a F M with
    | some (.norm, F', M') => evCode P call n b F' M'
    | r => r
  | .cond c t e, F, M => match litX F c with
    | some (.bool true) => evCode P call n t F M
    | some (.bool false) => evCode P call n e F M
    | _ => none
  | .block id body, F, M => match evCode P call n body F M with
    | some (.exit id', F', M') => if id' = id then some (.norm, F', M') else some (.exit id', F', M')
    | r => r
  | .loop body, F, M => evLoop (evCode P call n body) n F M
  | .scope body, F, M => evCode P call n body F M
  | .exit id, F, M => some (.exit id, F, M)
  | .ret, F, M => some (.ret, F, M)
  | _, _, _ => none

theorem evCode_sound {P : Program} (hP : Plainly P) (hm : P.follows .mixedOrders = true) {call : CallF} (hcall : CallOk P call) (n : Nat) {w0 : Base} : ∀ (c : Code) {ρ : Rho} {F F' : Fr} {M M' : Mem} {w : World} {a : Act} {ex : Ex}, FR ρ F a → WR w0 ρ M w →
    evCode P call n c F M = some (ex, F', M') → ∀ {Q : Exit → Act → World → Prop}, (∀ ρ' a' w', Ext ρ ρ' → FR ρ' F' a' → WR w0 ρ' M' w' → Q ex.to a' w') → c.wp P Q a w := by
  intro c
  induction c with
  | skip =>
    intro ρ F F' M M' w a ex hF hW he Q hQ
    simp [evCode] at he
    obtain ⟨rfl, rfl, rfl⟩ := he
    exact wp_skip (hQ ρ a w (Ext.refl _) hF hW)
  | label l =>
    intro ρ F F' M M' w a ex hF hW he Q hQ
    simp [evCode] at he
    obtain ⟨rfl, rfl, rfl⟩ := he
    exact wp_label (hQ ρ a w (Ext.refl _) hF hW)
  | exit id =>
    intro ρ F F' M M' w a ex hF hW he Q hQ
    simp [evCode] at he
    obtain ⟨rfl, rfl, rfl⟩ := he
    exact wp_exit (hQ ρ a w (Ext.refl _) hF hW)
  | ret =>
    intro ρ F F' M M' w a ex hF hW he Q hQ
    simp [evCode] at he
    obtain ⟨rfl, rfl, rfl⟩ := he
    exact wp_ret (hQ ρ a w (Ext.refl _) hF hW)
  | region id ops draw =>
    intro ρ F F' M M' w a ex hF hW he Q hQ
    simp only [evCode] at he
    cases draw with
    | true =>
      simp only at he
      split at he
      · rename_i F2 M2 hd
        simp at he
        obtain ⟨rfl, rfl, rfl⟩ := he
        exact evDraw2_sound hP hm hcall hF hW hd hQ
      · cases he
    | false =>
      simp only at he
      split at he
      · rename_i F2 M2 hd
        simp at he
        obtain ⟨rfl, rfl, rfl⟩ := he
        exact wp_region_list (evOps_sound hP hcall ops ops.toList hF hW hd hQ)
      · cases he
  | seq x y ihx ihy =>
    intro ρ F F' M M' w a ex hF hW he Q hQ
    simp only [evCode] at he
    cases hx : evCode P call n x F M with
    | none => simp [hx] at he
    | some r =>
      obtain ⟨e1, F1, M1⟩ := r
      refine wp_seq (ihx hF hW hx fun ρ' a' w' h1 h2 h3 => ?_)
      cases e1 with
      | norm =>
        simp only [hx] at he
        exact ihy h2 h3 he fun ρ2 a2 w2 q1 q2 q3 => hQ ρ2 a2 w2 (h1.trans q1) q2 q3
      | exit id =>
        simp only [hx, Option.some.injEq, Prod.mk.injEq] at he
        obtain ⟨rfl, rfl, rfl⟩ := he
        exact hQ ρ' a' w' h1 h2 h3
      | ret =>
        simp only [hx, Option.some.injEq, Prod.mk.injEq] at he
        obtain ⟨rfl, rfl, rfl⟩ := he
        exact hQ ρ' a' w' h1 h2 h3
  | cond c t e iht ihe =>
    intro ρ F F' M M' w a ex hF hW he Q hQ
    simp only [evCode] at he
    split at he
    · rename_i hc
      exact wp_cond_true (litX_sound hF hc) (iht hF hW he hQ)
    · rename_i hc
      exact wp_cond_false (litX_sound hF hc) (ihe hF hW he hQ)
    · cases he
  | block id body ih =>
    intro ρ F F' M M' w a ex hF hW he Q hQ
    simp only [evCode] at he
    cases hx : evCode P call n body F M with
    | none => simp [hx] at he
    | some r =>
      obtain ⟨e1, F1, M1⟩ := r
      refine wp_block (ih hF hW hx fun ρ' a' w' h1 h2 h3 => ?_)
      cases e1 with
      | norm =>
        simp only [hx, Option.some.injEq, Prod.mk.injEq] at he
        obtain ⟨rfl, rfl, rfl⟩ := he
        exact hQ ρ' a' w' h1 h2 h3
      | exit id' =>
        simp only [hx] at he
        by_cases hid : id' = id
        · rw [if_pos hid] at he
          simp at he
          obtain ⟨rfl, rfl, rfl⟩ := he
          simp only [Ex.to, Exit.inBlock, hid, if_true]
          exact hQ ρ' a' w' h1 h2 h3
        · rw [if_neg hid] at he
          simp at he
          obtain ⟨rfl, rfl, rfl⟩ := he
          simp only [Ex.to, Exit.inBlock, hid, if_false]
          exact hQ ρ' a' w' h1 h2 h3
      | ret =>
        simp only [hx, Option.some.injEq, Prod.mk.injEq] at he
        obtain ⟨rfl, rfl, rfl⟩ := he
        exact hQ ρ' a' w' h1 h2 h3
  | loop body ih =>
    intro ρ F F' M M' w a ex hF hW he Q hQ
    simp only [evCode] at he
    have key : ∀ (k : Nat) {ρ : Rho} {F : Fr} {M : Mem} {w : World} {a : Act}, FR ρ F a → WR w0 ρ M w → evLoop (evCode P call n body) k F M = some (ex, F', M') →
        (∀ ρ' a' w', Ext ρ ρ' → FR ρ' F' a' → WR w0 ρ' M' w' → Q ex.to a' w') → Code.rounds P body Q k a w := by
      intro k
      induction k with
      | zero => intro ρ F M w a _ _ h; simp [evLoop] at h
      | succ k ihk =>
        intro ρ F M w a hF hW h hQ
        rw [rounds_succ]
        simp only [evLoop] at h
        cases hx : evCode P call n body F M with
        | none => simp [hx] at h
        | some r =>
          obtain ⟨e1, F1, M1⟩ := r
          refine ih hF hW hx fun ρ' a' w' h1 h2 h3 => ?_
          cases e1 with
          | norm =>
            simp only [hx] at h
            exact ihk h2 h3 h fun ρ2 a2 w2 q1 q2 q3 => hQ ρ2 a2 w2 (h1.trans q1) q2 q3
          | exit id =>
            simp only [hx, Option.some.injEq, Prod.mk.injEq] at h
            obtain ⟨rfl, rfl, rfl⟩ := h
            exact hQ ρ' a' w' h1 h2 h3
          | ret =>
            simp only [hx, Option.some.injEq, Prod.mk.injEq] at h
            obtain ⟨rfl, rfl, rfl⟩ := h
            exact hQ ρ' a' w' h1 h2 h3
    exact wp_loop_rounds n (key n hF hW he hQ)
  | scope body ih =>
    intro ρ F F' M M' w a ex hF hW he Q hQ
    simp only [evCode] at he
    exact wp_scope_straight (ih hF hW he fun ρ' a' w' h1 h2 h3 => by cases ex <;> exact hQ ρ' a' w' h1 h2 h3)
  | _ => intro ρ F F' M M' w a ex hF hW he; simp [evCode] at he

/-! ### Calls -/
noncomputable def resA (P : Program) (F : Fr) (M : Mem) : ResultVar → Option AV
  | .tmp t => match F[t]? with | some (some v) => some v | _ => none
  | .cell x t => match F[x]? with | some (some v) => evLoad P M t v | _ => none
noncomputable def ressA (P : Program) (F : Fr) (M : Mem) : List ResultVar → Option (List AV)
  | [] => some []
  | r :: rs => match resA P F M r, ressA P F M rs with | some v, some l => some (v :: l) | _, _ => none
noncomputable def resultsA (P : Program) (F : Fr) (M : Mem) (fn : Func) : Option AV := match ressA P F M fn.results.toList with
  | some [v] => some v
  | some l => some (.tup l)
  | none => none
def resS (tmps : Array Value) : ResultVar → Sem Value
  | .tmp t => pure (tmps.getD t undef)
  | .cell x t => do loadVar t (← asAddr (tmps.getD x undef))
theorem results_eq (fn : Func) (tmps : Array Value) : results fn tmps = (do let vs ← fn.results.mapM (resS tmps); pure (if h : vs.size = 1 then vs[0] else .tuple vs)) := by
  unfold results
  congr 1
theorem resA_sound {P : Program} {w0 : Base} {ρ : Rho} {M : Mem} {w : World} {F : Fr} {a : Act} (hF : FR ρ F a) (hW : WR w0 ρ M w) {r : ResultVar} {v : AV} (he : resA P F M r = some v) :
    ∃ u, rel ρ v u ∧ (resS a.tmps r).run P w = .ok u w := by
  cases r with
  | tmp t =>
    simp only [resA] at he
    split at he
    · rename_i heq
      simp at he; subst he
      exact ⟨_, hF.val _ _ heq, rfl⟩
    · cases he
  | cell x t =>
    simp only [resA] at he
    split at he
    · rename_i v' heq
      obtain ⟨g, o, e, u, h1, h2⟩ := evLoad_sound hW (hF.val _ _ heq) he
      exact ⟨u, h1, by simp only [resS, e, asAddr, Sem.run_bind, Sem.run_pure, Result.andThen_ok, h2 w rfl]⟩
    · cases he
theorem ressA_sound {P : Program} {w0 : Base} {ρ : Rho} {M : Mem} {w : World} {F : Fr} {a : Act} (hF : FR ρ F a) (hW : WR w0 ρ M w) : ∀ (rs : List ResultVar) (l : List AV), ressA P F M rs = some l →
    ∃ us : List Value, rels ρ l us ∧ (rs.mapM (resS a.tmps)).run P w = .ok us w
  | [], l, he => by simp [ressA] at he; subst he; exact ⟨[], by simp [rels], by simp⟩
  | r :: rs, l, he => by
    simp only [ressA] at he
    cases hr : resA P F M r with
    | none => simp [hr] at he
    | some v =>
      cases hrs : ressA P F M rs with
      | none => simp [hr, hrs] at he
      | some l' =>
        simp [hr, hrs] at he; subst he
        obtain ⟨u, h1, h2⟩ := resA_sound hF hW hr
        obtain ⟨us, h3, h4⟩ := ressA_sound hF hW rs l' hrs
        refine ⟨u :: us, by simp only [rels]; exact ⟨u, us, rfl, h1, h3⟩, ?_⟩
        simp only [List.mapM_cons, Sem.run_bind, h2, Result.andThen_ok, h4]
        rfl
theorem resultsA_sound {P : Program} {w0 : Base} {ρ : Rho} {M : Mem} {w : World} {F : Fr} {a : Act} (hF : FR ρ F a) (hW : WR w0 ρ M w) {fn : Func} {v : AV} (he : resultsA P F M fn = some v) :
    ∃ u, rel ρ v u ∧ (results fn a.tmps).run P w = .ok u w := by
  unfold resultsA at he
  rw [results_eq, Array.mapM_eq_mapM_toList]
  split at he
  · rename_i v' hr
    simp at he; subst he
    obtain ⟨us, h1, h2⟩ := ressA_sound hF hW _ _ hr
    have hl := h1.len
    match us, h1, h2, hl with
    | [u], h1, h2, _ =>
      simp only [rels] at h1
      obtain ⟨y, ys, e, h3, _⟩ := h1
      simp at e
      obtain ⟨rfl, rfl⟩ := e
      refine ⟨u, h3, ?_⟩
      simp only [Sem.run_bind, Sem.run_map, h2, Result.andThen_ok]
      rfl
  · rename_i l hne hr
    simp at he; subst he
    obtain ⟨us, h1, h2⟩ := ressA_sound hF hW _ _ hr
    have hl := h1.len
    refine ⟨.tuple us.toArray, by simp only [rel]; exact ⟨us, rfl, h1⟩, ?_⟩
    have hne1 : us.length ≠ 1 := fun e => by
      match l, hl, hne with
      | [], hl, _ => simp at hl; omega
      | [v], _, hne => exact hne v rfl
      | _ :: _ :: _, hl, _ => simp at hl; omega
    simp only [Sem.run_bind, Sem.run_map, h2, Result.andThen_ok]
    simp [hne1]
  · cases he

noncomputable def evCall (P : Program) (k : Nat) : Nat → CallF
  | 0 => fun _ _ _ => none
  | n + 1 => fun f args M => match P.funcs[f]? with
    | some fn => match fn.body with
      | some c => match evCode P (evCall P k n) k c (args.map some ++ List.replicate (fn.ntmps - args.length) (some (.lit undef))) M with
        | some (.norm, F', M') => match resultsA P F' M' fn with | some v => some (v, M') | none => none
        | some (.ret, F', M') => match resultsA P F' M' fn with | some v => some (v, M') | none => none
        | _ => none
      | none => none
    | none => none

theorem frame_start {ρ : Rho} {args : List AV} {us : List Value} (h : rels ρ args us) (n : Nat) : FR ρ (args.map some ++ List.replicate (n - args.length) (some (.lit undef))) { tmps := us.toArray ++ Array.replicate (n - us.toArray.size) undef, defers := [] } := by
  have hl := h.len
  refine ⟨by simp [hl], fun t v hv => ?_, rfl⟩
  rw [List.getElem?_append] at hv
  simp only [List.length_map] at hv
  rw [Array.getD_eq_getD_getElem?, Array.getElem?_append]
  simp only [List.size_toArray]
  by_cases ht : t < args.length
  · rw [if_pos ht] at hv
    rw [if_pos (by omega)]
    simp at hv
    obtain ⟨y, h1, h2⟩ := h.get t v hv
    simp [h1]; exact h2
  · rw [if_neg ht] at hv
    rw [if_neg (by omega)]
    rw [List.getElem?_replicate] at hv
    split at hv
    · simp at hv; subst hv
      rw [Array.getElem?_replicate]
      simp only [rel]
      split <;> rfl
    · cases hv

theorem evCall_ok {P : Program} (hP : Plainly P) (hm : P.follows .mixedOrders = true) (k : Nat) : ∀ n, CallOk P (evCall P k n)
  | 0 => fun f args M v M' h => by simp [evCall] at h
  | n + 1 => fun f args M v M' h w0 ρ us w hr hW => by
    simp only [evCall] at h
    cases hf : P.funcs[f]? with
    | none => simp [hf] at h
    | some fn =>
      cases hb : fn.body with
      | none => simp [hf, hb] at h
      | some c =>
        simp only [hf, hb] at h
        have hF := frame_start hr fn.ntmps
        refine calls_of_wp hf hb ?_
        split at h
        · rename_i F' M2 hc
          split at h
          · rename_i v' hres
            simp at h
            obtain ⟨rfl, rfl⟩ := h
            refine evCode_sound hP hm (evCall_ok hP hm k n) k c hF hW hc fun ρ' a' w' h1 h2 h3 => ?_
            obtain ⟨u, q1, q2⟩ := resultsA_sound h2 h3 hres
            exact bodyPost_end q2 h2.defers ⟨ρ', u, rfl, h1, q1, h3⟩
          · cases h
        · rename_i F' M2 hc
          split at h
          · rename_i v' hres
            simp at h
            obtain ⟨rfl, rfl⟩ := h
            refine evCode_sound hP hm (evCall_ok hP hm k n) k c hF hW hc fun ρ' a' w' h1 h2 h3 => ?_
            obtain ⟨u, q1, q2⟩ := resultsA_sound h2 h3 hres
            exact bodyPost_ret q2 h2.defers ⟨ρ', u, rfl, h1, q1, h3⟩
          · cases h
        · cases h

end Go.Proofs.YtmlhipckgmbpfaaGreat.Ev
