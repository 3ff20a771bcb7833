/-
  The small interpreter, part 7: operations, regions, code, calls.
-/
import Derived.Test.YtmlhipckgmbpfaaGreatEv6
import Derived.Deep.Quiet
namespace Go.Proofs.YtmlhipckgmbpfaaGreat.Ev
open Go Go.RowKit
set_option linter.unusedVariables false

noncomputable def eAlloc (P : Program) (M : Mem) (t : TypeId) : Option (AV × Mem) := obind (zeroA P t) fun z => some (.ptr M.top 0, M.push ⟨cellsA (.lit z), t⟩)
noncomputable def eBox (F : Fr) (M : Mem) (t : TypeId) (x : Operand) : Option (AV × Mem) := obind (evX F x) fun v => some (.ptr M.top 0, M.push ⟨cellsA v, t⟩)
noncomputable def eSlice (P : Program) (F : Fr) (M : Mem) (t : TypeId) (len : Nat) (ps : Array (Nat × Operand)) : Option (AV × Mem) := obind (partsX F ps.toList) fun l => evBuildSlice P M t len l
noncomputable def eStore (P : Program) (F : Fr) (M : Mem) (t : TypeId) (x y : Operand) : Option (AV × Mem) := obind (evX F x) fun u => obind (evX F y) fun v => obind (evStore P M t u v) fun M' => some (.lit undef, M')
noncomputable def eMake (P : Program) (F : Fr) (M : Mem) (t : TypeId) (l c : Operand) : Option (AV × Mem) := obind (litX F l) fun u => obind (litX F c) fun v => evMake P M t u v
noncomputable def eAppend (P : Program) (F : Fr) (M : Mem) (c : Call) : Option (AV × Mem) := match c.callee with
  | .builtin .append => (match c.args.toList, c.argTypes.toList with
    | [x, y], [t, t'] => if t = t' then (obind (evX F x) fun u => obind (evX F y) fun v => evAppend P M t u v) else none
    | _, _ => none)
  | _ => none
noncomputable def evEff (P : Program) (F : Fr) (M : Mem) (o : Oper) : Option (AV × Mem) := match o.op with
  | .alloc elem => eAlloc P M elem
  | .box elem x => eBox F M elem x
  | .buildSlice t len parts => eSlice P F M t len parts
  | .store t x y => eStore P F M t x y
  | .makeSlice t l c => eMake P F M t l c
  | .call c => eAppend P F M c
  | _ => none
noncomputable def evOp (P : Program) (F : Fr) (M : Mem) (o : Oper) : Option (AV × Mem) := Option.rec (motive := fun _ => Option (AV × Mem)) (evEff P F M o) (fun v => some (v, M)) (evRead P F M o)
theorem evOp_def (P : Program) (F : Fr) (M : Mem) (o : Oper) : evOp P F M o = match evRead P F M o with | some v => some (v, M) | none => evEff P F M o := by
  unfold evOp
  cases evRead P F M o <;> rfl

/-- what is shown of an operation that is no call -/
def Acts (P : Program) (w0 : Base) (ρ : Rho) (M' : Mem) (v : AV) (w : World) (s : Sem Next) : Prop :=
  ∃ ρ' u w', Ext ρ ρ' ∧ rel ρ' v u ∧ WR w0 ρ' M' w' ∧ (s.run P w = .ok (.value u) w' ∨ (s.run P w = .ok .skip w' ∧ u = undef))
theorem Does.acts {P : Program} {w0 : Base} {ρ : Rho} {M' : Mem} {v : AV} {w : World} {s : Sem Value} (h : Does P w0 ρ M' v w s) : Acts P w0 ρ M' v w (do pure (.value (← s))) := by
  obtain ⟨ρ', u, w', h1, h2, h3, h4⟩ := h
  exact ⟨ρ', u, w', h1, h2, h3, .inl (by simp only [Sem.run_bind, h4, Result.andThen_ok]; rfl)⟩

theorem evOp_sound {P : Program} {w0 : Base} {ρ : Rho} {M M' : Mem} {w : World} {F : Fr} {a : Act} (hF : FR ρ F a) (hW : WR w0 ρ M w) {o : Oper} {v : AV} (he : evOp P F M o = some (v, M')) :
    Acts P w0 ρ M' v w (execOp a.eval o) := by
  rw [evOp_def] at he
  split at he
  · rename_i v' hr
    simp at he
    obtain ⟨rfl, rfl⟩ := he
    obtain ⟨u, h1, h2⟩ := evRead_sound hF hW hr
    exact ⟨ρ, u, w, Ext.refl _, h1, hW, .inl (h2 w rfl)⟩
  unfold evEff at he
  unfold execOp
  cases ho : o.op <;> simp only [ho] at he ⊢ <;> try (cases he; done)
  case alloc elem =>
    obtain ⟨z, hz, he⟩ := obind_some he
    simp at he
    obtain ⟨rfl, rfl⟩ := he
    refine Does.acts ?_
    obtain ⟨ρ', u, w', h1, h2, h3, h4⟩ := new_does (P := P) hW (v := .lit z) (u := z) (by simp [rel]) elem
    exact ⟨ρ', u, w', h1, h2, h3, by rw [← h4]; simp [Instr.alloc, run_zeroA hz]⟩
  case box elem x =>
    obtain ⟨v', hx, he⟩ := obind_some he
    simp at he
    obtain ⟨rfl, rfl⟩ := he
    exact Does.acts (new_does hW (evX_sound hF hx) elem)
  case buildSlice t len parts =>
    obtain ⟨ps, hps, he⟩ := obind_some he
    obtain ⟨h1, h2⟩ := partsX_sound hF _ _ hps
    have e : (parts.map fun (p : Nat × Operand) => (p.1, a.eval p.2)).toList = parts.toList.map fun p => (p.1, a.eval p.2) := by simp
    exact Does.acts (evBuildSlice_sound hW (by rw [e]; exact h1) (by rw [e]; exact h2) he)
  case makeSlice t l c =>
    obtain ⟨u', hl, he⟩ := obind_some he
    obtain ⟨v', hc, he⟩ := obind_some he
    rw [litX_sound hF hl, litX_sound hF hc]
    exact Does.acts (evMake_sound hW he)
  case store t x y =>
    obtain ⟨u', hx, he⟩ := obind_some he
    obtain ⟨v', hy, he⟩ := obind_some he
    obtain ⟨M2, hs, he⟩ := obind_some he
    simp at he
    obtain ⟨rfl, rfl⟩ := he
    obtain ⟨w', h1, h2⟩ := evStore_sound hW (evX_sound hF hx) (evX_sound hF hy) hs
    exact ⟨ρ, undef, w', Ext.refl _, by simp [rel], h1, .inr ⟨by simp only [Sem.run_bind, h2, Result.andThen_ok]; rfl, rfl⟩⟩
  case call c =>
    unfold eAppend at he
    split at he
    · rename_i hc
      split at he
      · rename_i x y t t' hxs hts
        split at he
        · rename_i htt
          subst htt
          obtain ⟨u', hx, he⟩ := obind_some he
          obtain ⟨v', hy, he⟩ := obind_some he
          have e1 : c.args = #[x, y] := by rw [← Array.toArray_toList (xs := c.args), hxs]
          have e2 : c.argTypes = #[t, t] := by rw [← Array.toArray_toList (xs := c.argTypes), hts]
          have hD := evAppend_sound (ty := o.type) hW (evX_sound hF hx) (evX_sound hF hy) he
          obtain ⟨ρ', u, w', h1, h2, h3, h4⟩ := hD
          refine ⟨ρ', u, w', h1, h2, h3, .inl ?_⟩
          simp [resolve, hc, invoke, builtin, e1, e2, h4]
        · cases he
      · cases he
    · cases he

/-! ### Calls -/
abbrev CallF := FuncId → List AV → Mem → Option (AV × Mem)
def CallOk (P : Program) (call : CallF) : Prop := ∀ f args M v M', call f args M = some (v, M') → ∀ w0 ρ us w, rels ρ args us → WR w0 ρ M w →
  Calls P f us.toArray w fun e w' => ∃ ρ' u, e = .returned u ∧ Ext ρ ρ' ∧ rel ρ' v u ∧ WR w0 ρ' M' w'
/-- no function of the program is one that the model stands in for by its name -/
def Plainly (P : Program) : Prop := ∀ (f : FuncId) fn, P.funcs[f]? = some fn → (fn.name == "runtime.NumGoroutine") = false

noncomputable def calleeA (F : Fr) (c : Call) : Option (FuncId × List AV) := match c.callee with
  | .value x => match evX F x, mapX F c.args.toList with
    | some (.fn (.func f) first cap), some args => some (f, first ++ args ++ cap)
    | some (.lit (.func (.func f) first cap)), some args => some (f, first.toList.map .lit ++ args ++ cap.toList.map .lit)
    | _, _ => none
  | _ => none
noncomputable def evOp1 (P : Program) (call : CallF) (F : Fr) (M : Mem) (o : Oper) : Option (AV × Mem) := match o.op with
  | .call c => match calleeA F c with
    | some (f, args) => match P.funcs[f]? with
      | some fn => if fn.body.isSome then call f args M else none
      | none => none
    | none => evOp P F M o
  | _ => evOp P F M o

theorem calleeA_sound {ρ : Rho} {F : Fr} {a : Act} (hF : FR ρ F a) {c : Call} {f : FuncId} {args : List AV} (he : calleeA F c = some (f, args)) (P : Program) {fn : Func} (hf : P.funcs[f]? = some fn) (hb : fn.body.isSome = true) (hn : (fn.name == "runtime.NumGoroutine") = false) (ty : TypeId) (w : World) :
    ∃ us : List Value, rels ρ args us ∧ (do let d ← resolve a.eval c ty; invoke d.target d.args : Sem Next).run P w = .ok (.enter f us.toArray) w := by
  obtain ⟨cd, hcd⟩ := Option.isSome_iff_exists.1 hb
  have hn' : fn.name ≠ "runtime.NumGoroutine" := by simpa using hn
  unfold calleeA at he
  split at he
  · rename_i x hc
    split at he
    · rename_i f' first cap args' hx hm
      simp at he
      obtain ⟨rfl, rfl⟩ := he
      have hr := evX_sound hF hx
      simp only [rel] at hr
      obtain ⟨l, m, e, h1, h2⟩ := hr
      have h3 := mapX_sound hF _ _ hm
      refine ⟨l ++ c.args.toList.map a.eval ++ m, by rw [← List.append_assoc]; exact (h1.app h3).app h2, ?_⟩
      simp [resolve, hc, e, Deferred.ofValue, invoke, callFunc, hf, hn', hcd]
    · rename_i f' first cap args' hx hm
      simp at he
      obtain ⟨rfl, rfl⟩ := he
      have hr := evX_sound hF hx
      simp only [rel] at hr
      have h3 := mapX_sound hF _ _ hm
      refine ⟨first.toList ++ c.args.toList.map a.eval ++ cap.toList, ?_, ?_⟩
      · rw [List.append_assoc]; exact ((rels.lits _).app (h3.app (rels.lits _)))
      · simp [resolve, hc, hr, Deferred.ofValue, invoke, callFunc, hf, hn', hcd]
    · cases he
  · cases he

theorem evOp1_sound {P : Program} (hP : Plainly P) {call : CallF} (hcall : CallOk P call) {w0 : Base} {ρ : Rho} {M M' : Mem} {w : World} {F : Fr} {a : Act} (hF : FR ρ F a) (hW : WR w0 ρ M w) {o : Oper} {v : AV} (he : evOp1 P call F M o = some (v, M'))
    {K : Act → World → Prop} {Q : Exit → Act → World → Prop} (hK : ∀ ρ' u w', Ext ρ ρ' → rel ρ' v u → WR w0 ρ' M' w' → K (a.put o.dst u) w') : o.wp P a w K Q := by
  have main : ∀ (h : evOp P F M o = some (v, M')), o.wp P a w K Q := fun h => by
    obtain ⟨ρ', u, w', h1, h2, h3, h4⟩ := evOp_sound hF hW h
    unfold Oper.wp
    rcases h4 with h4 | ⟨h4, rfl⟩
    · rw [h4]; exact hK ρ' u w' h1 h2 h3
    · rw [h4]; exact hK ρ' undef w' h1 h2 h3
  unfold evOp1 at he
  split at he
  · rename_i c ho
    split at he
    · rename_i f args hc
      split at he
      · rename_i fn hf
        split at he
        · rename_i hb
          obtain ⟨us, h1, h2⟩ := calleeA_sound hF hc P hf hb (hP f fn hf) o.type w
          have h3 := hcall f args M v M' he w0 ρ us w h1 hW
          unfold Oper.wp execOp
          simp only [ho]
          rw [h2]
          simp only [Oper.upon_enter]
          refine h3.mono ?_
          rintro e w' ⟨ρ', u, rfl, q1, q2, q3⟩
          exact hK ρ' u w' q1 q2 q3
        · cases he
      · cases he
    · exact main he
  · exact main he

end Go.Proofs.YtmlhipckgmbpfaaGreat.Ev
