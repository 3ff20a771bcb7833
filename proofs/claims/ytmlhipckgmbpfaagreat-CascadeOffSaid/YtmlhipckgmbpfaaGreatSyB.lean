/-
  The symbolic interpreter, part 8: code, with a tree of what is asked on the way; calls.
-/
import Derived.Test.YtmlhipckgmbpfaaGreatSyA
import Derived.Scope
namespace Go.Proofs.YtmlhipckgmbpfaaGreat.Sy
open Go Go.RowKit
set_option linter.unusedVariables false

/-! ### Trees of questions -/
/-- how each question is answered: reckoned; both ways; 'it is owed that it is so' (not so) -/
inductive D where
  | done
  | auto (n : Nat) (d : D)
  | br (t f : D)
  | yes (d : D)
  | no (d : D)
inductive Tr (β : Type) where
  | bad (why : Nat)
  | leaf (b : β)
  | fork (c : Bool) (t f : Tr β)
  | need (c : Bool) (t : Tr β)
  | ask (c : Bool)
def Tr.Ok {β : Type} : Tr β → (β → Prop) → Prop
  | .bad _, _ => False
  | .ask _, _ => False
  | .leaf b, G => G b
  | .fork c t f, G => (c = true → t.Ok G) ∧ (c = false → f.Ok G)
  | .need c t, G => c = true ∧ t.Ok G
theorem Tr.Ok.mono {β : Type} {G H : β → Prop} (h : ∀ b, G b → H b) : ∀ {t : Tr β}, t.Ok G → t.Ok H
  | .bad _, ht => ht
  | .ask _, ht => ht
  | .leaf b, ht => h b ht
  | .fork c t f, ht => ⟨fun e => (ht.1 e).mono h, fun e => (ht.2 e).mono h⟩
  | .need c t, ht => ⟨ht.1, ht.2.mono h⟩

noncomputable def ask {β : Type} (d : D) (b : Bool) (k : Bool → D → Tr β) : Tr β := match d with
  | .auto n d' => match n with
    | 0 => Bool.rec (motive := fun _ => Tr β) (k false d') (k true d') b
    | m + 1 => Bool.rec (motive := fun _ => Tr β) (k false (.auto m d')) (k true (.auto m d')) b
  | .br t f => .fork b (k true t) (k false f)
  | .yes d' => .need b (k true d')
  | .no d' => .need (!b) (k false d')
  | .done => .ask b
theorem ask_ok {β : Type} {G : β → Prop} {d : D} {b : Bool} {k : Bool → D → Tr β} (h : (ask d b k).Ok G) : ∃ d', (k b d').Ok G := by
  unfold ask at h
  split at h
  · split at h
    · cases b
      · exact ⟨_, h⟩
      · exact ⟨_, h⟩
    · cases b
      · exact ⟨_, h⟩
      · exact ⟨_, h⟩
  · cases b
    · exact ⟨_, h.2 rfl⟩
    · exact ⟨_, h.1 rfl⟩
  · obtain ⟨rfl, h⟩ := h
    exact ⟨_, h⟩
  · obtain ⟨h1, h⟩ := h
    cases b
    · exact ⟨_, h⟩
    · cases h1
  · exact h.elim
/-- a tree in the midst of another one -/
noncomputable def bindT {α β : Type} : Tr α → D → (α → D → Tr β) → Tr β
  | .bad n, _, _ => .bad n
  | .ask c, _, _ => .ask c
  | .leaf a, d, k => k a d
  | .fork c t f, d, k => ask d c fun r d' => match r with | true => bindT t d' k | false => bindT f d' k
  | .need c t, d, k => .need c (bindT t d k)
theorem bindT_ok {α β : Type} {G : β → Prop} {k : α → D → Tr β} : ∀ {t : Tr α} {d : D}, (bindT t d k).Ok G → t.Ok fun a => ∃ d', (k a d').Ok G
  | .bad _, _, h => h
  | .ask _, _, h => h
  | .leaf a, d, h => ⟨d, h⟩
  | .fork c t f, d, h => by
    obtain ⟨d', h⟩ := ask_ok h
    cases c
    · exact ⟨(fun e => by cases e), fun _ => bindT_ok h⟩
    · exact ⟨fun _ => bindT_ok h, (fun e => by cases e)⟩
  | .need c t, d, h => ⟨h.1, bindT_ok h.2⟩

/-! ### One operation -/
noncomputable def owedK {β : Type} (b : Option Bool) (d : D) (k : D → Tr β) : Tr β := Option.rec (motive := fun _ => Tr β) (k d) (fun x => ask d x fun r d' => match r with | true => k d' | false => .bad 1) b
theorem owedK_ok {β : Type} {G : β → Prop} {b : Option Bool} {d : D} {k : D → Tr β} (h : (owedK b d k).Ok G) : owed b ∧ ∃ d', (k d').Ok G := by
  cases b with
  | none => exact ⟨(fun _ e => by cases e), d, h⟩
  | some x =>
    obtain ⟨d', h⟩ := ask_ok (k := fun r d' => match r with | true => k d' | false => .bad 1) h
    cases x with
    | true => exact ⟨(fun _ e => by cases e; rfl), d', h⟩
    | false => exact h.elim
noncomputable def gotK {β : Type} (r : Option (AV × Mem)) (k : AV → Mem → Tr β) : Tr β := Option.rec (motive := fun _ => Tr β) (.bad 2) (fun vm => k vm.1 vm.2) r
theorem gotK_ok {β : Type} {G : β → Prop} {r : Option (AV × Mem)} {k : AV → Mem → Tr β} (h : (gotK r k).Ok G) : ∃ v M', r = some (v, M') ∧ (k v M').Ok G := by
  cases r with
  | none => exact h.elim
  | some vm => exact ⟨vm.1, vm.2, rfl, h⟩
noncomputable def plainK {β : Type} (P : Program) (call : CallT) (F : Fr) (M : Mem) (d : D) (o : Oper) (k : AV → Mem → D → Tr β) : Tr β :=
  owedK (obOp1 P call F M o) d fun d' => gotK (evOp1 P call F M o) fun v M' => k v M' d'
noncomputable def pickK {β : Type} (F : Fr) (M : Mem) (d : D) (c x y : Operand) (k : AV → Mem → D → Tr β) : Tr β := match litX F c with
  | some (.bool b) => ask d b fun r d' => match r with
    | true => gotK ((evX F x).map fun v => (v, M)) fun v M' => k v M' d'
    | false => gotK ((evX F y).map fun v => (v, M)) fun v M' => k v M' d'
  | _ => .bad 3
noncomputable def stepK {β : Type} (P : Program) (call : CallT) (F : Fr) (M : Mem) (d : D) (o : Oper) (k : AV → Mem → D → Tr β) : Tr β := match o.op with
  | .pick c x y => pickK F M d c x y k
  | _ => plainK P call F M d o k
theorem stepK_ok {β : Type} {G : β → Prop} {P : Program} {call : CallT} {F : Fr} {M : Mem} {d : D} {o : Oper} {k : AV → Mem → D → Tr β} (h : (stepK P call F M d o k).Ok G) :
    ∃ v M' d', evOp1 P call F M o = some (v, M') ∧ owed (obOp1 P call F M o) ∧ (k v M' d').Ok G ∧ ∀ c x y, o.op = .pick c x y → M' = M ∧ evRead P F M o = some v := by
  unfold stepK at h
  split at h
  · rename_i c x y ho
    unfold pickK at h
    split at h
    · rename_i b hb
      obtain ⟨d', h⟩ := ask_ok h
      have key : ∀ v, (b = true → evX F x = some v) → (b = false → evX F y = some v) → evRead P F M o = some v := fun v hv hv' => by
        rw [evRead_def]
        unfold evRead'
        rw [ho]
        simp only [fPick, hb, obind, pickV]
        cases b with
        | true => simp only [hv rfl]
        | false => simp only [hv' rfl]
      have fin : ∀ v, evRead P F M o = some v → (k v M d').Ok G → ∃ v M' d', evOp1 P call F M o = some (v, M') ∧ owed (obOp1 P call F M o) ∧ (k v M' d').Ok G ∧ ∀ c x y, o.op = .pick c x y → M' = M ∧ evRead P F M o = some v := fun v hr hk => by
        refine ⟨v, M, d', ?_, ?_, hk, fun _ _ _ _ => ⟨rfl, hr⟩⟩
        · unfold evOp1
          rw [ho]
          simp only
          rw [evOp_def, hr]
        · have e1 : obOp1 P call F M o = obOp P F M o := by unfold obOp1; rw [ho]
          rw [e1]
          unfold obOp
          rw [hr]
          unfold obRead
          rw [ho]
          intro b e; cases e
      cases b with
      | true =>
        obtain ⟨v, M', hv, hk⟩ := gotK_ok h
        cases hx : evX F x with
        | none => simp [hx] at hv
        | some u =>
          simp [hx] at hv
          obtain ⟨rfl, rfl⟩ := hv
          exact fin u (key u (fun _ => hx) (fun e => by cases e)) hk
      | false =>
        obtain ⟨v, M', hv, hk⟩ := gotK_ok h
        cases hx : evX F y with
        | none => simp [hx] at hv
        | some u =>
          simp [hx] at hv
          obtain ⟨rfl, rfl⟩ := hv
          exact fin u (key u (fun e => by cases e) (fun _ => hx)) hk
    · exact h.elim
  · rename_i hne
    obtain ⟨h1, d', h2⟩ := owedK_ok h
    obtain ⟨v, M', h3, h4⟩ := gotK_ok h2
    exact ⟨v, M', d', h3, h1, h4, fun c x y e => absurd e (hne c x y)⟩

/-- is an operation wanted: that is asked, if it hangs on something -/
noncomputable def refG (ops : Array Oper) (F : Fr) (j : Nat) (want r : Bool) : Fr := match ops[j]? with
  | some oj => match oj.dst with
    | some t => match nth F t with
      | some (some (.lit (.bool _))) => setN F t (some (.lit (.bool (eqB r want))))
      | _ => F
    | none => F
  | none => F
theorem set_same {α : Type} {l : List α} {t : Nat} {x : α} (h : l[t]? = some x) : l.set t x = l := by
  apply List.ext_getElem?
  intro i
  rw [List.getElem?_set]
  by_cases e : t = i
  · subst e
    rw [if_pos rfl, if_pos (List.getElem?_eq_some_iff.1 h).1, h]
  · rw [if_neg e]
theorem refG_eq {ops : Array Oper} {F : Fr} {o : Oper} {j : Nat} {want b : Bool} (hg : o.guard = some (j, want)) (h : wantedA ops F o = some b) : refG ops F j want b = F := by
  unfold refG
  unfold wantedA at h
  rw [hg] at h
  simp only [nth_eq, setN_eq] at h ⊢
  split
  · rename_i oj hj
    simp only [hj] at h
    split
    · rename_i t ht
      simp only [ht] at h
      split
      · rename_i c hc
        simp only [hc, Option.some.injEq] at h
        refine set_same ?_
        rw [hc, ← h]
        cases c <;> cases want <;> rfl
      · rfl
    · rfl
  · rfl
noncomputable def wantK {β : Type} (ops : Array Oper) (F : Fr) (o : Oper) (d : D) (k : Bool → Fr → D → Tr β) : Tr β := match o.guard with
  | none => k true F d
  | some jw => match wantedA ops F o with
    | some b => ask d b fun r d' => k r (refG ops F jw.1 jw.2 r) d'
    | none => .bad 4
theorem wantK_ok {β : Type} {G : β → Prop} {ops : Array Oper} {F : Fr} {o : Oper} {d : D} {k : Bool → Fr → D → Tr β} (h : (wantK ops F o d k).Ok G) : ∃ b d', wantedA ops F o = some b ∧ (k b F d').Ok G := by
  unfold wantK at h
  split at h
  · rename_i hg
    exact ⟨true, d, by unfold wantedA; rw [hg], h⟩
  · rename_i jw hg
    split at h
    · rename_i b hb
      obtain ⟨d', h⟩ := ask_ok h
      rw [refG_eq hg hb] at h
      exact ⟨b, d', hb, h⟩
    · exact h.elim
noncomputable def refX (F : Fr) (c : Operand) (r : Bool) : Fr := match c with
  | .tmp t => match nth F t with
    | some (some (.lit (.bool _))) => setN F t (some (.lit (.bool r)))
    | _ => F
  | _ => F
theorem refX_eq {F : Fr} {c : Operand} {b : Bool} (h : litX F c = some (.bool b)) : refX F c b = F := by
  unfold refX
  split
  · rename_i t
    rw [litX_def, evX_tmp] at h
    simp only [nth_eq, setN_eq]
    split
    · rename_i x hx
      simp [hx, toVal] at h
      exact set_same (by rw [hx, h])
    · rfl
  · rfl

/-! ### Regions that draw their order -/
noncomputable def seqK {β : Type} (P : Program) (call : CallT) (ops : Array Oper) : List Oper → Fr → Mem → D → (List (AV × Mem) → D → Tr β) → Tr β
  | [], _, _, d, k => k [] d
  | o :: rest, F, M, d, k => wantK ops F o d fun b F d1 => match b with
    | true => stepK P call F M d1 o fun v M' d2 => match isLoad o && isTup v with
      | true => .bad 17
      | false => seqK P call ops rest (putF F o.dst (some v)) M' d2 fun es d3 => k ((v, M') :: es) d3
    | false => seqK P call ops rest (putF F o.dst (some off)) M d1 fun es d3 => k ((off, M) :: es) d3
theorem seqK_ok {β : Type} {G : β → Prop} {P : Program} {call : CallT} {ops : Array Oper} : ∀ (l : List Oper) (F : Fr) (M : Mem) (d : D) (k : List (AV × Mem) → D → Tr β), (∀ o ∈ l, isEff o = false → ∀ v M', evOp1 P call F M o = some (v, M') → True) → (seqK P call ops l F M d k).Ok G →
    ∃ es d', evSeq P call ops l F M = some es ∧ (∀ x ∈ obSeq P call ops l es F M, x = true) ∧ (k es d').Ok G
  | [], F, M, d, k, _, h => ⟨[], d, rfl, (fun x hx => by simp [obSeq] at hx), h⟩
  | o :: rest, F, M, d, k, _, h => by
    simp only [seqK] at h
    obtain ⟨b, d1, hw, h⟩ := wantK_ok h
    cases b with
    | true =>
      obtain ⟨v, M', d2, he, hob, h, hpick⟩ := stepK_ok h
      cases hnt : (isLoad o && isTup v) with
      | true => rw [hnt] at h; exact h.elim
      | false =>
      rw [hnt] at h
      obtain ⟨es, d3, h1, h2, h3⟩ := seqK_ok rest _ _ _ _ (fun _ _ _ _ _ _ => trivial) h
      have obs : ∀ x ∈ obSeq P call ops (o :: rest) ((v, M') :: es) F M, x = true := by
        simp only [obSeq, hw]
        cases hb : obOp1 P call F M o with
        | none => exact h2
        | some y =>
          intro x hx
          simp only [obCons, List.mem_cons] at hx
          rcases hx with rfl | hx
          · exact hob _ hb
          · exact h2 x hx
      cases hE : isEff o with
      | true => exact ⟨(v, M') :: es, d3, by simp only [evSeq, hw, hE, he, h1], obs, h3⟩
      | false =>
        have hr : evRead P F M o = some v ∧ M' = M := by
          cases hrd : evRead P F M o with
          | some u =>
            unfold evOp1 at he
            split at he
            · rename_i c ho
              split at he
              · rename_i f args hc
                exfalso
                simp only [isEff, ho] at hE
                unfold calleeA at hc
                split at hc
                · rename_i x hcx; rw [hcx] at hE; cases hE
                · cases hc
              · rw [evOp_def, hrd] at he; simp at he; exact ⟨by rw [he.1], he.2.symm⟩
            · rw [evOp_def, hrd] at he; simp at he; exact ⟨by rw [he.1], he.2.symm⟩
          | none =>
            exfalso
            have heff : evEff P F M o = some (v, M') := by
              unfold evOp1 at he
              split at he
              · rename_i c ho
                split at he
                · rename_i f args hc
                  exfalso
                  simp only [isEff, ho] at hE
                  unfold calleeA at hc
                  split at hc
                  · rename_i x hcx; rw [hcx] at hE; cases hE
                  · cases hc
                · rw [evOp_def, hrd] at he; exact he
              · rw [evOp_def, hrd] at he; exact he
            unfold evEff at heff
            unfold isEff at hE
            cases ho : o.op <;> simp only [ho] at heff hE <;> try (first | (cases heff; done) | (cases hE; done))
            rename_i c
            unfold eAppend at heff
            split at heff
            · rename_i hc; rw [hc] at hE; cases hE
            · cases heff
        obtain ⟨hr, rfl⟩ := hr
        exact ⟨(v, M') :: es, d3, by simp only [evSeq, hw, hE, hr, h1, hnt], obs, h3⟩
    | false =>
      obtain ⟨es, d3, h1, h2, h3⟩ := seqK_ok rest _ _ _ _ (fun _ _ _ _ _ _ => trivial) h
      refine ⟨(off, M) :: es, d3, by simp only [evSeq, hw, h1], ?_, h3⟩
      simp only [obSeq, hw]
      exact h2
noncomputable def drawK {β : Type} (P : Program) (call : CallT) (ops : Array Oper) (F : Fr) (M : Mem) (d : D) (k : Fr → Mem → D → Tr β) : Tr β := match stat P ops with
  | true => seqK P call ops ops.toList F M d fun es d' => match loadsOk P ops es F M with
    | true => k (frAt ops.toList es F ops.size) (memAt es M ops.size) d'
    | false => .bad 5
  | false => .bad 6

/-! ### Regions -/
abbrev Inl (β : Type) := FuncId → List AV → Mem → D → (AV → Mem → D → Tr β) → Tr β
noncomputable def opK {β : Type} (P : Program) (call : CallT) (inl : Inl β) (F : Fr) (M : Mem) (d : D) (o : Oper) (k : AV → Mem → D → Tr β) : Tr β := match o.op with
  | .call c => match calleeA F c with
    | some (f, args) => match call.has f args M with
      | true => plainK P call F M d o k
      | false => match P.funcs[f]? with
        | some fn => match fn.body.isSome with
          | true => inl f args M d k
          | false => .bad 7
        | none => .bad 8
    | none => plainK P call F M d o k
  | _ => stepK P call F M d o k
noncomputable def opsK {β : Type} (P : Program) (call : CallT) (inl : Inl β) (ops : Array Oper) : List Oper → Fr → Mem → D → (Fr → Mem → D → Tr β) → Tr β
  | [], F, M, d, k => k F M d
  | o :: rest, F, M, d, k => wantK ops F o d fun b F d1 => match b with
    | true => opK P call inl F M d1 o fun v M' d2 => opsK P call inl ops rest (putF F o.dst (some v)) M' d2 k
    | false => opsK P call inl ops rest (putF F o.dst (some (.lit undef))) M d1 k

def InlOk {β : Type} (P : Program) (inl : Inl β) : Prop := ∀ f args M d k (G : β → Prop), (inl f args M d k).Ok G → CallTo P f args M fun v M' => ∃ d', (k v M' d').Ok G

theorem opK_sound {β : Type} {G : β → Prop} {P : Program} (hP : Plainly P) {call : CallT} (hcall : CallOk P call) {inl : Inl β} (hinl : InlOk P inl) {w0 : World} {ρ : Rho} {F : Fr} {M : Mem} {w : World} {a : Act} {d : D} {o : Oper} {k : AV → Mem → D → Tr β}
    (hF : FR ρ F a) (hW : WR w0 ρ M w) (h : (opK P call inl F M d o k).Ok G) {K : Act → World → Prop} {Q : Exit → Act → World → Prop} (hK : ∀ v M' d' ρ' u w', (k v M' d').Ok G → Ext ρ ρ' → rel ρ' v u → WR w0 ρ' M' w' → K (a.put o.dst u) w') : o.wp P a w K Q := by
  have plain : (plainK P call F M d o k).Ok G → o.wp P a w K Q := fun h => by
    obtain ⟨h1, d', h2⟩ := owedK_ok h
    obtain ⟨v, M', h3, h4⟩ := gotK_ok h2
    exact evOp1_sound hP hcall hF hW h3 h1 fun ρ' u w' q1 q2 q3 => hK v M' d' ρ' u w' h4 q1 q2 q3
  have step : (stepK P call F M d o k).Ok G → o.wp P a w K Q := fun h => by
    obtain ⟨v, M', d', h3, h1, h4, _⟩ := stepK_ok h
    exact evOp1_sound hP hcall hF hW h3 h1 fun ρ' u w' q1 q2 q3 => hK v M' d' ρ' u w' h4 q1 q2 q3
  unfold opK at h
  split at h
  · rename_i c ho
    split at h
    · rename_i f args hc
      split at h
      · exact plain h
      · split at h
        · rename_i fn hf
          split at h
          · rename_i hb
            obtain ⟨us, h1, h2⟩ := calleeA_sound hF hc P hf hb (hP f fn hf) o.type w
            have h3 := hinl f args M d k G h w0 ρ us w h1 hW
            unfold Oper.wp execOp
            simp only [ho]
            rw [h2]
            simp only [Oper.upon_enter]
            refine h3.mono ?_
            rintro e w' ⟨ρ', u, v, M', rfl, q1, q2, q3, d', q4⟩
            exact hK v M' d' ρ' u w' q4 q1 q2 q3
          · exact h.elim
        · exact h.elim
    · exact plain h
  · exact step h

theorem opsK_sound {β : Type} {G : β → Prop} {P : Program} (hP : Plainly P) {call : CallT} (hcall : CallOk P call) {inl : Inl β} (hinl : InlOk P inl) {w0 : World} (ops : Array Oper) : ∀ (l : List Oper) {ρ : Rho} {F : Fr} {M : Mem} {w : World} {a : Act} {d : D} {k : Fr → Mem → D → Tr β},
    FR ρ F a → WR w0 ρ M w → (opsK P call inl ops l F M d k).Ok G → ∀ {Q : Exit → Act → World → Prop}, (∀ F' M' d' ρ' a' w', (k F' M' d').Ok G → Ext ρ ρ' → FR ρ' F' a' → WR w0 ρ' M' w' → Q .normal a' w') → wpList P ops Q l a w
  | [], ρ, F, M, w, a, d, k, hF, hW, h, Q, hQ => hQ F M d ρ a w h (Ext.refl _) hF hW
  | o :: rest, ρ, F, M, w, a, d, k, hF, hW, h, Q, hQ => by
    simp only [opsK] at h
    refine wpList_step fun K hK => ?_
    obtain ⟨b, d1, hw, h⟩ := wantK_ok h
    rw [wantedA_sound hF hw]
    cases b with
    | true =>
      rw [if_pos rfl]
      exact opK_sound hP hcall hinl hF hW h fun v M' d' ρ' u w' h0 h1 h2 h3 => hK _ _ (opsK_sound hP hcall hinl ops rest ((hF.ext h1).put o.dst h2) h3 h0 fun F2 M2 d2 ρ2 a2 w2 q0 q1 q2 q3 => hQ F2 M2 d2 ρ2 a2 w2 q0 (h1.trans q1) q2 q3)
    | false =>
      simp only [Bool.false_eq_true, if_false]
      exact hK _ _ (opsK_sound hP hcall hinl ops rest (hF.put o.dst (by simp [rel])) hW h hQ)

theorem drawK_sound {β : Type} {G : β → Prop} {P : Program} (hP : Plainly P) (hm : P.follows .mixedOrders = true) {call : CallT} (hcall : CallOk P call) {w0 : World} {ops : Array Oper} {ρ : Rho} {F : Fr} {M : Mem} {w : World} {a : Act} {d : D} {k : Fr → Mem → D → Tr β}
    (hF : FR ρ F a) (hW : WR w0 ρ M w) (h : (drawK P call ops F M d k).Ok G) {id : Nat} {Q : Exit → Act → World → Prop} (hQ : ∀ F' M' d' ρ' a' w', (k F' M' d').Ok G → Ext ρ ρ' → FR ρ' F' a' → WR w0 ρ' M' w' → Q .normal a' w') : (Code.region id ops true).wp P Q a w := by
  unfold drawK at h
  split at h
  · rename_i hst
    obtain ⟨es, d', h1, h2, h3⟩ := seqK_ok _ _ _ _ _ (fun _ _ _ _ _ _ => trivial) h
    split at h3
    · rename_i hL
      exact evDraw_sound hP hm hcall hF hW (F' := frAt ops.toList es F ops.size) (M' := memAt es M ops.size) (obs := obSeq P call ops ops.toList es F M) (by unfold evDraw; rw [if_pos hst, h1]; simp only; rw [if_pos hL]) h2 fun ρ' a' w' q1 q2 q3 => hQ _ _ d' ρ' a' w' h3 q1 q2 q3
    · exact h3.elim
  · exact h.elim

/-! ### Code -/
inductive Ex where
  | norm
  | exit (id : Nat)
  | ret
def Ex.to : Ex → Exit
  | .norm => .normal
  | .exit id => .exit id
  | .ret => .ret

/-- a name for a loop: its first region's -/
def codeId : Code → Nat
  | .region id _ _ => id + 1
  | .seq a b => match codeId a with | 0 => codeId b | n + 1 => n + 1
  | .cond _ a b => match codeId a with | 0 => codeId b | n + 1 => n + 1
  | .block _ b => codeId b
  | .scope b => codeId b
  | .loop b => codeId b + 100000
  | _ => 0
abbrev Summ := Fr → Mem → Tr (Ex × Fr × Mem)

noncomputable def loopK {β : Type} (f : Fr → Mem → D → (Ex → Fr → Mem → D → Tr β) → Tr β) : Nat → Fr → Mem → D → (Ex → Fr → Mem → D → Tr β) → Tr β
  | 0, _, _, _, _ => .bad 9
  | n + 1, F, M, d, k => f F M d fun ex F' M' d' => match ex with
    | .norm => loopK f n F' M' d' k
    | .exit id => k (.exit id) F' M' d'
    | .ret => k .ret F' M' d'
noncomputable def codeK {β : Type} (P : Program) (call : CallT) (inl : Inl β) (lp : Nat → Option Summ) (n : Nat) : Code → Fr → Mem → D → (Ex → Fr → Mem → D → Tr β) → Tr β
  | .skip, F, M, d, k => k .norm F M d
  | .label _, F, M, d, k => k .norm F M d
  | .region _ ops draw, F, M, d, k => match draw with
    | true => drawK P call ops F M d fun F' M' d' => k .norm F' M' d'
    | false => opsK P call inl ops ops.toList F M d fun F' M' d' => k .norm F' M' d'
  | .seq a b, F, M, d, k => codeK P call inl lp n a F M d fun ex F' M' d' => match ex with
    | .norm => codeK P call inl lp n b F' M' d' k
    | .exit id => k (.exit id) F' M' d'
    | .ret => k .ret F' M' d'
  | .cond c t e, F, M, d, k => match litX F c with
    | some (.bool b) => ask d b fun r d' => match r with
      | true => codeK P call inl lp n t (refX F c true) M d' k
      | false => codeK P call inl lp n e (refX F c false) M d' k
    | _ => .bad 10
  | .block id body, F, M, d, k => codeK P call inl lp n body F M d fun ex F' M' d' => match ex with
    | .norm => k .norm F' M' d'
    | .exit id' => if id' = id then k .norm F' M' d' else k (.exit id') F' M' d'
    | .ret => k .ret F' M' d'
  | .loop body, F, M, d, k => match lp (codeId body) with
    | some S => bindT (S F M) d fun r d' => k r.1 r.2.1 r.2.2 d'
    | none => loopK (codeK P call inl lp n body) n F M d k
  | .scope body, F, M, d, k => codeK P call inl lp n body F M d k
  | .exit id, F, M, d, k => k (.exit id) F M d
  | .ret, F, M, d, k => k .ret F M d
  | _, _, _, _, _ => .bad 11

/-- what a piece of code does from a frame and a memory on -/
def CodeTo (P : Program) (c : Code) (F : Fr) (M : Mem) (G : Ex → Fr → Mem → Prop) : Prop := ∀ w0 ρ a w (Q : Exit → Act → World → Prop), FR ρ F a → WR w0 ρ M w →
  (∀ ex F' M' ρ' a' w', G ex F' M' → Ext ρ ρ' → FR ρ' F' a' → WR w0 ρ' M' w' → Q ex.to a' w') → c.wp P Q a w
/-- what a loop does, in so many rounds at most -/
def LoopTo (P : Program) (body : Code) (n : Nat) (F : Fr) (M : Mem) (G : Ex → Fr → Mem → Prop) : Prop := ∀ w0 ρ a w (Q : Exit → Act → World → Prop), FR ρ F a → WR w0 ρ M w →
  (∀ ex F' M' ρ' a' w', G ex F' M' → Ext ρ ρ' → FR ρ' F' a' → WR w0 ρ' M' w' → Q ex.to a' w') → Code.rounds P body Q n a w
def Sums (P : Program) (body : Code) (S : Summ) : Prop := ∀ F M (H : Ex × Fr × Mem → Prop), (S F M).Ok H → ∃ n, LoopTo P body n F M fun ex F' M' => H (ex, F', M')
def LoopsOk (P : Program) (lp : Nat → Option Summ) : Code → Prop
  | .seq a b => LoopsOk P lp a ∧ LoopsOk P lp b
  | .cond _ a b => LoopsOk P lp a ∧ LoopsOk P lp b
  | .block _ b => LoopsOk P lp b
  | .scope b => LoopsOk P lp b
  | .loop b => match lp (codeId b) with
    | some S => Sums P b S
    | none => LoopsOk P lp b
  | _ => True

theorem codeK_sound {β : Type} {G : β → Prop} {P : Program} (hP : Plainly P) (hm : P.follows .mixedOrders = true) {call : CallT} (hcall : CallOk P call) {inl : Inl β} (hinl : InlOk P inl) {lp : Nat → Option Summ} (n : Nat) {w0 : World} : ∀ (c : Code) (hlp : LoopsOk P lp c) {ρ : Rho} {F : Fr} {M : Mem} {w : World} {a : Act} {d : D} {k : Ex → Fr → Mem → D → Tr β}, FR ρ F a → WR w0 ρ M w →
    (codeK P call inl lp n c F M d k).Ok G → ∀ {Q : Exit → Act → World → Prop}, (∀ ex F' M' d' ρ' a' w', (k ex F' M' d').Ok G → Ext ρ ρ' → FR ρ' F' a' → WR w0 ρ' M' w' → Q ex.to a' w') → c.wp P Q a w := by
  intro c
  induction c with
  | skip => intro hlp ρ F M w a d k hF hW h Q hQ; exact wp_skip (hQ .norm F M d ρ a w h (Ext.refl _) hF hW)
  | label l => intro hlp ρ F M w a d k hF hW h Q hQ; exact wp_label (hQ .norm F M d ρ a w h (Ext.refl _) hF hW)
  | exit id => intro hlp ρ F M w a d k hF hW h Q hQ; exact wp_exit (hQ (.exit id) F M d ρ a w h (Ext.refl _) hF hW)
  | ret => intro hlp ρ F M w a d k hF hW h Q hQ; exact wp_ret (hQ .ret F M d ρ a w h (Ext.refl _) hF hW)
  | region id ops draw =>
    intro hlp ρ F M w a d k hF hW h Q hQ
    cases draw with
    | true => exact drawK_sound hP hm hcall hF hW h fun F' M' d' ρ' a' w' q0 q1 q2 q3 => hQ .norm F' M' d' ρ' a' w' q0 q1 q2 q3
    | false => exact wp_region_list (opsK_sound hP hcall hinl ops ops.toList hF hW h fun F' M' d' ρ' a' w' q0 q1 q2 q3 => hQ .norm F' M' d' ρ' a' w' q0 q1 q2 q3)
  | seq x y ihx ihy =>
    intro hlp ρ F M w a d k hF hW h Q hQ
    refine wp_seq (ihx hlp.1 hF hW h fun ex F' M' d' ρ' a' w' h0 h1 h2 h3 => ?_)
    cases ex with
    | norm => exact ihy hlp.2 h2 h3 h0 fun ex2 F2 M2 d2 ρ2 a2 w2 q0 q1 q2 q3 => hQ ex2 F2 M2 d2 ρ2 a2 w2 q0 (h1.trans q1) q2 q3
    | exit id => exact hQ (.exit id) F' M' d' ρ' a' w' h0 h1 h2 h3
    | ret => exact hQ .ret F' M' d' ρ' a' w' h0 h1 h2 h3
  | cond c t e iht ihe =>
    intro hlp ρ F M w a d k hF hW h Q hQ
    simp only [codeK] at h
    split at h
    · rename_i b hc
      obtain ⟨d', h⟩ := ask_ok h
      cases b with
      | true => rw [refX_eq hc] at h; exact wp_cond_true (litX_sound hF hc) (iht hlp.1 hF hW h hQ)
      | false => rw [refX_eq hc] at h; exact wp_cond_false (litX_sound hF hc) (ihe hlp.2 hF hW h hQ)
    · exact h.elim
  | block id body ih =>
    intro hlp ρ F M w a d k hF hW h Q hQ
    refine wp_block (ih hlp hF hW h fun ex F' M' d' ρ' a' w' h0 h1 h2 h3 => ?_)
    cases ex with
    | norm => exact hQ .norm F' M' d' ρ' a' w' h0 h1 h2 h3
    | exit id' =>
      simp only at h0
      by_cases hid : id' = id
      · rw [if_pos hid] at h0
        simp only [Ex.to, Exit.inBlock, hid, if_true]
        exact hQ .norm F' M' d' ρ' a' w' h0 h1 h2 h3
      · rw [if_neg hid] at h0
        simp only [Ex.to, Exit.inBlock, hid, if_false]
        exact hQ (.exit id') F' M' d' ρ' a' w' h0 h1 h2 h3
    | ret => exact hQ .ret F' M' d' ρ' a' w' h0 h1 h2 h3
  | loop body ih =>
    intro hlp ρ F M w a d k hF hW h Q hQ
    simp only [codeK] at h
    simp only [LoopsOk] at hlp
    cases hl : lp (codeId body) with
    | some S =>
      simp only [hl] at h hlp
      obtain ⟨m, hm'⟩ := hlp F M _ (bindT_ok h)
      refine wp_loop_rounds m (hm' w0 ρ a w Q hF hW fun ex F' M' ρ' a' w' hg q1 q2 q3 => ?_)
      obtain ⟨d', hg⟩ := hg
      exact hQ ex F' M' d' ρ' a' w' hg q1 q2 q3
    | none =>
      simp only [hl] at h hlp
      have key : ∀ (m : Nat) {ρ : Rho} {F : Fr} {M : Mem} {w : World} {a : Act} {d : D}, FR ρ F a → WR w0 ρ M w → (loopK (codeK P call inl lp n body) m F M d k).Ok G →
          (∀ ex F' M' d' ρ' a' w', (k ex F' M' d').Ok G → Ext ρ ρ' → FR ρ' F' a' → WR w0 ρ' M' w' → Q ex.to a' w') → Code.rounds P body Q m a w := by
        intro m
        induction m with
        | zero => intro ρ F M w a d _ _ h; exact h.elim
        | succ m ihm =>
          intro ρ F M w a d hF hW h hQ
          rw [rounds_succ]
          refine ih hlp hF hW h fun ex F' M' d' ρ' a' w' h0 h1 h2 h3 => ?_
          cases ex with
          | norm => exact ihm h2 h3 h0 fun ex2 F2 M2 d2 ρ2 a2 w2 q0 q1 q2 q3 => hQ ex2 F2 M2 d2 ρ2 a2 w2 q0 (h1.trans q1) q2 q3
          | exit id => exact hQ (.exit id) F' M' d' ρ' a' w' h0 h1 h2 h3
          | ret => exact hQ .ret F' M' d' ρ' a' w' h0 h1 h2 h3
      exact wp_loop_rounds n (key n hF hW h hQ)
  | scope body ih =>
    intro hlp ρ F M w a d k hF hW h Q hQ
    exact wp_scope_straight (ih hlp hF hW h fun ex F' M' d' ρ' a' w' h0 h1 h2 h3 => by cases ex <;> exact hQ _ F' M' d' ρ' a' w' h0 h1 h2 h3)
  | _ => intro hlp ρ F M w a d k hF hW h; exact h.elim

/-! ### Calls -/
noncomputable def resA (P : Program) (F : Fr) (M : Mem) : ResultVar → Option AV
  | .tmp t => match F[t]? with | some (some v) => some v | _ => none
  | .cell x t => match F[x]? with | some (some v) => match obLoad M v with | none => evLoad P M t v | some _ => none
                                  | _ => none
noncomputable def ressA (P : Program) (F : Fr) (M : Mem) : List ResultVar → Option (List AV)
  | [] => some []
  | r :: rs => match resA P F M r, ressA P F M rs with | some v, some l => some (v :: l) | _, _ => none
noncomputable def resultsA (P : Program) (F : Fr) (M : Mem) (fn : Func) : Option AV := match ressA P F M fn.results.toList with
  | some [v] => some v
  | some l => some (.tup l)
  | none => none
def resS (tmps : Array Value) : ResultVar → Sem Value
  | .tmp t => pure (tmps.getD t undef)
  | .cell x t => do loadVar t (← asAddr (tmps.getD x undef))
theorem results_eq (fn : Func) (tmps : Array Value) : results fn tmps = (do let vs ← fn.results.mapM (resS tmps); pure (if h : vs.size = 1 then vs[0] else .tuple vs)) := by
  unfold results
  congr 1
theorem resA_sound {P : Program} {w0 : World} {ρ : Rho} {M : Mem} {w : World} {F : Fr} {a : Act} (hF : FR ρ F a) (hW : WR w0 ρ M w) {r : ResultVar} {v : AV} (he : resA P F M r = some v) :
    ∃ u, rel ρ v u ∧ (resS a.tmps r).run P w = .ok u w := by
  cases r with
  | tmp t =>
    simp only [resA] at he
    split at he
    · rename_i heq
      simp at he; subst he
      exact ⟨_, hF.val _ _ heq, rfl⟩
    · cases he
  | cell x t =>
    simp only [resA] at he
    split at he
    · rename_i v' heq
      split at he
      · rename_i hob
        obtain ⟨g, o, e, u, h1, h2⟩ := evLoad_sound hW (hF.val _ _ heq) he (fun b hb => by rw [hob] at hb; cases hb)
        exact ⟨u, h1, by simp only [resS, e, asAddr, Sem.run_bind, Sem.run_pure, Result.andThen_ok, h2 w rfl]⟩
      · cases he
    · cases he
theorem ressA_sound {P : Program} {w0 : World} {ρ : Rho} {M : Mem} {w : World} {F : Fr} {a : Act} (hF : FR ρ F a) (hW : WR w0 ρ M w) : ∀ (rs : List ResultVar) (l : List AV), ressA P F M rs = some l →
    ∃ us : List Value, rels ρ l us ∧ (rs.mapM (resS a.tmps)).run P w = .ok us w
  | [], l, he => by simp [ressA] at he; subst he; exact ⟨[], by simp [rels], by simp⟩
  | r :: rs, l, he => by
    simp only [ressA] at he
    cases hr : resA P F M r with
    | none => simp [hr] at he
    | some v =>
      cases hrs : ressA P F M rs with
      | none => simp [hr, hrs] at he
      | some l' =>
        simp [hr, hrs] at he; subst he
        obtain ⟨u, h1, h2⟩ := resA_sound hF hW hr
        obtain ⟨us, h3, h4⟩ := ressA_sound hF hW rs l' hrs
        refine ⟨u :: us, by simp only [rels]; exact ⟨u, us, rfl, h1, h3⟩, ?_⟩
        simp only [List.mapM_cons, Sem.run_bind, h2, Result.andThen_ok, h4]
        rfl
theorem resultsA_sound {P : Program} {w0 : World} {ρ : Rho} {M : Mem} {w : World} {F : Fr} {a : Act} (hF : FR ρ F a) (hW : WR w0 ρ M w) {fn : Func} {v : AV} (he : resultsA P F M fn = some v) :
    ∃ u, rel ρ v u ∧ (results fn a.tmps).run P w = .ok u w := by
  unfold resultsA at he
  rw [results_eq, Array.mapM_eq_mapM_toList]
  split at he
  · rename_i v' hr
    simp at he; subst he
    obtain ⟨us, h1, h2⟩ := ressA_sound hF hW _ _ hr
    have hl := h1.len
    match us, h1, h2, hl with
    | [u], h1, h2, _ =>
      simp only [rels] at h1
      obtain ⟨y, ys, e, h3, _⟩ := h1
      simp at e
      obtain ⟨rfl, rfl⟩ := e
      refine ⟨u, h3, ?_⟩
      simp only [Sem.run_bind, Sem.run_map, h2, Result.andThen_ok]
      rfl
  · rename_i l hne hr
    simp at he; subst he
    obtain ⟨us, h1, h2⟩ := ressA_sound hF hW _ _ hr
    have hl := h1.len
    refine ⟨.tuple us.toArray, by simp only [rel]; exact ⟨us, rfl, h1⟩, ?_⟩
    have hne1 : us.length ≠ 1 := fun e => by
      match l, hl, hne with
      | [], hl, _ => simp at hl; omega
      | [v], _, hne => exact hne v rfl
      | _ :: _ :: _, hl, _ => simp at hl; omega
    simp only [Sem.run_bind, Sem.run_map, h2, Result.andThen_ok]
    simp [hne1]
  · cases he

def frame (args : List AV) (n : Nat) : Fr := args.map some ++ List.replicate (n - args.length) (some (.lit undef))
theorem frame_start {ρ : Rho} {args : List AV} {us : List Value} (h : rels ρ args us) (n : Nat) : FR ρ (frame args n) { tmps := us.toArray ++ Array.replicate (n - us.toArray.size) undef, defers := [] } := by
  have hl := h.len
  refine ⟨by simp [frame, hl], fun t v hv => ?_, rfl⟩
  unfold frame at hv
  rw [List.getElem?_append] at hv
  simp only [List.length_map] at hv
  rw [Array.getD_eq_getD_getElem?, Array.getElem?_append]
  simp only [List.size_toArray]
  by_cases ht : t < args.length
  · rw [if_pos ht] at hv
    rw [if_pos (by omega)]
    simp at hv
    obtain ⟨y, h1, h2⟩ := h.get t v hv
    simp [h1]; exact h2
  · rw [if_neg ht] at hv
    rw [if_neg (by omega)]
    rw [List.getElem?_replicate] at hv
    split at hv
    · simp at hv; subst hv
      rw [Array.getElem?_replicate]
      simp only [rel]
      split <;> rfl
    · cases hv

noncomputable def endK {β : Type} (r : Option AV) (k : AV → Tr β) : Tr β := Option.rec (motive := fun _ => Tr β) (.bad 12) k r
/-- calls, walked into -/
noncomputable def callK {β : Type} (P : Program) (call : CallT) (lp : FuncId → Nat → Option Summ) (n : Nat) : Nat → Inl β
  | 0 => fun _ _ _ _ _ => .bad 13
  | m + 1 => fun f args M d k => match P.funcs[f]? with
    | some fn => match fn.body with
      | some c => codeK P call (callK P call lp n m) (lp f) n c (frame args fn.ntmps) M d fun ex F' M' d' => match ex with
        | .norm => endK (resultsA P F' M' fn) fun v => k v M' d'
        | .ret => endK (resultsA P F' M' fn) fun v => k v M' d'
        | .exit _ => .bad 14
      | none => .bad 15
    | none => .bad 16
def AllLoops (P : Program) (lp : FuncId → Nat → Option Summ) : Prop := ∀ (f : FuncId) fn c, P.funcs[f]? = some fn → fn.body = some c → LoopsOk P (lp f) c
theorem callK_ok {β : Type} {P : Program} (hP : Plainly P) (hm : P.follows .mixedOrders = true) {call : CallT} (hcall : CallOk P call) {lp : FuncId → Nat → Option Summ} (hlp : AllLoops P lp) (n : Nat) : ∀ m, InlOk (β := β) P (callK P call lp n m)
  | 0 => fun f args M d k G h => h.elim
  | m + 1 => fun f args M d k G h w0 ρ us w hr hW => by
    simp only [callK] at h
    cases hf : P.funcs[f]? with
    | none => simp only [hf] at h; exact h.elim
    | some fn =>
      cases hb : fn.body with
      | none => simp only [hf, hb] at h; exact h.elim
      | some c =>
        simp only [hf, hb] at h
        refine calls_of_wp hf hb (codeK_sound hP hm hcall (callK_ok hP hm hcall hlp n m) n c (hlp f fn c hf hb) (frame_start hr fn.ntmps) hW h fun ex F' M' d' ρ' a' w' h0 h1 h2 h3 => ?_)
        have fin : (endK (resultsA P F' M' fn) fun v => k v M' d').Ok G → ∃ v u, rel ρ' v u ∧ (results fn a'.tmps).run P w' = .ok u w' ∧ (k v M' d').Ok G := fun h0 => by
          cases hres : resultsA P F' M' fn with
          | none => rw [hres] at h0; exact h0.elim
          | some v =>
            rw [hres] at h0
            obtain ⟨u, q1, q2⟩ := resultsA_sound h2 h3 hres
            exact ⟨v, u, q1, q2, h0⟩
        cases ex with
        | norm =>
          obtain ⟨v, u, q1, q2, q3⟩ := fin h0
          exact bodyPost_end q2 h2.defers ⟨ρ', u, v, M', rfl, h1, q1, h3, d', q3⟩
        | ret =>
          obtain ⟨v, u, q1, q2, q3⟩ := fin h0
          exact bodyPost_ret q2 h2.defers ⟨ρ', u, v, M', rfl, h1, q1, h3, d', q3⟩
        | exit id => exact h0.elim

end Go.Proofs.YtmlhipckgmbpfaaGreat.Sy
