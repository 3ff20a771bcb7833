/-
  The symbolic interpreter, part 7: operations, regions, code, calls.
-/
import Derived.Test.YtmlhipckgmbpfaaGreatSy65
import Derived.Deep.Quiet
namespace Go.Proofs.YtmlhipckgmbpfaaGreat.Sy
open Go Go.RowKit
set_option linter.unusedVariables false

noncomputable def eAlloc (P : Program) (M : Mem) (t : TypeId) : Option (AV × Mem) := obind (zeroA P t) fun z => some (.ptr M.top 0, M.push ⟨cellsA (.lit z), t, none⟩)
noncomputable def eBox (F : Fr) (M : Mem) (t : TypeId) (x : Operand) : Option (AV × Mem) := obind (evX F x) fun v => some (.ptr M.top 0, M.push ⟨cellsA v, t, none⟩)
noncomputable def eSlice (P : Program) (F : Fr) (M : Mem) (t : TypeId) (len : Nat) (ps : Array (Nat × Operand)) : Option (AV × Mem) := obind (partsX F ps.toList) fun l => evBuildSlice P M t len l
/-! ### Stores into a row of a block of rows -/
/-- cells, some of one row's anew -/
noncomputable def setc (i o : Nat) (cs : List AV) (c : Nat → Nat → AV) : Nat → Nat → AV := fun i' j' => match Nat.beq i' i && (Nat.ble o j' && Nat.blt j' (o + cs.length)) with | true => getA cs (j' - o) | false => c i' j'
theorem setc_in {i o : Nat} {cs : List AV} {c : Nat → Nat → AV} {j : Nat} (h : o ≤ j ∧ j < o + cs.length) : setc i o cs c i j = getA cs (j - o) := by
  unfold setc
  have : (Nat.beq i i && (Nat.ble o j && Nat.blt j (o + cs.length))) = true := by simp [Nat.blt_eq, h.1, h.2]
  rw [this]
theorem setc_out {i o : Nat} {cs : List AV} {c : Nat → Nat → AV} {i' j : Nat} (h : ¬ (i' = i ∧ o ≤ j ∧ j < o + cs.length)) : setc i o cs c i' j = c i' j := by
  unfold setc
  have : (Nat.beq i' i && (Nat.ble o j && Nat.blt j (o + cs.length))) = false := by
    cases hh : (Nat.beq i' i && (Nat.ble o j && Nat.blt j (o + cs.length))) with
    | false => rfl
    | true =>
      simp only [Bool.and_eq_true, Nat.blt_eq, Nat.ble_eq] at hh
      exact absurd ⟨Nat.eq_of_beq_eq_true hh.1, hh.2.1, hh.2.2⟩ h
  rw [this]
noncomputable def evStoreR (P : Program) (M : Mem) (t : TypeId) (x v : AV) : Option Mem := match x, szT P t with
  | .rptr b i s o, some n => match M.get b with
    | some B => match B.rows with
      | some R => if (s = R.s ∧ o + n ≤ s) ∧ (0 < n ∧ B.cells.length = 0) ∧ (cellsA v).length = n ∧ (cellsA v).all oneA = true then some (M.put b (some ⟨[], B.elem, some ⟨R.n, R.s, setc i o (cellsA v) R.cell⟩⟩)) else none
      | none => none
    | none => none
  | _, _ => none
/-- a row of cells written into cells -/
theorem write_get {cur : Array Value} {l : List Value} {o : Nat} (h : o + l.length ≤ cur.size) (i : Nat) : (cur.toList.take o ++ l ++ cur.toList.drop (o + l.length)).toArray[i]? = if o ≤ i ∧ i < o + l.length then l[i - o]? else cur[i]? := by
  rw [List.getElem?_toArray, List.getElem?_append, List.getElem?_append]
  simp only [List.length_append, List.length_take, Array.length_toList, show min o cur.size = o by omega]
  by_cases h1 : i < o
  · rw [if_pos (by omega), if_pos h1, if_neg (by omega)]
    simp [h1]
  · by_cases h2 : i < o + l.length
    · rw [if_pos h2, if_neg h1, if_pos (by omega)]
    · rw [if_neg h2, if_neg (by omega), List.getElem?_drop, Array.getElem?_toList]
      congr 1; omega
theorem evStoreR_sound {P : Program} {w0 : World} {ρ : Rho} {M M' : Mem} {w : World} (hW : WR w0 ρ M w) {t : TypeId} {x v : AV} {ux uv : Value} (hx : rel ρ x ux) (hv : rel ρ v uv) (he : evStoreR P M t x v = some M') (hob : owed (obLoad M x)) :
    ∃ w', WR w0 ρ M' w' ∧ (Instr.storeAt t ux uv).run P w = .ok () w' := by
  unfold evStoreR at he
  split at he
  · rename_i b i s o n hs
    simp only [rel] at hx
    obtain ⟨g, tot, hg, rfl⟩ := hx
    split at he
    · rename_i B hb
      split at he
      · rename_i R hR
        split at he
        · rename_i hok
          obtain ⟨⟨rfl, h1⟩, ⟨h2, h3⟩, h4, h5⟩ := hok
          simp at he; subst he
          have hi : i < R.n := by
            have := hob (Nat.blt i R.n) (by simp [obLoad, hb, hR])
            simpa [Nat.blt_eq] using this
          have hc := hv.cells
          have hl := hc.len
          obtain ⟨q2, cur, q3, q4, _, q5⟩ := hW.blk b B g tot hb hg
          have q5 := q5 R hR
          have hsz : i * R.s + o + uv.cells.toList.length ≤ cur.size := by
            obtain ⟨u, hu, _⟩ := q5 i (o + n - 1) hi (by omega)
            have := (Array.getElem?_eq_some_iff.1 hu).1
            omega
          have hcs : (uv.cells.toList).length = (cellsA v).length := by omega
          refine ⟨_, hW.set' hb hg ⟨[], B.elem, some ⟨R.n, R.s, setc i o (cellsA v) R.cell⟩⟩ rfl (us := (cur.toList.take (i * R.s + o) ++ uv.cells.toList ++ cur.toList.drop (i * R.s + o + uv.cells.toList.length)).toArray) (by simp; simp at hsz; omega) ⟨fun k x hk => by simp at hk, fun R' hR' i' j' hi' hj' => ?_⟩, ?_⟩
          · simp at hR'
            subst hR'
            simp only at hi' hj' ⊢
            rw [write_get hsz]
            by_cases hin : i' = i ∧ o ≤ j' ∧ j' < o + (cellsA v).length
            · obtain ⟨rfl, a1, a2⟩ := hin
              rw [if_pos (by omega), setc_in ⟨a1, a2⟩, show i' * R.s + j' - (i' * R.s + o) = j' - o by omega]
              have hk : j' - o < (cellsA v).length := by omega
              obtain ⟨u, hu, hr⟩ := hc.get (j' - o) _ (List.getElem?_eq_getElem hk)
              refine ⟨u, hu, ?_, hc.ones h5 u (List.mem_of_getElem? hu)⟩
              have : getA (cellsA v) (j' - o) = (cellsA v)[j' - o] := by
                unfold getA
                rw [nth_eq, List.getElem?_eq_getElem hk]
              rw [this]; exact hr
            · rw [setc_out hin, if_neg]
              · exact q5 i' j' hi' hj'
              · rintro ⟨b1, b2⟩
                apply hin
                have e1 : i' * R.s + j' = i * R.s + (i' * R.s + j' - i * R.s) := by
                  have : i * R.s ≤ i' * R.s + j' := by omega
                  omega
                have hd := place_div (i := i') hj'
                have hd2 := place_div (i := i) (j := i' * R.s + j' - i * R.s) (s := R.s) (by omega)
                rw [← e1] at hd2
                have := hd.1.symm.trans hd2.1
                subst this
                omega
          · have hst := run_storeCells_at P g (i * R.s + o) B.elem uv.cells.toList 0 cur w q3 (by simpa using hsz) (hc.ones h5)
            simp only [Nat.add_zero] at hst
            have hsz2 : uv.cells.size = n := by simp only [Array.length_toList] at hl; omega
            simp only [Instr.storeAt, Sem.run_bind, Instr.sureAddr, Sem.run_pure, Result.andThen_ok, storeVar, run_szT hs, hsz2, ne_eq, not_true_eq_false, if_false, hst]
        · cases he
      · cases he
    · cases he
  · cases he
noncomputable def evStore2 (P : Program) (M : Mem) (t : TypeId) (x v : AV) : Option Mem := Option.rec (motive := fun _ => Option Mem) (evStoreR P M t x v) (fun r => some r) (evStore P M t x v)
theorem evStore2_def (P : Program) (M : Mem) (t : TypeId) (x v : AV) : evStore2 P M t x v = match evStore P M t x v with | some r => some r | none => evStoreR P M t x v := by
  unfold evStore2
  cases evStore P M t x v <;> rfl
theorem evStore2_sound {P : Program} {w0 : World} {ρ : Rho} {M M' : Mem} {w : World} (hW : WR w0 ρ M w) {t : TypeId} {x v : AV} {ux uv : Value} (hx : rel ρ x ux) (hv : rel ρ v uv) (he : evStore2 P M t x v = some M') (hob : owed (obLoad M x)) :
    ∃ w', WR w0 ρ M' w' ∧ (Instr.storeAt t ux uv).run P w = .ok () w' := by
  rw [evStore2_def] at he
  split at he
  · rename_i r hr
    simp at he; subst he
    exact evStore_sound hW hx hv hr
  · exact evStoreR_sound hW hx hv he hob
noncomputable def eStore (P : Program) (F : Fr) (M : Mem) (t : TypeId) (x y : Operand) : Option (AV × Mem) := obind (evX F x) fun u => obind (evX F y) fun v => obind (evStore2 P M t u v) fun M' => some (.lit undef, M')
noncomputable def eMake (P : Program) (F : Fr) (M : Mem) (t : TypeId) (l c : Operand) : Option (AV × Mem) := obind (litX F l) fun u => obind (litX F c) fun v => evMake2 P M t u v
noncomputable def evAppend2 (P : Program) (M : Mem) (t : TypeId) (x y : AV) : Option (AV × Mem) := Option.rec (motive := fun _ => Option (AV × Mem)) (evAppendT P M t x y) (fun r => some r) (evAppend P M t x y)
theorem evAppend2_def (P : Program) (M : Mem) (t : TypeId) (x y : AV) : evAppend2 P M t x y = match evAppend P M t x y with | some r => some r | none => evAppendT P M t x y := by
  unfold evAppend2
  cases evAppend P M t x y <;> rfl
noncomputable def obAppend2 (P : Program) (M : Mem) (t : TypeId) (x y : AV) : Option Bool := match evAppend P M t x y with | some _ => none | none => obAppendT P M t x y
noncomputable def eAppend (P : Program) (F : Fr) (M : Mem) (c : Call) : Option (AV × Mem) := match c.callee with
  | .builtin .append => (match c.args.toList, c.argTypes.toList with
    | [x, y], [t, t'] => if t = t' then (obind (evX F x) fun u => obind (evX F y) fun v => evAppend2 P M t u v) else none
    | _, _ => none)
  | _ => none
noncomputable def oAppend (P : Program) (F : Fr) (M : Mem) (c : Call) : Option Bool := match c.callee with
  | .builtin .append => (match c.args.toList, c.argTypes.toList with
    | [x, y], [t, t'] => obind (evX F x) fun u => obind (evX F y) fun v => obAppend2 P M t u v
    | _, _ => none)
  | _ => none
noncomputable def oStore (F : Fr) (M : Mem) (x : Operand) : Option Bool := obind (evX F x) fun u => obLoad M u
noncomputable def obEff (P : Program) (F : Fr) (M : Mem) (o : Oper) : Option Bool := match o.op with
  | .call c => oAppend P F M c
  | .store t x y => oStore F M x
  | _ => none
noncomputable def evEff (P : Program) (F : Fr) (M : Mem) (o : Oper) : Option (AV × Mem) := match o.op with
  | .alloc elem => eAlloc P M elem
  | .box elem x => eBox F M elem x
  | .buildSlice t len parts => eSlice P F M t len parts
  | .store t x y => eStore P F M t x y
  | .makeSlice t l c => eMake P F M t l c
  | .call c => eAppend P F M c
  | _ => none
noncomputable def evOp (P : Program) (F : Fr) (M : Mem) (o : Oper) : Option (AV × Mem) := Option.rec (motive := fun _ => Option (AV × Mem)) (evEff P F M o) (fun v => some (v, M)) (evRead P F M o)
theorem evOp_def (P : Program) (F : Fr) (M : Mem) (o : Oper) : evOp P F M o = match evRead P F M o with | some v => some (v, M) | none => evEff P F M o := by
  unfold evOp
  cases evRead P F M o <;> rfl

/-- what an operation owes -/
noncomputable def obOp (P : Program) (F : Fr) (M : Mem) (o : Oper) : Option Bool := match evRead P F M o with | some _ => obRead F M o | none => obEff P F M o

/-- what is shown of an operation that is no call -/
def Acts (P : Program) (w0 : World) (ρ : Rho) (M' : Mem) (v : AV) (w : World) (s : Sem Next) : Prop :=
  ∃ ρ' u w', Ext ρ ρ' ∧ rel ρ' v u ∧ WR w0 ρ' M' w' ∧ (s.run P w = .ok (.value u) w' ∨ (s.run P w = .ok .skip w' ∧ u = undef))
theorem Does.acts {P : Program} {w0 : World} {ρ : Rho} {M' : Mem} {v : AV} {w : World} {s : Sem Value} (h : Does P w0 ρ M' v w s) : Acts P w0 ρ M' v w (do pure (.value (← s))) := by
  obtain ⟨ρ', u, w', h1, h2, h3, h4⟩ := h
  exact ⟨ρ', u, w', h1, h2, h3, .inl (by simp only [Sem.run_bind, h4, Result.andThen_ok]; rfl)⟩

theorem evOp_sound {P : Program} {w0 : World} {ρ : Rho} {M M' : Mem} {w : World} {F : Fr} {a : Act} (hF : FR ρ F a) (hW : WR w0 ρ M w) {o : Oper} {v : AV} (he : evOp P F M o = some (v, M')) (hob : owed (obOp P F M o)) :
    Acts P w0 ρ M' v w (execOp a.eval o) := by
  rw [evOp_def] at he
  unfold obOp at hob
  split at he
  · rename_i v' hr
    simp at he
    obtain ⟨rfl, rfl⟩ := he
    simp only [hr] at hob
    obtain ⟨u, h1, h2⟩ := evRead_sound hF hW hr hob
    exact ⟨ρ, u, w, Ext.refl _, h1, hW, .inl (h2 w rfl)⟩
  rename_i hnr
  simp only [hnr] at hob
  unfold evEff at he
  unfold obEff at hob
  unfold execOp
  cases ho : o.op <;> simp only [ho] at he hob ⊢ <;> try (cases he; done)
  case alloc elem =>
    obtain ⟨z, hz, he⟩ := obind_some he
    simp at he
    obtain ⟨rfl, rfl⟩ := he
    refine Does.acts ?_
    obtain ⟨ρ', u, w', h1, h2, h3, h4⟩ := new_does (P := P) hW (v := .lit z) (u := z) (by simp [rel]) elem
    exact ⟨ρ', u, w', h1, h2, h3, by rw [← h4]; simp [Instr.alloc, run_zeroA hz]⟩
  case box elem x =>
    obtain ⟨v', hx, he⟩ := obind_some he
    simp at he
    obtain ⟨rfl, rfl⟩ := he
    exact Does.acts (new_does hW (evX_sound hF hx) elem)
  case buildSlice t len parts =>
    obtain ⟨ps, hps, he⟩ := obind_some he
    obtain ⟨h1, h2⟩ := partsX_sound hF _ _ hps
    have e : (parts.map fun (p : Nat × Operand) => (p.1, a.eval p.2)).toList = parts.toList.map fun p => (p.1, a.eval p.2) := by simp
    exact Does.acts (evBuildSlice_sound hW (by rw [e]; exact h1) (by rw [e]; exact h2) he)
  case makeSlice t l c =>
    obtain ⟨u', hl, he⟩ := obind_some he
    obtain ⟨v', hc, he⟩ := obind_some he
    rw [litX_sound hF hl, litX_sound hF hc]
    exact Does.acts (evMake2_sound hW he)
  case store t x y =>
    obtain ⟨u', hx, he⟩ := obind_some he
    obtain ⟨v', hy, he⟩ := obind_some he
    obtain ⟨M2, hs, he⟩ := obind_some he
    simp at he
    obtain ⟨rfl, rfl⟩ := he
    obtain ⟨w', h1, h2⟩ := evStore2_sound hW (evX_sound hF hx) (evX_sound hF hy) hs (by unfold oStore at hob; rw [hx] at hob; exact hob)
    exact ⟨ρ, undef, w', Ext.refl _, by simp [rel], h1, .inr ⟨by simp only [Sem.run_bind, h2, Result.andThen_ok]; rfl, rfl⟩⟩
  case call c =>
    unfold eAppend at he
    unfold oAppend at hob
    split at he
    · rename_i hc
      simp only [hc] at hob
      split at he
      · rename_i x y t t' hxs hts
        simp only [hxs, hts] at hob
        split at he
        · rename_i htt
          subst htt
          obtain ⟨u', hx, he⟩ := obind_some he
          obtain ⟨v', hy, he⟩ := obind_some he
          have e1 : c.args = #[x, y] := by rw [← Array.toArray_toList (xs := c.args), hxs]
          have e2 : c.argTypes = #[t, t] := by rw [← Array.toArray_toList (xs := c.argTypes), hts]
          simp only [hx, hy, obind] at hob
          have hD : Does P w0 ρ M' v w (Builtin.append_ #[t, t] o.type #[a.eval x, a.eval y]) := by
            unfold obAppend2 at hob
            rw [evAppend2_def] at he
            split at he
            · rename_i r hr
              simp only [Option.some.injEq] at he
              subst he
              exact evAppend_sound (ty := o.type) hW (evX_sound hF hx) (evX_sound hF hy) hr
            · rename_i hr
              simp only [hr] at hob
              exact evAppendT_sound (ty := o.type) hW (evX_sound hF hx) (evX_sound hF hy) he hob
          obtain ⟨ρ', u, w', h1, h2, h3, h4⟩ := hD
          refine ⟨ρ', u, w', h1, h2, h3, .inl ?_⟩
          simp [resolve, hc, invoke, builtin, e1, e2, h4]
        · cases he
      · cases he
    · cases he

/-! ### Memory grows -/
theorem evStore_grow {P : Program} {M M' : Mem} {t : TypeId} {x v : AV} (h : evStore P M t x v = some M') : Grow M M' := by
  unfold evStore at h
  split at h
  · split at h
    · split at h
      · simp at h; subst h; exact Grow.put _ _ _
      · cases h
    · cases h
  · cases h
theorem evStore2_grow {P : Program} {M M' : Mem} {t : TypeId} {x v : AV} (h : evStore2 P M t x v = some M') : Grow M M' := by
  rw [evStore2_def] at h
  split at h
  · rename_i r hr
    simp at h; subst h
    exact evStore_grow hr
  · unfold evStoreR at h
    split at h
    · split at h
      · split at h
        · split at h
          · simp at h; subst h; exact Grow.put _ _ _
          · cases h
        · cases h
      · cases h
    · cases h
theorem evBuildSlice_grow {P : Program} {M M' : Mem} {t : TypeId} {len : Nat} {ps : List (Nat × AV)} {v : AV} (h : evBuildSlice P M t len ps = some (v, M')) : Grow M M' := by
  unfold evBuildSlice at h
  split at h
  · split at h
    · split at h
      · split at h
        · split at h
          · simp at h; rw [← h.2]; exact Grow.push _ _
          · cases h
        · cases h
      · cases h
    · cases h
  · cases h
theorem evMake_grow {P : Program} {M M' : Mem} {t : TypeId} {l c : Value} {v : AV} (h : evMake P M t l c = some (v, M')) : Grow M M' := by
  unfold evMake at h
  split at h
  · split at h
    · cases h
    · split at h
      · simp at h; rw [← h.2]; exact Grow.push _ _
      · cases h
  · cases h
theorem evMake2_grow {P : Program} {M M' : Mem} {t : TypeId} {l c : Value} {v : AV} (h : evMake2 P M t l c = some (v, M')) : Grow M M' := by
  unfold evMake2 at h
  split at h
  · split at h
    · split at h
      · cases h
      · split at h
        · simp at h; rw [← h.2]; exact Grow.push _ _
        · cases h
    · exact evMake_grow h
  · cases h
theorem evAppend_grow {P : Program} {M M' : Mem} {t : TypeId} {x y v : AV} (h : evAppend P M t x y = some (v, M')) : Grow M M' := by
  unfold evAppend at h
  split at h
  · split at h
    · cases h
    · split at h
      · split at h
        · split at h
          · simp at h; rw [← h.2]; exact Grow.refl _
          · simp at h; rw [← h.2]; exact Grow.refl _
          · cases h
        · split at h
          · split at h
            · split at h
              · simp at h; rw [← h.2]; exact Grow.push _ _
              · cases h
            · split at h
              · split at h
                · simp at h; rw [← h.2]; exact Grow.push _ _
                · cases h
              · cases h
            · split at h
              · split at h
                · simp at h; rw [← h.2]; exact (Grow.put _ _ _).trans (Grow.push _ _)
                · cases h
              · cases h
            · cases h
          · cases h
      · cases h
  · cases h
theorem evAppendS_grow {P : Program} {M M' : Mem} {t : TypeId} {x y v : AV} (h : evAppendS P M t x y = some (v, M')) : Grow M M' := by
  unfold evAppendS at h
  split at h
  · split at h
    · cases h
    · split at h
      · split at h
        · split at h
          · simp at h; rw [← h.2]; exact Grow.push _ _
          · split at h
            · split at h
              · split at h
                · simp at h; rw [← h.2]; exact (Grow.put _ _ _).trans (Grow.push _ _)
                · cases h
              · cases h
            · cases h
          · cases h
        · cases h
      · cases h
  · cases h
theorem evAppendT_grow {P : Program} {M M' : Mem} {t : TypeId} {x y v : AV} (h : evAppendT P M t x y = some (v, M')) : Grow M M' := by
  unfold evAppendT at h
  split at h
  · rename_i Mx hr
    exact (slRows_grow (M1 := Mx.1) (x1 := Mx.2) hr).trans (evAppendS_grow h)
  · exact evAppendS_grow h
theorem evOp_grow {P : Program} {F : Fr} {M M' : Mem} {o : Oper} {v : AV} (he : evOp P F M o = some (v, M')) : Grow M M' := by
  rw [evOp_def] at he
  split at he
  · simp at he; rw [← he.2]; exact Grow.refl _
  unfold evEff at he
  cases ho : o.op <;> simp only [ho] at he <;> try (cases he; done)
  case alloc elem =>
    obtain ⟨z, hz, he⟩ := obind_some he
    simp at he; rw [← he.2]; exact Grow.push _ _
  case box elem x =>
    obtain ⟨z, hz, he⟩ := obind_some he
    simp at he; rw [← he.2]; exact Grow.push _ _
  case buildSlice t len parts =>
    obtain ⟨ps, hps, he⟩ := obind_some he
    exact evBuildSlice_grow he
  case makeSlice t l c =>
    obtain ⟨u', hl, he⟩ := obind_some he
    obtain ⟨v', hc, he⟩ := obind_some he
    exact evMake2_grow he
  case store t x y =>
    obtain ⟨u', hx, he⟩ := obind_some he
    obtain ⟨v', hy, he⟩ := obind_some he
    obtain ⟨M2, hs, he⟩ := obind_some he
    simp at he; rw [← he.2]; exact evStore2_grow hs
  case call c =>
    unfold eAppend at he
    split at he
    · split at he
      · split at he
        · obtain ⟨u', hx, he⟩ := obind_some he
          obtain ⟨v', hy, he⟩ := obind_some he
          rw [evAppend2_def] at he
          split at he
          · rename_i r hr
            simp only [Option.some.injEq] at he
            subst he
            exact evAppend_grow hr
          · exact evAppendT_grow he
        · cases he
      · cases he
    · cases he

/-! ### Calls -/
/-- what calls do: the result, and the memory behind; and what the call owes -/
structure CallT where
  run : FuncId → List AV → Mem → Option (AV × Mem)
  ob : FuncId → List AV → Mem → Option Bool
  /-- does a contract tell what comes? -/
  has : FuncId → List AV → Mem → Bool
def CallTo (P : Program) (f : FuncId) (args : List AV) (M : Mem) (G : AV → Mem → Prop) : Prop := ∀ w0 ρ us w, rels ρ args us → WR w0 ρ M w →
  Calls P f us.toArray w fun e w' => ∃ ρ' u v M', e = .returned u ∧ Ext ρ ρ' ∧ rel ρ' v u ∧ WR w0 ρ' M' w' ∧ G v M'
def CallOk (P : Program) (call : CallT) : Prop := ∀ f args M v M', call.run f args M = some (v, M') → owed (call.ob f args M) → Grow M M' ∧ CallTo P f args M (fun v' M2 => v' = v ∧ M2 = M')
/-- no function of the program is one that the model stands in for by its name -/
def Plainly (P : Program) : Prop := ∀ (f : FuncId) fn, P.funcs[f]? = some fn → (fn.name == "runtime.NumGoroutine") = false

noncomputable def calleeA (F : Fr) (c : Call) : Option (FuncId × List AV) := match c.callee with
  | .value x => match evX F x, mapX F c.args.toList with
    | some (.fn (.func f) first cap), some args => some (f, first ++ args ++ cap)
    | some (.lit (.func (.func f) first cap)), some args => some (f, first.toList.map .lit ++ args ++ cap.toList.map .lit)
    | _, _ => none
  | _ => none
noncomputable def evOp1 (P : Program) (call : CallT) (F : Fr) (M : Mem) (o : Oper) : Option (AV × Mem) := match o.op with
  | .call c => match calleeA F c with
    | some (f, args) => match P.funcs[f]? with
      | some fn => if fn.body.isSome then call.run f args M else none
      | none => none
    | none => evOp P F M o
  | _ => evOp P F M o

noncomputable def obOp1 (P : Program) (call : CallT) (F : Fr) (M : Mem) (o : Oper) : Option Bool := match o.op with
  | .call c => match calleeA F c with
    | some (f, args) => call.ob f args M
    | none => obOp P F M o
  | _ => obOp P F M o

theorem calleeA_sound {ρ : Rho} {F : Fr} {a : Act} (hF : FR ρ F a) {c : Call} {f : FuncId} {args : List AV} (he : calleeA F c = some (f, args)) (P : Program) {fn : Func} (hf : P.funcs[f]? = some fn) (hb : fn.body.isSome = true) (hn : (fn.name == "runtime.NumGoroutine") = false) (ty : TypeId) (w : World) :
    ∃ us : List Value, rels ρ args us ∧ (do let d ← resolve a.eval c ty; invoke d.target d.args : Sem Next).run P w = .ok (.enter f us.toArray) w := by
  obtain ⟨cd, hcd⟩ := Option.isSome_iff_exists.1 hb
  have hn' : fn.name ≠ "runtime.NumGoroutine" := by simpa using hn
  unfold calleeA at he
  split at he
  · rename_i x hc
    split at he
    · rename_i f' first cap args' hx hm
      simp at he
      obtain ⟨rfl, rfl⟩ := he
      have hr := evX_sound hF hx
      simp only [rel] at hr
      obtain ⟨l, m, e, h1, h2⟩ := hr
      have h3 := mapX_sound hF _ _ hm
      refine ⟨l ++ c.args.toList.map a.eval ++ m, by rw [← List.append_assoc]; exact (h1.app h3).app h2, ?_⟩
      simp [resolve, hc, e, Deferred.ofValue, invoke, callFunc, hf, hn', hcd]
    · rename_i f' first cap args' hx hm
      simp at he
      obtain ⟨rfl, rfl⟩ := he
      have hr := evX_sound hF hx
      simp only [rel] at hr
      have h3 := mapX_sound hF _ _ hm
      refine ⟨first.toList ++ c.args.toList.map a.eval ++ cap.toList, ?_, ?_⟩
      · rw [List.append_assoc]; exact ((rels.lits _).app (h3.app (rels.lits _)))
      · simp [resolve, hc, hr, Deferred.ofValue, invoke, callFunc, hf, hn', hcd]
    · cases he
  · cases he

theorem evOp1_sound {P : Program} (hP : Plainly P) {call : CallT} (hcall : CallOk P call) {w0 : World} {ρ : Rho} {M M' : Mem} {w : World} {F : Fr} {a : Act} (hF : FR ρ F a) (hW : WR w0 ρ M w) {o : Oper} {v : AV} (he : evOp1 P call F M o = some (v, M')) (hob : owed (obOp1 P call F M o))
    {K : Act → World → Prop} {Q : Exit → Act → World → Prop} (hK : ∀ ρ' u w', Ext ρ ρ' → rel ρ' v u → WR w0 ρ' M' w' → K (a.put o.dst u) w') : o.wp P a w K Q := by
  have main : ∀ (h : evOp P F M o = some (v, M')), owed (obOp P F M o) → o.wp P a w K Q := fun h hob => by
    obtain ⟨ρ', u, w', h1, h2, h3, h4⟩ := evOp_sound hF hW h hob
    unfold Oper.wp
    rcases h4 with h4 | ⟨h4, rfl⟩
    · rw [h4]; exact hK ρ' u w' h1 h2 h3
    · rw [h4]; exact hK ρ' undef w' h1 h2 h3
  unfold evOp1 at he
  unfold obOp1 at hob
  split at he
  · rename_i c ho
    simp only [ho] at hob
    split at he
    · rename_i f args hc
      simp only [hc] at hob
      split at he
      · rename_i fn hf
        split at he
        · rename_i hb
          obtain ⟨us, h1, h2⟩ := calleeA_sound hF hc P hf hb (hP f fn hf) o.type w
          have h3 := (hcall f args M v M' he hob).2 w0 ρ us w h1 hW
          unfold Oper.wp execOp
          simp only [ho]
          rw [h2]
          simp only [Oper.upon_enter]
          refine h3.mono ?_
          rintro e w' ⟨ρ', u, _, _, rfl, q1, q2, q3, rfl, rfl⟩
          exact hK ρ' u w' q1 q2 q3
        · cases he
      · cases he
    · rename_i hc
      simp only [hc] at hob
      exact main he hob
  · rename_i hne
    refine main he ?_
    split at hob
    · rename_i c ho; exact absurd ho (hne c)
    · exact hob
theorem evOp1_grow {P : Program} {call : CallT} (hcall : CallOk P call) {F : Fr} {M M' : Mem} {o : Oper} {v : AV} (he : evOp1 P call F M o = some (v, M')) (hob : owed (obOp1 P call F M o)) : Grow M M' := by
  unfold evOp1 at he
  unfold obOp1 at hob
  split at he
  · rename_i c ho
    simp only [ho] at hob
    split at he
    · rename_i f args hc
      simp only [hc] at hob
      split at he
      · split at he
        · exact (hcall f args M v M' he hob).1
        · cases he
      · cases he
    · exact evOp_grow he
  · exact evOp_grow he

end Go.Proofs.YtmlhipckgmbpfaaGreat.Sy
