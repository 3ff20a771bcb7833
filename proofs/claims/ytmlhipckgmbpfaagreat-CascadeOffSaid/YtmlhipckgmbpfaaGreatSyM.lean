/-
  The symbolic interpreter: contracts that only read, given blocks of the caller's own.
-/
import Derived.Test.YtmlhipckgmbpfaaGreatSyUse
namespace Go.Proofs.YtmlhipckgmbpfaaGreat.Sy
open Go Go.RowKit
set_option linter.unusedVariables false

mutual
theorem rel_toVal {ρ : Rho} : ∀ {v : AV} {u : Value}, toVal v = some u → rel ρ v u
  | .lit v, u, h => by simp only [toVal, Option.some.injEq] at h; simp only [rel]; exact h.symm
  | .ptr .., u, h => by simp [toVal] at h
  | .sl .., u, h => by simp [toVal] at h
  | .esl, u, h => by simp [toVal] at h
  | .view .., u, h => by simp [toVal] at h
  | .vptr .., u, h => by simp [toVal] at h
  | .own .., u, h => by simp [toVal] at h
  | .rptr .., u, h => by simp [toVal] at h
  | .agg cs, u, h => by
    simp only [toVal] at h
    cases hc : toVals cs with
    | none => simp [hc] at h
    | some m => simp [hc] at h; simp only [rel]; exact ⟨m, h.symm, rels_toVals hc⟩
  | .tup cs, u, h => by
    simp only [toVal] at h
    cases hc : toVals cs with
    | none => simp [hc] at h
    | some m => simp [hc] at h; simp only [rel]; exact ⟨m, h.symm, rels_toVals hc⟩
  | .fn f a b, u, h => by
    simp only [toVal] at h
    cases ha : toVals a with
    | none => simp [ha] at h
    | some x =>
      cases hb : toVals b with
      | none => simp [ha, hb] at h
      | some y => simp [ha, hb] at h; simp only [rel]; exact ⟨x, y, h.symm, rels_toVals ha, rels_toVals hb⟩
theorem rels_toVals {ρ : Rho} : ∀ {v : List AV} {u : List Value}, toVals v = some u → rels ρ v u
  | [], u, h => by simp only [toVals, Option.some.injEq] at h; simp only [rels]; exact h.symm
  | v :: vs, u, h => by
    simp only [toVals] at h
    cases ha : toVal v with
    | none => simp [ha] at h
    | some y =>
      cases hb : toVals vs with
      | none => simp [ha, hb] at h
      | some ys => simp [ha, hb] at h; simp only [rels]; exact ⟨y, ys, h.symm, rel_toVal ha, rels_toVals hb⟩
end
/-- what is given, read from a start of one's own -/
def Conv (M : Mem) (args args1 : List AV) : Prop := ∀ (w0 : World) (ρ : Rho) (w : World) (us : List Value), WR w0 ρ M w → rels ρ args us → rels (rho0 w) args1 us
def Conv1 (M : Mem) (v v1 : AV) : Prop := ∀ (w0 : World) (ρ : Rho) (w : World) (u : Value), WR w0 ρ M w → rel ρ v u → rel (rho0 w) v1 u
theorem Conv.nil (M : Mem) : Conv M [] [] := fun _ _ _ us _ h => by simpa only [rels] using h
theorem Conv.cons {M : Mem} {v v1 : AV} {vs vs1 : List AV} (h : Conv1 M v v1) (h' : Conv M vs vs1) : Conv M (v :: vs) (v1 :: vs1) := fun w0 ρ w us hW hr => by
  simp only [rels] at hr ⊢
  obtain ⟨u, us', rfl, h1, h2⟩ := hr
  exact ⟨u, us', rfl, h w0 ρ w u hW h1, h' w0 ρ w us' hW h2⟩
theorem Conv1.agg {M : Mem} {cs cs1 : List AV} (h : Conv M cs cs1) : Conv1 M (.agg cs) (.agg cs1) := fun w0 ρ w u hW hr => by
  simp only [rel] at hr ⊢
  obtain ⟨l, rfl, h1⟩ := hr
  exact ⟨l, rfl, h w0 ρ w l hW h1⟩
theorem rho0_still {w0 w : World} {ρ : Rho} {M : Mem} (hW : WR w0 ρ M w) : ∀ g o x, ρ.still g o = some x → (rho0 w).still g o = some x := fun g o x h => by
  simp only [rho0, if_pos (hW.still_lt h)]
  exact hW.still g o x h
theorem Conv1.free (M : Mem) {v : AV} (hf : Free v) : Conv1 M v v := fun w0 ρ w u hW hr => rel.free (rho0_still hW) hf hr
theorem Conv1.lit (M : Mem) (v : Value) : Conv1 M (.lit v) (.lit v) := Conv1.free M (v := .lit v) trivial
/-- a slice of the run's own, as one that is read alone -/
theorem Conv1.own {M : Mem} {b n s : Nat} {B : Blk} {R : Rw} {cell : Nat → Nat → AV} (hb : M.get b = some B) (hR : B.rows = some R) (hn : n ≤ R.n) (hs : R.s = s) (hc : ∀ i j, i < n → j < s → Free (R.cell i j) ∧ R.cell i j = cell i j) : Conv1 M (.own b n s) (.view n s cell) := fun w0 ρ w u hW hr => by
  simp only [rel] at hr ⊢
  rcases hr with ⟨_, rfl, rfl⟩ | ⟨g, tot, cap, hg, rfl, h1, h2, h3⟩
  · exact ⟨none, 0, rfl, Nat.le_refl _, by unfold maxLen; omega, fun _ => rfl, fun h => by omega⟩
  · obtain ⟨q2, cur, q3, q4, q5⟩ := hW.holds hb hg
    refine ⟨_, cap, rfl, h1, h2, (fun h => by cases h), fun _ => ⟨g, 0, rfl, fun i j hi hj => ?_⟩⟩
    obtain ⟨x, r1, r2, r3⟩ := q5.2 R hR i j (by omega) (by omega)
    have hlt : g < w.heap.size := (Array.getElem?_eq_some_iff.1 q3).1
    obtain ⟨f1, f2⟩ := hc i j hi hj
    refine ⟨x, ?_, ?_, r3⟩
    · simp only [rho0, if_pos hlt]
      rw [cell_at q3, Nat.zero_add, ← hs]; exact r1
    · rw [← f2]; exact rel.free (rho0_still hW) f1 r2
theorem Conv1.sl {M : Mem} {b n s : Nat} {c : Option Nat} {B : Blk} {cell : Nat → Nat → AV} (hb : M.get b = some B) (hc : ∀ i j, i < n → j < s → ∃ v, B.cells[i * s + j]? = some v ∧ Free v ∧ oneA v = true ∧ v = cell i j) : Conv1 M (.sl b 0 n c s) (.view n s cell) := fun w0 ρ w u hW hr => by
  simp only [rel] at hr ⊢
  obtain ⟨g, tot, cap, hg, rfl, h1, h2, _, h3⟩ := hr
  obtain ⟨q2, cur, q3, q4, q5⟩ := hW.holds hb hg
  refine ⟨_, cap, rfl, h1, h2, (fun h => by cases h), fun _ => ⟨g, 0, rfl, fun i j hi hj => ?_⟩⟩
  obtain ⟨v, r1, r2, r3, r4⟩ := hc i j hi hj
  obtain ⟨x, r5, r6⟩ := q5.1 _ _ r1
  have hlt : g < w.heap.size := (Array.getElem?_eq_some_iff.1 q3).1
  refine ⟨x, ?_, ?_, r6.one r3⟩
  · simp only [rho0, if_pos hlt]
    rw [cell_at q3, Nat.zero_add]; exact r5
  · rw [← r4]; exact rel.free (rho0_still hW) r2 r6
/-- a contract at such arguments -/
noncomputable def atM {X : Type} (f : FuncId) (get : List AV → Mem → Option X) (args1 : X → List AV) (v0 : X → AV) (C : X → Prop) (h : ∀ x, C x → (∃ u, toVal (v0 x) = some u) ∧ CallTo Tryz.prog f (args1 x) M0 fun v _ => v = v0 x) : Con Tryz.prog where
  f := f
  run := fun args M => match get args M with | some x => some (v0 x, M) | none => none
  ob := fun args M => match get args M with | some x => some (isSo (Conv M args (args1 x) ∧ C x)) | none => none
  ok := fun args M v M' hr hob => by
    cases hg : get args M with
    | none => rw [hg] at hr; cases hr
    | some x =>
      rw [hg] at hr hob
      simp at hr
      obtain ⟨rfl, rfl⟩ := hr
      have h1 := hob _ rfl
      rw [isSo_t] at h1
      obtain ⟨hc, hC⟩ := h1
      obtain ⟨⟨u0, hu0⟩, h2⟩ := h x hC
      refine ⟨Grow.refl _, fun w0 ρ us w hrel hW => ?_⟩
      refine (h2 w (rho0 w) us w (hc w0 ρ w us hW hrel) (WR.start w)).mono ?_
      rintro e w' ⟨ρ', u, v, M', rfl, hE, hv, hW', rfl⟩
      have hbelow : Below w.heap.size w w' := by
        have := hW'.keep
        rw [hE.mine] at this
        exact Keep.below this
      obtain ⟨q1, q2⟩ := hW.grown hbelow (fun _ _ => none) (fun _ _ _ h => by cases h)
      have hu := toVal_eq hu0 hv
      subst hu
      exact ⟨_, u, v0 x, M, rfl, q1, rel_toVal hu0, q2, rfl, rfl⟩
/-! ### Loops whose frames hold no places: whatever they make is forgotten -/
def FreeF : Fr → Prop
  | [] => True
  | none :: F => FreeF F
  | some v :: F => Free v ∧ FreeF F
theorem FreeF.get : ∀ {F : Fr}, FreeF F → ∀ (t : Nat) (v : AV), F[t]? = some (some v) → Free v
  | [], _, t, v, h => by simp at h
  | none :: F, hF, t, v, h => by
    cases t with
    | zero => simp at h
    | succ t => exact FreeF.get (F := F) hF t v (by simpa using h)
  | some x :: F, hF, t, v, h => by
    cases t with
    | zero => simp at h; subst h; exact hF.1
    | succ t => exact FreeF.get (F := F) hF.2 t v (by simpa using h)
theorem LoopTo.frame {P : Program} {b : Code} {n : Nat} {F : Fr} {G : Ex → Fr → Prop} (h : LoopTo P b n F ⟨0, 0, []⟩ fun ex F' _ => FreeF F' ∧ G ex F') (hF : FreeF F) (M : Mem) : LoopTo P b n F M fun ex F' M' => M' = M ∧ FreeF F' ∧ G ex F' := fun w0 ρ a w Q hFR hW hQ => by
  let ρb : Rho := ⟨fun _ => none, fun _ => false, ρ.still, ρ.still, fun _ => false⟩
  have hb : WR w ρb ⟨0, 0, []⟩ w := ⟨Keep.refl _ _, fun _ _ h => by simp [ρb] at h, fun _ h => by simp [ρb] at h, fun b B _ _ h => by simp [Mem.get_def] at h, fun b B h => by simp [Mem.get_def] at h, fun b b' B B' g t t' h => by simp [Mem.get_def] at h,
    fun g o v h => hW.still g o v h, fun g o v _ _ h => h, fun b B g t h => by simp [Mem.get_def] at h⟩
  have hFb : FR ρb F a := ⟨hFR.len, fun t v hv => rel.free (ρ := ρ) (ρ' := ρb) (fun _ _ _ h => h) (hF.get t v hv) (hFR.val t v hv), hFR.defers⟩
  refine h w ρb a w Q hFb hb fun ex F' M' ρ' a' w' hg hE hF' hW' => ?_
  have hbelow : Below w.heap.size w w' := by
    have := hW'.keep
    rw [hE.mine] at this
    exact Keep.below this
  obtain ⟨q1, q2⟩ := hW.grown hbelow (fun g o => if w.heap.size ≤ g then ρ'.still g o else none) (fun g o v hv => by
    split at hv
    · rename_i hh; exact ⟨hh, hW'.still g o v hv⟩
    · cases hv)
  refine hQ ex F' M _ a' w' ⟨rfl, hg⟩ q1 ⟨hF'.len, fun t v hv => rel.free (fun g o x hx => ?_) (hg.1.get t v hv) (hF'.val t v hv), hF'.defers⟩ q2
  simp only [more]
  rcases Nat.lt_or_ge g w.heap.size with hg | hg
  · have h1 := hW'.first g o x hg (by rw [hE.mine]) hx
    rw [hE.base] at h1
    have h2 : ρ.still g o = some x := h1
    rw [h2]; rfl
  · rw [if_pos hg, hx]
    cases hs : ρ.still g o with
    | none => rfl
    | some y => have := hW.still_lt hs; omega
theorem WR.loosen {w0 : World} {ρ : Rho} {M : Mem} {w : World} (h : WR w0 ρ M w) {T : Nat} (hT : M.top ≤ T) (s : Nat) : WR w0 ρ ⟨T, s, []⟩ w :=
  have key : ∀ b, Mem.get ⟨T, s, []⟩ b = none := fun b => by rw [Mem.get_def]; simp
  ⟨h.keep, fun b g hb => Nat.lt_of_lt_of_le (h.dom b g hb) hT, fun b hb => ⟨Nat.lt_of_lt_of_le (h.nild b hb).1 hT, (h.nild b hb).2⟩, (fun b B g tot hb => by rw [key] at hb; cases hb), (fun b B hb => by rw [key] at hb; cases hb), (fun b b' B B' g t t' hb => by rw [key] at hb; cases hb), h.still, h.first, (fun b B g t hb => by rw [key] at hb; cases hb)⟩
theorem LoopTo.outM {P : Program} {b : Code} {n : Nat} {F : Fr} {M : Mem} {G : Ex → Fr → Mem → Prop} (T s : Nat) (h : LoopTo P b n F M G) (hG : ∀ ex F' M', G ex F' M' → M'.top ≤ T) : LoopTo P b n F M fun ex F' M' => M' = ⟨T, s, []⟩ ∧ ∃ M0, G ex F' M0 := fun w0 ρ a w Q hF hW hQ =>
  h w0 ρ a w Q hF hW fun ex F' M' ρ' a' w' hg q1 q2 q3 => hQ ex F' ⟨T, s, []⟩ ρ' a' w' ⟨rfl, M', hg⟩ q1 q2 (q3.loosen (hG ex F' M' hg) s)
end Go.Proofs.YtmlhipckgmbpfaaGreat.Sy
