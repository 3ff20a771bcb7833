/-
  The small interpreter with given contracts.
-/
import Derived.Test.YtmlhipckgmbpfaaEvUse
namespace Go.Proofs.Ytmlhipckgmbpfaa.Ev
open Go Go.RowKit
set_option linter.unusedVariables false

noncomputable def evCallT (P : Program) (T : CallF) (k : Nat) : Nat → CallF
  | 0 => fun _ _ _ => none
  | n + 1 => fun f args M => match T f args M with
    | some r => some r
    | none => match P.funcs[f]? with
      | some fn => match fn.body with
        | some c => match evCode P (evCallT P T k n) k c (args.map some ++ List.replicate (fn.ntmps - args.length) (some (.lit undef))) M with
          | some (.norm, F', M') => match resultsA P F' M' fn with | some v => some (v, M') | none => none
          | some (.ret, F', M') => match resultsA P F' M' fn with | some v => some (v, M') | none => none
          | _ => none
        | none => none
      | none => none
theorem evCallT_ok {P : Program} (hP : Plainly P) (hm : P.follows .mixedOrders = true) {T : CallF} (hT : CallOk P T) (k : Nat) : ∀ n, CallOk P (evCallT P T k n)
  | 0 => fun f args M v M' h => by simp [evCallT] at h
  | n + 1 => fun f args M v M' h w0 ρ us w hr hW => by
    simp only [evCallT] at h
    cases ht : T f args M with
    | some r =>
      rw [ht] at h
      simp at h
      subst h
      exact hT f args M v M' ht w0 ρ us w hr hW
    | none =>
    rw [ht] at h
    simp only at h
    cases hf : P.funcs[f]? with
    | none => simp [hf] at h
    | some fn =>
      cases hb : fn.body with
      | none => simp [hf, hb] at h
      | some c =>
        simp only [hf, hb] at h
        have hF := frame_start hr fn.ntmps
        refine calls_of_wp hf hb ?_
        split at h
        · rename_i F' M2 hc
          split at h
          · rename_i v' hres
            simp at h
            obtain ⟨rfl, rfl⟩ := h
            refine evCode_sound hP hm (evCallT_ok hP hm hT k n) k c hF hW hc fun ρ' a' w' h1 h2 h3 => ?_
            obtain ⟨u, q1, q2⟩ := resultsA_sound h2 h3 hres
            exact bodyPost_end q2 h2.defers ⟨ρ', u, rfl, h1, q1, h3⟩
          · cases h
        · rename_i F' M2 hc
          split at h
          · rename_i v' hres
            simp at h
            obtain ⟨rfl, rfl⟩ := h
            refine evCode_sound hP hm (evCallT_ok hP hm hT k n) k c hF hW hc fun ρ' a' w' h1 h2 h3 => ?_
            obtain ⟨u, q1, q2⟩ := resultsA_sound h2 h3 hres
            exact bodyPost_ret q2 h2.defers ⟨ρ', u, rfl, h1, q1, h3⟩
          · cases h
        · cases h
theorem true_ofT {T : CallF} (hT : CallOk Try.prog T) {f k n : Nat} (h : isTrue (evCallT Try.prog T k n f [] ⟨0, []⟩) = true) (w : World) : Calls Try.prog f #[] w fun e w' => e = .returned (.bool true) ∧ Below w.heap.size w w' := by
  unfold isTrue at h
  split at h
  · rename_i M' he
    have := evCallT_ok plainly mixed hT k n f [] ⟨0, []⟩ _ _ he ⟨w, fun _ => false⟩ (fun _ => none) [] w (by simp [rels]) (WR.start w)
    refine this.mono ?_
    rintro e w' ⟨ρ', u, rfl, _, h2, h3⟩
    simp only [rel] at h2
    exact ⟨by rw [h2], h3.keep.below⟩
  · cases h
/-- a contract of one number, at one number -/
noncomputable def atN (f0 : FuncId) (n0 : Int) (v0 : Value) (T : CallF) : CallF := fun f args M => match Nat.beq f f0 with
  | true => match args with
    | [.lit (.int .i64 n)] => match decide (n = n0) with
      | true => some (.lit v0, M)
      | false => T f args M
    | _ => T f args M
  | false => T f args M
theorem WR.more {w0 : Base} {ρ : Rho} {M : Mem} {w w' : World} (h : WR w0 ρ M w) (hb : Below w.heap.size w w') : WR w0 ρ M w' :=
  ⟨⟨hb.os.trans h.keep.os, hb.tape.trans h.keep.tape, hb.output.trans h.keep.output, Nat.le_trans h.keep.size hb.size, fun k hk hm => by rw [hb.block k (Nat.lt_of_lt_of_le hk h.keep.size)]; exact h.keep.block k hk hm⟩, h.dom, fun b B hB => by
    obtain ⟨g, tot, q1, q2, cur, q3, q4⟩ := h.blk b B hB
    exact ⟨g, tot, q1, q2, cur, by rw [hb.block g (Array.getElem?_eq_some_iff.1 q3).1]; exact q3, q4⟩, h.inj⟩
theorem none_ok (P : Program) : CallOk P fun _ _ _ => none := fun f args M v M' h => by cases h
theorem atN_ok {f0 : FuncId} {n0 : Int} {v0 : Value} {T : CallF} (hT : CallOk Try.prog T) (h : ∀ w, Calls Try.prog f0 #[.int .i64 n0] w fun e w' => e = .returned v0 ∧ Below w.heap.size w w') : CallOk Try.prog (atN f0 n0 v0 T) := fun f args M v M' hr w0 ρ us w hrel hW => by
  unfold atN at hr
  split at hr
  · rename_i hf
    have hf := Nat.eq_of_beq_eq_true hf
    subst hf
    split at hr
    · rename_i n
      split at hr
      · rename_i hn
        have hn := of_decide_eq_true hn
        subst hn
        simp at hr
        obtain ⟨rfl, rfl⟩ := hr
        simp only [rels, rel] at hrel
        obtain ⟨u, us', rfl, rfl, rfl⟩ := hrel
        refine (h w).mono ?_
        rintro e w' ⟨rfl, hb⟩
        exact ⟨ρ, v0, rfl, Ext.refl ρ, by simp only [rel], hW.more hb⟩
      · exact hT _ _ _ _ _ hr w0 ρ us w hrel hW
    · exact hT _ _ _ _ _ hr w0 ρ us w hrel hW
  · exact hT _ _ _ _ _ hr w0 ρ us w hrel hW
end Go.Proofs.Ytmlhipckgmbpfaa.Ev
