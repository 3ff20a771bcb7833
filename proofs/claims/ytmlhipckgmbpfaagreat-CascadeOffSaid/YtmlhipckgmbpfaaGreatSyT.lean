/-
  The symbolic interpreter: loops that make new blocks in each round and forget them.
-/
import Derived.Test.YtmlhipckgmbpfaaGreatSyM
namespace Go.Proofs.YtmlhipckgmbpfaaGreat.Sy
open Go Go.RowKit
set_option linter.unusedVariables false

mutual
/-- only names below T -/
def Lt (T : Nat) : AV → Prop
  | .lit _ => True
  | .esl => True
  | .ptr b _ => b < T
  | .sl b _ _ _ _ => b < T
  | .agg cs => Lts T cs
  | .tup cs => Lts T cs
  | .fn _ a b => Lts T a ∧ Lts T b
  | .view _ _ cell => ∀ i j, Lt T (cell i j)
  | .vptr _ cell => ∀ j, Lt T (cell j)
  | .own b _ _ => b < T
  | .rptr b _ _ _ => b < T
def Lts (T : Nat) : List AV → Prop
  | [] => True
  | v :: vs => Lt T v ∧ Lts T vs
end
theorem Lts.get {T : Nat} : ∀ {l : List AV}, Lts T l → ∀ (i : Nat) (v : AV), l[i]? = some v → Lt T v
  | [], _, i, v, h => by simp at h
  | x :: l, hl, i, v, h => by
    simp only [Lts] at hl
    cases i with
    | zero => simp at h; subst h; exact hl.1
    | succ i => exact Lts.get hl.2 i v (by simpa using h)
def cutR (T : Nat) (ρ : Rho) : Rho := { ρ with blk := fun b => if b < T then ρ b else none, nil := fun b => if b < T then ρ.nil b else false }
mutual
theorem rel.cut {T : Nat} {ρ : Rho} : ∀ {v : AV} {u : Value}, Lt T v → rel ρ v u → rel (cutR T ρ) v u
  | .lit v, u, _, hr => by simpa [rel] using hr
  | .esl, u, _, hr => by simpa only [rel] using hr
  | .ptr b o, u, hl, hr => by
    simp only [Lt] at hl
    simp only [rel] at hr ⊢
    obtain ⟨g, tot, h1, h2⟩ := hr
    exact ⟨g, tot, by simp only [cutR, if_pos hl]; exact h1, h2⟩
  | .sl b o n c s, u, hl, hr => by
    simp only [Lt] at hl
    simp only [rel] at hr ⊢
    obtain ⟨g, tot, cap, h1, h2⟩ := hr
    exact ⟨g, tot, cap, by simp only [cutR, if_pos hl]; exact h1, h2⟩
  | .agg cs, u, hl, hr => by
    simp only [Lt] at hl
    simp only [rel] at hr ⊢
    obtain ⟨l, h1, h2⟩ := hr
    exact ⟨l, h1, rels.cut hl h2⟩
  | .tup cs, u, hl, hr => by
    simp only [Lt] at hl
    simp only [rel] at hr ⊢
    obtain ⟨l, h1, h2⟩ := hr
    exact ⟨l, h1, rels.cut hl h2⟩
  | .fn f a b, u, hl, hr => by
    simp only [Lt] at hl
    simp only [rel] at hr ⊢
    obtain ⟨l, m, h1, h2, h3⟩ := hr
    exact ⟨l, m, h1, rels.cut hl.1 h2, rels.cut hl.2 h3⟩
  | .view n s cell, u, hl, hr => by
    simp only [Lt] at hl
    simp only [rel] at hr ⊢
    obtain ⟨a, cap, h1, h2, h3, h4, h5⟩ := hr
    refine ⟨a, cap, h1, h2, h3, h4, fun hn => ?_⟩
    obtain ⟨g, o, h6, h7⟩ := h5 hn
    refine ⟨g, o, h6, fun i j hi hj => ?_⟩
    obtain ⟨x, h8, h9, h10⟩ := h7 i j hi hj
    exact ⟨x, h8, rel.cut (hl i j) h9, h10⟩
  | .vptr m cell, u, hl, hr => by
    simp only [Lt] at hl
    simp only [rel] at hr ⊢
    obtain ⟨g, o, h1, h2⟩ := hr
    refine ⟨g, o, h1, fun j hj => ?_⟩
    obtain ⟨x, h8, h9⟩ := h2 j hj
    exact ⟨x, h8, rel.cut (hl j) h9⟩
  | .own b n s, u, hl, hr => by
    simp only [Lt] at hl
    simp only [rel] at hr ⊢
    rcases hr with ⟨h1, h2⟩ | ⟨g, tot, cap, h1, h2⟩
    · exact .inl ⟨by simp only [cutR, if_pos hl]; exact h1, h2⟩
    · exact .inr ⟨g, tot, cap, by simp only [cutR, if_pos hl]; exact h1, h2⟩
  | .rptr b i s o, u, hl, hr => by
    simp only [Lt] at hl
    simp only [rel] at hr ⊢
    obtain ⟨g, tot, h1, h2⟩ := hr
    exact ⟨g, tot, by simp only [cutR, if_pos hl]; exact h1, h2⟩
theorem rels.cut {T : Nat} {ρ : Rho} : ∀ {v : List AV} {u : List Value}, Lts T v → rels ρ v u → rels (cutR T ρ) v u
  | [], u, _, hr => by simpa [rels] using hr
  | v :: vs, u, hl, hr => by
    simp only [Lts] at hl
    simp only [rels] at hr ⊢
    obtain ⟨x, xs, h1, h2, h3⟩ := hr
    exact ⟨x, xs, h1, rel.cut hl.1 h2, rels.cut hl.2 h3⟩
end
def LtF (T : Nat) : Fr → Prop
  | [] => True
  | none :: F => LtF T F
  | some v :: F => Lt T v ∧ LtF T F
theorem LtF.get {T : Nat} : ∀ {F : Fr}, LtF T F → ∀ (t : Nat) (v : AV), F[t]? = some (some v) → Lt T v
  | [], _, t, v, h => by simp at h
  | none :: F, hF, t, v, h => by
    cases t with
    | zero => simp at h
    | succ t => exact LtF.get (F := F) hF t v (by simpa using h)
  | some x :: F, hF, t, v, h => by
    cases t with
    | zero => simp at h; subst h; exact hF.1
    | succ t => exact LtF.get (F := F) hF.2 t v (by simpa using h)
def LtB (T : Nat) : List (Option Blk) → Prop
  | [] => True
  | none :: l => LtB T l
  | some B :: l => (Lts T B.cells ∧ B.rows = none) ∧ LtB T l
theorem LtB.get {T : Nat} : ∀ {l : List (Option Blk)}, LtB T l → ∀ (i : Nat) (B : Blk), l[i]? = some (some B) → Lts T B.cells ∧ B.rows = none
  | [], _, i, B, h => by simp at h
  | none :: l, hl, i, B, h => by
    cases i with
    | zero => simp at h
    | succ i => exact LtB.get (l := l) hl i B (by simpa using h)
  | some C :: l, hl, i, B, h => by
    cases i with
    | zero => simp at h; subst h; exact hl.1
    | succ i => exact LtB.get (l := l) hl.2 i B (by simpa using h)
noncomputable def cutM (T : Nat) (M : Mem) : Mem := ⟨T, 0, M.bs.drop (M.top - T)⟩
theorem cutM_get {T : Nat} {M : Mem} (hT : T ≤ M.top) {b : Nat} {B : Blk} (h : (cutM T M).get b = some B) : b < T ∧ M.get b = some B ∧ (M.bs.drop (M.top - T))[T - 1 - b]? = some (some B) := by
  rw [Mem.get_def] at h
  by_cases hb : b < (cutM T M).top
  · rw [if_pos hb] at h
    cases hC : (M.bs.drop (M.top - T))[T - 1 - b]? with
    | none => rw [show (cutM T M).bs[(cutM T M).top - 1 - b]? = none from hC] at h; cases h
    | some x =>
      cases x with
      | none => rw [show (cutM T M).bs[(cutM T M).top - 1 - b]? = some none from hC] at h; cases h
      | some C =>
        rw [show (cutM T M).bs[(cutM T M).top - 1 - b]? = some (some C) from hC] at h
        have hb : b < T := hb
        simp at h; subst h
        refine ⟨hb, ?_, rfl⟩
        rw [Mem.get_def]
        rw [List.getElem?_drop] at hC
        rw [if_pos (by omega), show M.top - 1 - b = M.top - T + (T - 1 - b) by omega, hC]
  · rw [if_neg hb] at h
    cases h
theorem WR.cut {w0 : World} {ρ : Rho} {M : Mem} {w : World} (h : WR w0 ρ M w) {T : Nat} (hT : T ≤ M.top) (hB : LtB T (M.bs.drop (M.top - T))) : WR w0 (cutR T ρ) (cutM T M) w := by
  have up : ∀ b g, (cutR T ρ) b = some g → b < T ∧ ρ b = some g := fun b g hb => by
    simp only [cutR] at hb
    split at hb
    · rename_i hlt; exact ⟨hlt, hb⟩
    · cases hb
  refine ⟨h.keep, fun b g hb => (up b g hb).1, fun b hb => ?_, fun b B g tot h1 h2 => ?_, fun b B h1 => ?_, fun b b' B B' g t t' h1 h2 h3 h4 => ?_, h.still, h.first, fun b B g t h1 h2 => ?_⟩
  · simp only [cutR] at hb
    split at hb
    · rename_i hlt
      refine ⟨hlt, ?_⟩
      simp only [cutR, if_pos hlt]
      exact (h.nild b hb).2
    · cases hb
  · obtain ⟨q1, q2, q3⟩ := cutM_get hT h1
    obtain ⟨r1, cur, r2, r3, r4⟩ := h.holds q2 (up b _ h2).2
    obtain ⟨s1, s2⟩ := hB.get _ _ q3
    refine ⟨r1, cur, r2, r3, fun i v hv => ?_, fun R hR => by rw [s2] at hR; cases hR⟩
    obtain ⟨u, x1, x2⟩ := r4.1 i v hv
    exact ⟨u, x1, x2.cut (s1.get i v hv)⟩
  · obtain ⟨q1, q2, q3⟩ := cutM_get hT h1
    rcases h.has b B q2 with ⟨g, t, e⟩ | ⟨e1, e2⟩
    · exact .inl ⟨g, t, by simp only [cutR, if_pos q1]; exact e⟩
    · exact .inr ⟨by simp only [cutR, if_pos q1]; exact e1, e2⟩
  · exact h.inj b b' B B' g t t' (cutM_get hT h1).2.1 (cutM_get hT h2).2.1 (up b _ h3).2 (up b' _ h4).2
  · exact h.apart b B g t (cutM_get hT h1).2.1 (up b _ h2).2
theorem LoopTo.stamp {P : Program} {b : Code} {n : Nat} {F : Fr} {M : Mem} {G : Ex → Fr → Mem → Prop} (s : Nat) (h : LoopTo P b n F ⟨M.top, s, M.bs⟩ G) : LoopTo P b n F M G := fun w0 ρ a w Q hF hW hQ => h w0 ρ a w Q hF (hW.restamp s) hQ
/-- a loop's round, behind which new blocks are forgotten -/
theorem roundCut {P : Program} (hP : Plainly P) (hm : P.follows .mixedOrders = true) (l : List (Con P)) (lp : List (Lp P)) (k m : Nat) (f : FuncId) (key : Nat) {fn : Func} {c : Code} (hf : P.funcs[f]? = some fn) (hb : fn.body = some c) (hin : Nat.beq (loopsIn P f key).length 1 = true) (p : List Bool) {n : Nat} {F : Fr} {M : Mem} (d : D) (t : Tr (Ex × Fr × Mem)) {G : Ex → Fr → Mem → Prop}
    (h : codeK P (table l) (callK P (table l) (lpOf lp) k m) (lpOf lp f) k (theBody P f key) F M d (fun ex F' M' _ => .leaf (ex, maskF p F', M')) = t)
    (ht : t.Ok fun r => M.top ≤ r.2.2.top ∧ LtF M.top r.2.1 ∧ LtB M.top (r.2.2.bs.drop (r.2.2.top - M.top)) ∧ match r.1 with | .norm => LoopTo P (theBody P f key) n r.2.1 (cutM M.top r.2.2) G | .exit id => G (.exit id) r.2.1 (cutM M.top r.2.2) | .ret => G .ret r.2.1 (cutM M.top r.2.2)) : LoopTo P (theBody P f key) (n + 1) F M G := fun w0 ρ a w Q hF hW hQ => by
  subst h
  rw [rounds_succ]
  refine codeK_sound hP hm (table_ok l) (callK_ok hP hm (table_ok l) (lps_ok lp) k m) k _ (body_ok lp hf hb hin) hF hW ht fun ex F' M' d' ρ' a' w' h0 h1 h2 h3 => ?_
  obtain ⟨q1, q2, q3, q4⟩ := h0
  have hE : Ext ρ (cutR M.top ρ') := ⟨fun b g hb => by
      have := hW.dom b g hb
      simp only [cutR, if_pos this]
      exact h1.blk b g hb, fun b hb => by
      have := (hW.nild b hb).1
      simp only [cutR, if_pos this]
      exact h1.nil b hb, h1.still, h1.base, h1.mine⟩
  have hF2 : FR (cutR M.top ρ') (maskF p F') a' := ⟨(h2.mask p).len, fun t v hv => ((h2.mask p).val t v hv).cut (q2.get t v hv), h2.defers⟩
  have hW2 := h3.cut q1 q3
  cases ex with
  | norm => exact q4 w0 _ a' w' Q hF2 hW2 fun ex2 F2 M2 ρ2 a2 w2 g r1 r2 r3 => hQ ex2 F2 M2 ρ2 a2 w2 g (hE.trans r1) r2 r3
  | exit id => exact hQ (.exit id) _ _ _ a' w' q4 hE hF2 hW2
  | ret => exact hQ .ret _ _ _ a' w' q4 hE hF2 hW2
mutual
theorem Free.lt {T : Nat} : ∀ {v : AV}, Free v → Lt T v
  | .lit _, _ => by simp only [Lt]
  | .esl, _ => by simp only [Lt]
  | .ptr .., h => by simp [Free] at h
  | .sl .., h => by simp [Free] at h
  | .own .., h => by simp [Free] at h
  | .rptr .., h => by simp [Free] at h
  | .agg cs, h => by
    simp only [Free] at h
    simp only [Lt]
    exact Frees.lt h
  | .tup cs, h => by
    simp only [Free] at h
    simp only [Lt]
    exact Frees.lt h
  | .fn f a b, h => by
    simp only [Free] at h
    simp only [Lt]
    exact ⟨Frees.lt h.1, Frees.lt h.2⟩
  | .view n s cell, h => by
    simp only [Free] at h
    simp only [Lt]
    exact fun i j => Free.lt (h i j)
  | .vptr n cell, h => by
    simp only [Free] at h
    simp only [Lt]
    exact fun j => Free.lt (h j)
theorem Frees.lt {T : Nat} : ∀ {v : List AV}, Frees v → Lts T v
  | [], _ => by simp only [Lts]
  | v :: vs, h => by
    simp only [Frees] at h
    simp only [Lts]
    exact ⟨Free.lt h.1, Frees.lt h.2⟩
end
theorem CallTo.congr {P : Program} {f : FuncId} {args args' : List AV} {M : Mem} {G : AV → Mem → Prop} (h : CallTo P f args' M G) (hc : ∀ ρ us, rels ρ args us → rels ρ args' us) : CallTo P f args M G := fun w0 ρ us w hr hW => h w0 ρ us w (hc ρ us hr) hW
theorem rel_view_congr {n s : Nat} {cell cell' : Nat → Nat → AV} (h : ∀ i j, i < n → j < s → cell i j = cell' i j) {ρ : Rho} {u : Value} (hr : rel ρ (.view n s cell) u) : rel ρ (.view n s cell') u := by
  simp only [rel] at hr ⊢
  obtain ⟨a, cap, h1, h2, h3, h4, h5⟩ := hr
  refine ⟨a, cap, h1, h2, h3, h4, fun hn => ?_⟩
  obtain ⟨g, o, h6, h7⟩ := h5 hn
  refine ⟨g, o, h6, fun i j hi hj => ?_⟩
  obtain ⟨x, h8, h9, h10⟩ := h7 i j hi hj
  exact ⟨x, h8, by rw [← h i j hi hj]; exact h9, h10⟩
end Go.Proofs.YtmlhipckgmbpfaaGreat.Sy
