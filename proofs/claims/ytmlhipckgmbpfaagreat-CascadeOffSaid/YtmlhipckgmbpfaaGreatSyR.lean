/-
  The symbolic interpreter: blocks get other names, so that a loop may append in each round; results that nobody writes any more.
-/
import Derived.Test.YtmlhipckgmbpfaaGreatSyT
import Derived.Test.YtmlhipckgmbpfaaGreatSyV
namespace Go.Proofs.YtmlhipckgmbpfaaGreat.Sy
open Go Go.RowKit
set_option linter.unusedVariables false

/-- by new names: the new name b is the old one that stands at b -/
def pull (σ : List Nat) (ρ : Rho) : Rho := { ρ with blk := fun b => match σ[b]? with | some c => ρ c | none => none, nil := fun b => match σ[b]? with | some c => ρ.nil c | none => false }
theorem pull_blk {σ : List Nat} {ρ : Rho} {b c : Nat} (h : σ[b]? = some c) : (pull σ ρ) b = ρ c := by simp only [pull, h]
theorem pull_nil {σ : List Nat} {ρ : Rho} {b c : Nat} (h : σ[b]? = some c) : (pull σ ρ).nil b = ρ.nil c := by simp only [pull, h]
mutual
/-- the same, but for names -/
def RenV (σ : List Nat) : AV → AV → Prop
  | .lit a, .lit b => a = b
  | .esl, .esl => True
  | .ptr b o, .ptr b2 o2 => σ[b2]? = some b ∧ o = o2
  | .sl b o n c s, .sl b2 o2 n2 c2 s2 => σ[b2]? = some b ∧ o = o2 ∧ n = n2 ∧ c = c2 ∧ s = s2
  | .agg cs, .agg ds => RenVs σ cs ds
  | .tup cs, .tup ds => RenVs σ cs ds
  | .fn f a c, .fn f2 a2 c2 => f = f2 ∧ RenVs σ a a2 ∧ RenVs σ c c2
  | .view n s cell, .view n2 s2 cell2 => n = n2 ∧ s = s2 ∧ ∀ i j, i < n → j < s → RenV σ (cell i j) (cell2 i j)
  | .vptr m cell, .vptr m2 cell2 => m = m2 ∧ ∀ j, j < m → RenV σ (cell j) (cell2 j)
  | .own b n s, .own b2 n2 s2 => σ[b2]? = some b ∧ n = n2 ∧ s = s2
  | .rptr b i s o, .rptr b2 i2 s2 o2 => σ[b2]? = some b ∧ i = i2 ∧ s = s2 ∧ o = o2
  | _, _ => False
def RenVs (σ : List Nat) : List AV → List AV → Prop
  | [], [] => True
  | v :: vs, v2 :: vs2 => RenV σ v v2 ∧ RenVs σ vs vs2
  | _, _ => False
end
mutual
theorem RenV.rel {σ : List Nat} {ρ : Rho} : ∀ {v v2 : AV} {u : Value}, RenV σ v v2 → rel ρ v u → rel (pull σ ρ) v2 u
  | .lit a, v2, u, h, hr => by
    cases v2 <;> simp only [RenV] at h
    subst h; simpa [Sy.rel] using hr
  | .esl, v2, u, h, hr => by
    cases v2 <;> simp only [RenV] at h
    simpa only [Sy.rel] using hr
  | .ptr b o, v2, u, h, hr => by
    cases v2 <;> simp only [RenV] at h
    obtain ⟨h1, rfl⟩ := h
    simp only [Sy.rel] at hr ⊢
    obtain ⟨g, tot, q1, q2⟩ := hr
    exact ⟨g, tot, by rw [pull_blk h1]; exact q1, q2⟩
  | .sl b o n c s, v2, u, h, hr => by
    cases v2 <;> simp only [RenV] at h
    obtain ⟨h1, rfl, rfl, rfl, rfl⟩ := h
    simp only [Sy.rel] at hr ⊢
    obtain ⟨g, tot, cap, q1, q2⟩ := hr
    exact ⟨g, tot, cap, by rw [pull_blk h1]; exact q1, q2⟩
  | .agg cs, v2, u, h, hr => by
    cases v2 <;> simp only [RenV] at h
    simp only [Sy.rel] at hr ⊢
    obtain ⟨l, q1, q2⟩ := hr
    exact ⟨l, q1, RenVs.rels h q2⟩
  | .tup cs, v2, u, h, hr => by
    cases v2 <;> simp only [RenV] at h
    simp only [Sy.rel] at hr ⊢
    obtain ⟨l, q1, q2⟩ := hr
    exact ⟨l, q1, RenVs.rels h q2⟩
  | .fn f a c, v2, u, h, hr => by
    cases v2 <;> simp only [RenV] at h
    obtain ⟨rfl, h1, h2⟩ := h
    simp only [Sy.rel] at hr ⊢
    obtain ⟨l, m, q1, q2, q3⟩ := hr
    exact ⟨l, m, q1, RenVs.rels h1 q2, RenVs.rels h2 q3⟩
  | .view n s cell, v2, u, h, hr => by
    cases v2 <;> simp only [RenV] at h
    obtain ⟨rfl, rfl, h1⟩ := h
    simp only [Sy.rel] at hr ⊢
    obtain ⟨a, cap, q1, q2, q3, q4, q5⟩ := hr
    refine ⟨a, cap, q1, q2, q3, q4, fun hn => ?_⟩
    obtain ⟨g, o, h6, h7⟩ := q5 hn
    refine ⟨g, o, h6, fun i j hi hj => ?_⟩
    obtain ⟨x, h8, h9, h10⟩ := h7 i j hi hj
    exact ⟨x, h8, RenV.rel (h1 i j hi hj) h9, h10⟩
  | .vptr m cell, v2, u, h, hr => by
    cases v2 <;> simp only [RenV] at h
    obtain ⟨rfl, h1⟩ := h
    simp only [Sy.rel] at hr ⊢
    obtain ⟨g, o, q1, q2⟩ := hr
    refine ⟨g, o, q1, fun j hj => ?_⟩
    obtain ⟨x, h8, h9⟩ := q2 j hj
    exact ⟨x, h8, RenV.rel (h1 j hj) h9⟩
  | .own b n s, v2, u, h, hr => by
    cases v2 <;> simp only [RenV] at h
    obtain ⟨h1, rfl, rfl⟩ := h
    simp only [Sy.rel] at hr ⊢
    rcases hr with ⟨q1, q2⟩ | ⟨g, tot, cap, q1, q2⟩
    · exact .inl ⟨by rw [pull_nil h1]; exact q1, q2⟩
    · exact .inr ⟨g, tot, cap, by rw [pull_blk h1]; exact q1, q2⟩
  | .rptr b i s o, v2, u, h, hr => by
    cases v2 <;> simp only [RenV] at h
    obtain ⟨h1, rfl, rfl, rfl⟩ := h
    simp only [Sy.rel] at hr ⊢
    obtain ⟨g, tot, q1, q2⟩ := hr
    exact ⟨g, tot, by rw [pull_blk h1]; exact q1, q2⟩
theorem RenVs.rels {σ : List Nat} {ρ : Rho} : ∀ {l l2 : List AV} {u : List Value}, RenVs σ l l2 → rels ρ l u → rels (pull σ ρ) l2 u
  | [], l2, u, h, hr => by
    cases l2 <;> simp only [RenVs] at h
    simpa only [Sy.rels] using hr
  | v :: vs, l2, u, h, hr => by
    cases l2 <;> simp only [RenVs] at h
    simp only [Sy.rels] at hr ⊢
    obtain ⟨x, xs, q1, q2, q3⟩ := hr
    exact ⟨x, xs, q1, RenV.rel h.1 q2, RenVs.rels h.2 q3⟩
end
mutual
theorem RenV.free (σ : List Nat) : ∀ {v : AV}, Free v → RenV σ v v
  | .lit _, _ => by simp only [RenV]
  | .esl, _ => by simp only [RenV]
  | .ptr .., h => by simp [Free] at h
  | .sl .., h => by simp [Free] at h
  | .own .., h => by simp [Free] at h
  | .rptr .., h => by simp [Free] at h
  | .agg cs, h => by
    simp only [Free] at h
    simp only [RenV]
    exact RenVs.free σ h
  | .tup cs, h => by
    simp only [Free] at h
    simp only [RenV]
    exact RenVs.free σ h
  | .fn f a b, h => by
    simp only [Free] at h
    simp only [RenV]
    exact ⟨trivial, RenVs.free σ h.1, RenVs.free σ h.2⟩
  | .view n s cell, h => by
    simp only [Free] at h
    simp only [RenV]
    exact ⟨trivial, trivial, fun i j _ _ => RenV.free σ (h i j)⟩
  | .vptr n cell, h => by
    simp only [Free] at h
    simp only [RenV]
    exact ⟨trivial, fun j _ => RenV.free σ (h j)⟩
theorem RenVs.free (σ : List Nat) : ∀ {v : List AV}, Frees v → RenVs σ v v
  | [], _ => by simp only [RenVs]
  | v :: vs, h => by
    simp only [Frees] at h
    simp only [RenVs]
    exact ⟨RenV.free σ h.1, RenVs.free σ h.2⟩
end
theorem RenVs.get {σ : List Nat} : ∀ {l l2 : List AV}, RenVs σ l l2 → ∀ (i : Nat) (v2 : AV), l2[i]? = some v2 → ∃ v, l[i]? = some v ∧ RenV σ v v2
  | [], l2, h, i, v2, h2 => by
    cases l2 <;> simp only [RenVs] at h
    simp at h2
  | v :: vs, l2, h, i, v2, h2 => by
    cases l2 <;> simp only [RenVs] at h
    cases i with
    | zero => simp at h2; subst h2; exact ⟨v, rfl, h.1⟩
    | succ i => simpa using RenVs.get h.2 i v2 (by simpa using h2)
/-- frames -/
def RenF (σ : List Nat) : Fr → Fr → Prop
  | [], [] => True
  | _ :: F, none :: F2 => RenF σ F F2
  | some v :: F, some v2 :: F2 => RenV σ v v2 ∧ RenF σ F F2
  | _, _ => False
theorem RenF.len {σ : List Nat} : ∀ {F F2 : Fr}, RenF σ F F2 → F2.length = F.length
  | [], [], _ => rfl
  | x :: F, none :: F2, h => by
    have : RenF σ F F2 := by cases x <;> simpa only [RenF] using h
    simp [RenF.len this]
  | some v :: F, some v2 :: F2, h => by
    simp only [RenF] at h
    simp [RenF.len h.2]
  | [], _ :: _, h => by simp [RenF] at h
  | _ :: _, [], h => by simp [RenF] at h
  | none :: _, some _ :: _, h => by simp [RenF] at h
theorem RenF.get {σ : List Nat} : ∀ {F F2 : Fr}, RenF σ F F2 → ∀ (t : Nat) (v2 : AV), F2[t]? = some (some v2) → ∃ v, F[t]? = some (some v) ∧ RenV σ v v2
  | [], [], _, t, v2, h2 => by simp at h2
  | x :: F, none :: F2, h, t, v2, h2 => by
    have h' : RenF σ F F2 := by cases x <;> simpa only [RenF] using h
    cases t with
    | zero => simp at h2
    | succ t => simpa using RenF.get h' t v2 (by simpa using h2)
  | some v :: F, some w2 :: F2, h, t, v2, h2 => by
    simp only [RenF] at h
    cases t with
    | zero => simp at h2; subst h2; exact ⟨v, rfl, h.1⟩
    | succ t => simpa using RenF.get h.2 t v2 (by simpa using h2)
  | [], _ :: _, h, _, _, _ => by simp [RenF] at h
  | _ :: _, [], h, _, _, _ => by simp [RenF] at h
  | none :: _, some _ :: _, h, _, _, _ => by simp [RenF] at h
theorem RenF.fr {σ : List Nat} {ρ : Rho} {F F2 : Fr} {a : Act} (h : RenF σ F F2) (hF : FR ρ F a) : FR (pull σ ρ) F2 a :=
  ⟨by rw [h.len]; exact hF.len, fun t v2 hv => by
    obtain ⟨v, h1, h2⟩ := h.get t v2 hv
    exact h2.rel (hF.val t v h1), hF.defers⟩
/-- blocks -/
def RenR (σ : List Nat) : Option Rw → Option Rw → Prop
  | none, none => True
  | some R, some R2 => R2.n = R.n ∧ R2.s = R.s ∧ ∀ i j, i < R2.n → j < R2.s → RenV σ (R.cell i j) (R2.cell i j)
  | _, _ => False
def RenB (σ : List Nat) (B B2 : Blk) : Prop := B2.elem = B.elem ∧ RenVs σ B.cells B2.cells ∧ RenR σ B.rows B2.rows
def RenL (σ : List Nat) (M : Mem) : List (Option Blk) → Prop
  | [] => True
  | none :: l => RenL σ M l
  | some B2 :: l => (∃ c B, σ[l.length]? = some c ∧ M.get c = some B ∧ RenB σ B B2) ∧ RenL σ M l
structure RenM (σ : List Nat) (M M2 : Mem) : Prop where
  top : M2.bs.length = M2.top
  names : σ.length = M2.top
  nodup : σ.Nodup
  blks : RenL σ M M2.bs
theorem RenL.get {σ : List Nat} {M : Mem} : ∀ {l : List (Option Blk)}, RenL σ M l → ∀ (i : Nat) (B2 : Blk), l[i]? = some (some B2) → ∃ c B, σ[l.length - 1 - i]? = some c ∧ M.get c = some B ∧ RenB σ B B2
  | [], _, i, B2, h2 => by simp at h2
  | none :: l, h, i, B2, h2 => by
    simp only [RenL] at h
    cases i with
    | zero => simp at h2
    | succ i =>
      have := RenL.get h i B2 (by simpa using h2)
      rw [show (none :: l).length - 1 - (i + 1) = l.length - 1 - i by simp only [List.length_cons]; omega]
      exact this
  | some B :: l, h, i, B2, h2 => by
    simp only [RenL] at h
    cases i with
    | zero =>
      simp at h2; subst h2
      rw [show (some B :: l).length - 1 - 0 = l.length by simp]
      exact h.1
    | succ i =>
      have := RenL.get h.2 i B2 (by simpa using h2)
      rw [show (some B :: l).length - 1 - (i + 1) = l.length - 1 - i by simp only [List.length_cons]; omega]
      exact this
theorem RenM.get {σ : List Nat} {M M2 : Mem} (h : RenM σ M M2) {b : Nat} {B2 : Blk} (hb : M2.get b = some B2) : b < M2.top ∧ ∃ c B, σ[b]? = some c ∧ M.get c = some B ∧ RenB σ B B2 := by
  have hlt := Mem.get_lt hb
  refine ⟨hlt, ?_⟩
  rw [Mem.get_def, if_pos hlt] at hb
  cases hC : M2.bs[M2.top - 1 - b]? with
  | none => rw [hC] at hb; cases hb
  | some x =>
    cases x with
    | none => rw [hC] at hb; cases hb
    | some C =>
      rw [hC] at hb
      simp at hb; subst hb
      obtain ⟨c, B, h1, h2⟩ := h.blks.get _ _ hC
      rw [h.top, show M2.top - 1 - (M2.top - 1 - b) = b by omega] at h1
      exact ⟨c, B, h1, h2⟩
theorem Holds.ren {σ : List Nat} {ρ : Rho} {B B2 : Blk} {cur : Array Value} (h : RenB σ B B2) (hH : Holds ρ B cur) : Holds (pull σ ρ) B2 cur := by
  obtain ⟨h1, h2, h3⟩ := h
  refine ⟨fun i v2 hv => ?_, fun R2 hR i j hi hj => ?_⟩
  · obtain ⟨v, q1, q2⟩ := h2.get i v2 hv
    obtain ⟨u, q3, q4⟩ := hH.1 i v q1
    exact ⟨u, q3, q2.rel q4⟩
  · rw [hR] at h3
    cases hB : B.rows with
    | none => rw [hB] at h3; simp only [RenR] at h3
    | some R =>
      rw [hB] at h3
      simp only [RenR] at h3
      obtain ⟨e1, e2, e3⟩ := h3
      obtain ⟨u, q3, q4, q5⟩ := hH.2 R hB i j (by omega) (by omega)
      exact ⟨u, by rw [e2]; exact q3, (e3 i j hi hj).rel q4, q5⟩
/-- what a memory says of a world, by other names -/
theorem WR.ren {w0 : World} {ρ : Rho} {M M2 : Mem} {w : World} {σ : List Nat} (h : WR w0 ρ M w) (hM : RenM σ M M2) : WR w0 (pull σ ρ) M2 w := by
  have dom : ∀ b c, σ[b]? = some c → b < M2.top := fun b c hb => by
    rw [← hM.names]; exact (List.getElem?_eq_some_iff.1 hb).1
  have inj : ∀ b b' c, σ[b]? = some c → σ[b']? = some c → b = b' := fun b b' c h1 h2 => by
    obtain ⟨q1, q2⟩ := List.getElem?_eq_some_iff.1 h1
    obtain ⟨q3, q4⟩ := List.getElem?_eq_some_iff.1 h2
    have hp := List.pairwise_iff_getElem.1 hM.nodup
    rcases Nat.lt_trichotomy b b' with hl | hl | hl
    · exact absurd (q2.trans q4.symm) (hp b b' q1 q3 hl)
    · exact hl
    · exact absurd (q4.trans q2.symm) (hp b' b q3 q1 hl)
  have up : ∀ b x, (pull σ ρ) b = some x → ∃ c, σ[b]? = some c ∧ ρ c = some x := fun b x hb => by
    simp only [pull] at hb
    split at hb
    · rename_i c hc; exact ⟨c, hc, hb⟩
    · cases hb
  refine ⟨h.keep, fun b g hb => ?_, fun b hb => ?_, fun b B g tot h1 h2 => ?_, fun b B h1 => ?_, fun b b' B B' g t t' h1 h2 h3 h4 => ?_, h.still, h.first, fun b B g t h1 h2 => ?_⟩
  · obtain ⟨c, hc, _⟩ := up b g hb
    exact dom b c hc
  · have hb' := hb
    simp only [pull] at hb
    split at hb
    · rename_i c hc
      exact ⟨dom b c hc, by rw [pull_blk hc]; exact (h.nild c hb).2⟩
    · cases hb
  · obtain ⟨_, c, C, q1, q2, q3⟩ := hM.get h1
    rw [pull_blk q1] at h2
    obtain ⟨r1, cur, r2, r3, r4⟩ := h.holds q2 h2
    exact ⟨r1, cur, by rw [q3.1]; exact r2, r3, Holds.ren q3 r4⟩
  · obtain ⟨_, c, C, q1, q2, q3⟩ := hM.get h1
    rcases h.has c C q2 with ⟨g, t, e⟩ | ⟨e1, e2, R, e3, e4⟩
    · exact .inl ⟨g, t, by rw [pull_blk q1]; exact e⟩
    · refine .inr ⟨by rw [pull_nil q1]; exact e1, ?_, ?_⟩
      · have := q3.2.1
        rw [e2] at this
        cases hc : B.cells with
        | nil => rfl
        | cons x xs => rw [hc] at this; simp [RenVs] at this
      · have := q3.2.2
        rw [e3] at this
        cases hc : B.rows with
        | none => rw [hc] at this; simp [RenR] at this
        | some R2 => rw [hc] at this; simp only [RenR] at this; exact ⟨R2, rfl, by omega⟩
  · obtain ⟨_, c, C, q1, q2, _⟩ := hM.get h1
    obtain ⟨_, c', C', q1', q2', _⟩ := hM.get h2
    rw [pull_blk q1] at h3
    rw [pull_blk q1'] at h4
    have := h.inj c c' C C' g t t' q2 q2' h3 h4
    subst this
    exact inj b b' c q1 q1'
  · obtain ⟨_, c, C, q1, q2, _⟩ := hM.get h1
    rw [pull_blk q1] at h2
    exact h.apart c C g t q2 h2

/-! ### Loops whose names above T are their own -/
def LoopToT (T : Nat) (P : Program) (body : Code) (n : Nat) (F : Fr) (M : Mem) (G : Ex → Fr → Mem → Prop) : Prop := ∀ w0 ρ a w (Q : Exit → Act → World → Prop), FR ρ F a → WR w0 ρ M w →
  (∀ ex F' M' ρ' a' w', G ex F' M' → Ext (cutR T ρ) ρ' → FR ρ' F' a' → WR w0 ρ' M' w' → Q ex.to a' w') → Code.rounds P body Q n a w
theorem Ext.cutR {ρ ρ' : Rho} (T : Nat) (h : Ext ρ ρ') : Ext (cutR T ρ) ρ' := ⟨fun b g hb => (by
    simp only [Sy.cutR] at hb
    split at hb
    · exact h.blk b g hb
    · cases hb), fun b hb => (by
    simp only [Sy.cutR] at hb
    split at hb
    · exact h.nil b hb
    · cases hb), h.still, h.base, h.mine⟩
theorem LoopTo.toT {P : Program} {b : Code} {n : Nat} {F : Fr} {M : Mem} {G : Ex → Fr → Mem → Prop} (T : Nat) (h : LoopTo P b n F M G) : LoopToT T P b n F M G := fun w0 ρ a w Q hF hW hQ => h w0 ρ a w Q hF hW fun ex F' M' ρ' a' w' hg h1 h2 h3 => hQ ex F' M' ρ' a' w' hg (h1.cutR T) h2 h3
/-- where all names at the start lie below T -/
theorem LoopToT.to {T : Nat} {P : Program} {b : Code} {n : Nat} {F : Fr} {M : Mem} {G : Ex → Fr → Mem → Prop} (h : LoopToT T P b n F M G) (hT : M.top ≤ T) : LoopTo P b n F M G := fun w0 ρ a w Q hF hW hQ => h w0 ρ a w Q hF hW fun ex F' M' ρ' a' w' hg h1 h2 h3 => hQ ex F' M' ρ' a' w' hg ⟨fun b g hb => h1.blk b g (by
    have := hW.dom b g hb
    simp only [Sy.cutR, if_pos (show b < T by omega)]; exact hb), fun b hb => h1.nil b (by
    have := (hW.nild b hb).1
    simp only [Sy.cutR, if_pos (show b < T by omega)]; exact hb), h1.still, h1.base, h1.mine⟩ h2 h3
theorem LoopToT.mono {T : Nat} {P : Program} {b : Code} {n : Nat} {F : Fr} {M : Mem} {G H : Ex → Fr → Mem → Prop} (h : LoopToT T P b n F M G) (hG : ∀ ex F M, G ex F M → H ex F M) : LoopToT T P b n F M H := fun w0 ρ a w Q hF hW hQ => h w0 ρ a w Q hF hW fun ex F' M' ρ' a' w' hg => hQ ex F' M' ρ' a' w' (hG ex F' M' hg)
theorem LoopToT.mask {T : Nat} {P : Program} {b : Code} {n : Nat} {F : Fr} {M : Mem} {G : Ex → Fr → Mem → Prop} (p : List Bool) (h : LoopToT T P b n (maskF p F) M G) : LoopToT T P b n F M G := fun w0 ρ a w Q hF hW hQ => h w0 ρ a w Q (hF.mask p) hW hQ
theorem LoopToT.stamp {T : Nat} {P : Program} {b : Code} {n : Nat} {F : Fr} {T0 s : Nat} {bs : List (Option Blk)} {G : Ex → Fr → Mem → Prop} (s' : Nat) (h : LoopToT T P b n F ⟨T0, s', bs⟩ G) : LoopToT T P b n F ⟨T0, s, bs⟩ G := fun w0 ρ a w Q hF hW hQ => h w0 ρ a w Q hF (hW.restamp s') hQ
/-- a slice that is nil gets a name -/
theorem LoopToT.nil {T : Nat} {P : Program} {b : Code} {n : Nat} {F : Fr} {M : Mem} {G : Ex → Fr → Mem → Prop} (t : Nat) (e : TypeId) (s : Nat) (cell : Nat → Nat → AV) (hT : T ≤ M.top) (ht : F[t]? = some (some (.lit (.slice none 0 0)))) (h : LoopToT T P b n (F.set t (some (.own M.top 0 s))) (M.push ⟨[], e, some ⟨0, s, cell⟩⟩) G) : LoopToT T P b n F M G := fun w0 ρ a w Q hF hW hQ => by
  obtain ⟨h1, h2, h3⟩ := hW.virt e s cell
  refine h w0 _ a w Q ⟨by rw [List.length_set]; exact hF.len, fun t' v hv => ?_, hF.defers⟩ h3 fun ex F' M' ρ' a' w' hg q1 q2 q3 => hQ ex F' M' ρ' a' w' hg ?_ q2 q3
  · rw [List.getElem?_set] at hv
    by_cases e1 : t = t'
    · subst e1
      simp only [if_true] at hv
      split at hv
      · simp at hv; subst hv
        have := hF.val t _ ht
        simp only [rel] at this ⊢
        exact .inl ⟨h2, trivial, this⟩
      · cases hv
    · rw [if_neg e1] at hv
      exact (hF.val t' v hv).ext h1
  · exact ⟨fun b g hb => q1.blk b g (by
      simp only [Sy.cutR] at hb ⊢
      split at hb
      · rename_i hlt; rw [if_pos hlt]; exact h1.blk b g hb
      · cases hb), fun b hb => q1.nil b (by
      simp only [Sy.cutR] at hb ⊢
      split at hb
      · rename_i hlt; rw [if_pos hlt]; exact h1.nil b hb
      · cases hb), fun g o v hv => q1.still g o v (h1.still g o v hv), q1.base.trans h1.base, q1.mine.trans h1.mine⟩
/-- names at the start of a loop are changed -/
theorem LoopToT.ren {T : Nat} {P : Program} {b : Code} {n : Nat} {F F2 : Fr} {M M2 : Mem} {G : Ex → Fr → Mem → Prop} (σ : List Nat) (h0 : σ.take T = List.range T) (hF2 : RenF σ F F2) (hM : RenM σ M M2) (h : LoopToT T P b n F2 M2 G) : LoopToT T P b n F M G := fun w0 ρ a w Q hF hW hQ => by
  have id : ∀ b, b < T → σ[b]? = some b := fun b hb => by
    have : (σ.take T)[b]? = some b := by rw [h0]; simp [hb]
    rwa [List.getElem?_take, if_pos hb] at this
  refine h w0 _ a w Q (hF2.fr hF) (hW.ren hM) fun ex F' M' ρ' a' w' hg q1 q2 q3 => hQ ex F' M' ρ' a' w' hg ⟨fun b g hb => q1.blk b g ?_, fun b hb => q1.nil b ?_, q1.still, q1.base, q1.mine⟩ q2 q3
  · simp only [Sy.cutR] at hb ⊢
    split at hb
    · rename_i hlt; rw [if_pos hlt]; show (pull σ ρ) b = _; rw [pull_blk (id b hlt)]; exact hb
    · cases hb
  · simp only [Sy.cutR] at hb ⊢
    split at hb
    · rename_i hlt; rw [if_pos hlt]; show (pull σ ρ).nil b = _; rw [pull_nil (id b hlt)]; exact hb
    · cases hb
/-- how a round ends -/
def EndT (T : Nat) (P : Program) (body : Code) (n : Nat) (G : Ex → Fr → Mem → Prop) (ex : Ex) (F : Fr) (M : Mem) : Prop := match ex with
  | .norm => LoopToT T P body n F M G
  | .exit id => G (.exit id) F M
  | .ret => G .ret F M
/-- a loop's round; the names at its end are changed -/
theorem roundT {P : Program} (hP : Plainly P) (hm : P.follows .mixedOrders = true) (T : Nat) (l : List (Con P)) (lp : List (Lp P)) (k m : Nat) (f : FuncId) (key : Nat) {fn : Func} {c : Code} (hf : P.funcs[f]? = some fn) (hb : fn.body = some c) (hin : Nat.beq (loopsIn P f key).length 1 = true) (p : List Bool) {n : Nat} {F : Fr} {M : Mem} (d : D) (t : Tr (Ex × Fr × Mem)) {G : Ex → Fr → Mem → Prop}
    (h : codeK P (table l) (callK P (table l) (lpOf lp) k m) (lpOf lp f) k (theBody P f key) F M d (fun ex F' M' _ => .leaf (ex, maskF p F', M')) = t)
    (ht : t.Ok fun r => EndT T P (theBody P f key) n G r.1 r.2.1 r.2.2) : LoopToT T P (theBody P f key) (n + 1) F M G := fun w0 ρ a w Q hF hW hQ => by
  subst h
  rw [rounds_succ]
  refine codeK_sound hP hm (table_ok l) (callK_ok hP hm (table_ok l) (lps_ok lp) k m) k _ (body_ok lp hf hb hin) hF hW ht fun ex F' M' d' ρ' a' w' h0 h1 h2 h3 => ?_
  cases ex with
  | norm => exact h0 w0 _ a' w' Q (h2.mask p) h3 fun ex2 F2 M2 ρ2 a2 w2 g r1 r2 r3 => hQ ex2 F2 M2 ρ2 a2 w2 g ⟨fun b g hb => r1.blk b g (by
      simp only [Sy.cutR] at hb ⊢
      split at hb
      · rename_i hlt; rw [if_pos hlt]; exact h1.blk b g hb
      · cases hb), fun b hb => r1.nil b (by
      simp only [Sy.cutR] at hb ⊢
      split at hb
      · rename_i hlt; rw [if_pos hlt]; exact h1.nil b hb
      · cases hb), fun g o v hv => r1.still g o v (h1.still g o v hv), r1.base.trans h1.base, r1.mine.trans h1.mine⟩ r2 r3
  | exit id => exact hQ (.exit id) _ _ _ a' w' h0 (h1.cutR T) (h2.mask p) h3
  | ret => exact hQ .ret _ _ _ a' w' h0 (h1.cutR T) (h2.mask p) h3
end Go.Proofs.YtmlhipckgmbpfaaGreat.Sy
namespace Go.Proofs.YtmlhipckgmbpfaaGreat.Sy
open Go Go.RowKit
set_option linter.unusedVariables false

/-- cells that are written no more: those of the run's own blocks, and what stood still -/
noncomputable def frz (keep : Bool) (M : Mem) (ρ : Rho) (w : World) : Nat → Nat → Option Value := fun g o => by
  classical
  exact if ∃ b B t, M.get b = some B ∧ ρ b = some (g, t) ∧ ρ.mine g = false then w.cell? ⟨g, o, none⟩ else match keep with | true => ρ.still g o | false => none
def ofS (st : Nat → Nat → Option Value) : Rho := ⟨fun _ => none, fun _ => false, st, st, fun _ => false⟩
/-- the blocks that are ours lie below T -/
def MineT (T : Nat) (M : Mem) (ρ : Rho) : Prop := ∀ g, ρ.mine g = true → ∃ b t B, b < T ∧ M.get b = some B ∧ ρ b = some (g, t)
def Frz (keep : Bool) (T : Nat) (M : Mem) (v v0 : AV) : Prop := ∀ w0 ρ w u, WR w0 ρ M w → MineT T M ρ → rel ρ v u → rel (ofS (frz keep M ρ w)) v0 u
def Frzs (keep : Bool) (T : Nat) (M : Mem) : List AV → List AV → Prop
  | [], [] => True
  | v :: l, v0 :: l0 => Frz keep T M v v0 ∧ Frzs keep T M l l0
  | _, _ => False
theorem frz_still {w0 : World} {ρ : Rho} {M : Mem} {w : World} (hW : WR w0 ρ M w) {g o : Nat} {x : Value} (h : ρ.still g o = some x) : frz true M ρ w g o = some x := by
  unfold frz
  split
  · exact hW.still g o x h
  · exact h
theorem frz_own {w0 : World} {ρ : Rho} {M : Mem} {w : World} {T : Nat} (hW : WR w0 ρ M w) (hm : MineT T M ρ) {keep : Bool} {b g t o : Nat} {B : Blk} (hb : M.get b = some B) (hg : ρ b = some (g, t)) (hT : T ≤ b) : frz keep M ρ w g o = w.cell? ⟨g, o, none⟩ := by
  unfold frz
  rw [if_pos]
  refine ⟨b, B, t, hb, hg, ?_⟩
  cases h : ρ.mine g with
  | false => rfl
  | true =>
    obtain ⟨b', t', B', q1, q2, q3⟩ := hm g h
    have := hW.inj b b' B B' g t t' hb q2 hg q3
    omega
theorem Frz.lit (keep : Bool) (T : Nat) (M : Mem) (v : Value) : Frz keep T M (.lit v) (.lit v) := fun w0 ρ w u hW hm hr => by simpa only [rel] using hr
theorem Frz.free (T : Nat) (M : Mem) {v : AV} (hf : Free v) : Frz true T M v v := fun w0 ρ w u hW hm hr => rel.free (fun g o x h => frz_still hW h) hf hr
theorem Frzs.rels {keep : Bool} {T : Nat} {M : Mem} : ∀ {l l0 : List AV}, Frzs keep T M l l0 → ∀ {w0 ρ w us}, WR w0 ρ M w → MineT T M ρ → rels ρ l us → rels (ofS (frz keep M ρ w)) l0 us
  | [], l0, h, w0, ρ, w, us, hW, hm, hr => by
    cases l0 <;> simp only [Frzs] at h
    simpa only [Sy.rels] using hr
  | v :: l, l0, h, w0, ρ, w, us, hW, hm, hr => by
    cases l0 <;> simp only [Frzs] at h
    simp only [Sy.rels] at hr ⊢
    obtain ⟨x, xs, q1, q2, q3⟩ := hr
    exact ⟨x, xs, q1, h.1 w0 ρ w x hW hm q2, Frzs.rels h.2 hW hm q3⟩
theorem Frz.agg {keep : Bool} {T : Nat} {M : Mem} {l l0 : List AV} (h : Frzs keep T M l l0) : Frz keep T M (.agg l) (.agg l0) := fun w0 ρ w u hW hm hr => by
  simp only [rel] at hr ⊢
  obtain ⟨us, q1, q2⟩ := hr
  exact ⟨us, q1, h.rels hW hm q2⟩
theorem Frz.tup {keep : Bool} {T : Nat} {M : Mem} {l l0 : List AV} (h : Frzs keep T M l l0) : Frz keep T M (.tup l) (.tup l0) := fun w0 ρ w u hW hm hr => by
  simp only [rel] at hr ⊢
  obtain ⟨us, q1, q2⟩ := hr
  exact ⟨us, q1, h.rels hW hm q2⟩
/-- a slice of the run's own -/
theorem Frz.own {keep : Bool} {T : Nat} {M : Mem} {b n s : Nat} {B : Blk} {R : Rw} {cell : Nat → Nat → AV} (hT : T ≤ b) (hb : M.get b = some B) (hR : B.rows = some R) (hn : n ≤ R.n) (hs : R.s = s) (hc : ∀ i j, i < n → j < s → Frz keep T M (R.cell i j) (cell i j)) : Frz keep T M (.own b n s) (.view n s cell) := fun w0 ρ w u hW hm hr => by
  simp only [rel] at hr ⊢
  rcases hr with ⟨_, rfl, rfl⟩ | ⟨g, tot, cap, hg, rfl, h1, h2, h3⟩
  · exact ⟨none, 0, rfl, Nat.le_refl _, by unfold maxLen; omega, fun _ => rfl, fun h => by omega⟩
  · obtain ⟨q2, cur, q3, q4, q5⟩ := hW.holds hb hg
    refine ⟨_, cap, rfl, h1, h2, (fun h => by cases h), fun _ => ⟨g, 0, rfl, fun i j hi hj => ?_⟩⟩
    obtain ⟨x, r1, r2, r3⟩ := q5.2 R hR i j (by omega) (by omega)
    refine ⟨x, ?_, hc i j hi hj w0 ρ w x hW hm r2, r3⟩
    show frz keep M ρ w g _ = _
    rw [frz_own hW hm hb hg hT, cell_at q3, Nat.zero_add, ← hs]; exact r1
theorem Frz.sl {keep : Bool} {T : Nat} {M : Mem} {b n s : Nat} {c : Option Nat} {B : Blk} {cell : Nat → Nat → AV} (hT : T ≤ b) (hb : M.get b = some B) (hc : ∀ i j, i < n → j < s → ∃ v, B.cells[i * s + j]? = some v ∧ Frz keep T M v (cell i j) ∧ oneA v = true) : Frz keep T M (.sl b 0 n c s) (.view n s cell) := fun w0 ρ w u hW hm hr => by
  simp only [rel] at hr ⊢
  obtain ⟨g, tot, cap, hg, rfl, h1, h2, _, h3⟩ := hr
  obtain ⟨q2, cur, q3, q4, q5⟩ := hW.holds hb hg
  refine ⟨_, cap, rfl, h1, h2, (fun h => by cases h), fun _ => ⟨g, 0, rfl, fun i j hi hj => ?_⟩⟩
  obtain ⟨v, r1, r2, r3⟩ := hc i j hi hj
  obtain ⟨x, r5, r6⟩ := q5.1 _ _ r1
  refine ⟨x, ?_, r2 w0 ρ w x hW hm r6, r6.one r3⟩
  show frz keep M ρ w g _ = _
  rw [frz_own hW hm hb hg hT, cell_at q3, Nat.zero_add]; exact r5
/-- nil, or no element -/
theorem Frz.nil (keep : Bool) (T : Nat) (M : Mem) (s : Nat) (cell : Nat → Nat → AV) : Frz keep T M (.lit (.slice none 0 0)) (.view 0 s cell) := fun w0 ρ w u hW hm hr => by
  simp only [rel] at hr ⊢
  exact ⟨none, 0, hr, Nat.le_refl _, Nat.zero_le _, fun _ => rfl, fun h => absurd h (by omega)⟩
theorem Frz.sub {keep : Bool} {T : Nat} {M : Mem} {v v0 v1 : AV} (h : Frz keep T M v v0) (hs : Sub v0 v1) : Frz keep T M v v1 := fun w0 ρ w u hW hm hr => hs _ _ (h w0 ρ w u hW hm hr)

/-- how a callee's world starts -/
def startK (keep : Bool) (ρ : Rho) (w : World) : Rho := match keep with | true => ofS ρ.still | false => rho0 w
theorem startK_start {w0 : World} {ρ : Rho} {M : Mem} {w : World} (hW : WR w0 ρ M w) (keep : Bool) : WR w (startK keep ρ w) ⟨0, 0, []⟩ w := by
  cases keep with
  | false => exact WR.start w
  | true => exact ⟨Keep.refl _ _, fun _ _ h => by simp [startK, ofS] at h, fun _ h => by simp [startK, ofS] at h, fun b B _ _ h => by simp [Mem.get_def] at h, fun b B h => by simp [Mem.get_def] at h, fun b b' B B' g t t' h => by simp [Mem.get_def] at h,
    fun g o v h => hW.still g o v h, fun g o v _ _ h => h, fun b B g t h => by simp [Mem.get_def] at h⟩
def ConvK (keep : Bool) (M : Mem) (args args1 : List AV) : Prop := ∀ (w0 : World) (ρ : Rho) (w : World) (us : List Value), WR w0 ρ M w → rels ρ args us → rels (startK keep ρ w) args1 us
theorem ConvK.free (M : Mem) {args : List AV} (h : Frees args) : ConvK true M args args := fun w0 ρ w us hW hr => rels.free (ρ := ρ) (ρ' := startK true ρ w) (fun _ _ _ h => h) h hr
theorem ConvK.conv {M : Mem} {args args1 : List AV} (h : Conv M args args1) : ConvK false M args args1 := fun w0 ρ w us hW hr => h w0 ρ w us hW hr
/-- a callee that writes into nothing that stood: what it gives is written no more -/
theorem CallTo.frz {P : Program} {f : FuncId} {args args1 : List AV} {v0 : AV} {keep : Bool} {M : Mem} (h : CallTo P f args1 ⟨0, 0, []⟩ fun v M' => Frz keep 0 M' v v0) (hc : ConvK keep M args args1) (hf : Free v0) : CallTo P f args M fun v M' => v = v0 ∧ M' = M := fun w0 ρ us w hr hW => by
  refine (h w (startK keep ρ w) us w (hc w0 ρ w us hW hr) (startK_start hW keep)).mono ?_
  rintro e w' ⟨ρ', u, v, M', rfl, hE, hv, hW', hG⟩
  have hmine : ∀ g, ρ'.mine g = false := fun g => by rw [hE.mine]; cases keep <;> rfl
  have hbelow : Below w.heap.size w w' := by
    have := hW'.keep
    rw [show ρ'.mine = fun _ => false from funext hmine] at this
    exact Keep.below this
  obtain ⟨q1, q2⟩ := hW.grown hbelow (fun g o => if w.heap.size ≤ g then w'.cell? ⟨g, o, none⟩ else none) (fun g o v hv => by
    split at hv
    · rename_i hh; exact ⟨hh, hv⟩
    · cases hv)
  refine ⟨_, u, v0, M, rfl, q1, rel.free (fun g o x hx => ?_) hf (hG w ρ' w' u hW' (fun g hg => by rw [hmine] at hg; cases hg) hv), q2, rfl, rfl⟩
  have new : ∀ {g o x}, w.heap.size ≤ g → w'.cell? ⟨g, o, none⟩ = some x → (more ρ fun g o => if w.heap.size ≤ g then w'.cell? ⟨g, o, none⟩ else none).still g o = some x := fun {g o x} hg hx => by
    simp only [more]
    rw [if_pos hg, hx]
    cases hs : ρ.still g o with
    | none => rfl
    | some y => have := hW.still_lt hs; omega
  have hx : Sy.frz keep M' ρ' w' g o = some x := hx
  unfold Sy.frz at hx
  split at hx
  · rename_i hh
    obtain ⟨b, B, t, r1, r2, r3⟩ := hh
    obtain ⟨r4, _⟩ := hW'.holds r1 r2
    rcases r4 with r4 | r4
    · exact new r4 hx
    · rw [hmine] at r4; cases r4
  · cases keep with
    | false => cases hx
    | true =>
      rcases Nat.lt_or_ge g w.heap.size with hg | hg
      · have h1 := hW'.first g o x hg (hmine g) hx
        rw [hE.base] at h1
        have h2 : ρ.still g o = some x := h1
        simp only [more, h2]; rfl
      · exact new hg (hW'.still g o x hx)
/-- the same, at the start -/
theorem CallTo.frz0 {P : Program} {f : FuncId} {args : List AV} {v0 : AV} (h : CallTo P f args ⟨0, 0, []⟩ fun v M' => Frz true 0 M' v v0) (ha : Frees args) (hf : Free v0) : CallTo P f args ⟨0, 0, []⟩ fun v _ => v = v0 :=
  (CallTo.frz (M := ⟨0, 0, []⟩) h (ConvK.free _ ha) hf).mono fun v M' hv => hv.1
/-- a contract that reads what is given, and gives what is new -/
noncomputable def atF {X : Type} {P : Program} (f : FuncId) (get : List AV → Mem → Option X) (args1 : X → List AV) (v0 : X → AV) (C : X → Prop) (h : ∀ x, C x → Free (v0 x) ∧ CallTo P f (args1 x) ⟨0, 0, []⟩ fun v M' => Frz false 0 M' v (v0 x)) : Con P where
  f := f
  run := fun args M => match get args M with | some x => some (v0 x, M) | none => none
  ob := fun args M => match get args M with | some x => some (isSo (Conv M args (args1 x) ∧ C x)) | none => none
  ok := fun args M v M' hr hob => by
    cases hg : get args M with
    | none => rw [hg] at hr; cases hr
    | some x =>
      rw [hg] at hr hob
      simp at hr
      obtain ⟨rfl, rfl⟩ := hr
      have h1 := hob _ rfl
      rw [isSo_t] at h1
      obtain ⟨hc, hC⟩ := h1
      obtain ⟨hf, h2⟩ := h x hC
      exact ⟨Grow.refl _, CallTo.frz h2 (ConvK.conv hc) hf⟩

/-! ### A callee that writes into one block -/
theorem rels.ext0' {ρ ρ' : Rho} (h1 : ρ'.blk = ρ.blk) (h2 : ρ'.nil = ρ.nil) (h3 : ρ'.still = ρ.still) {l : List AV} {us : List Value} (h : rels ρ l us) : rels ρ' l us := rels.ext0 ⟨fun b g hb => by rw [h1]; exact hb, fun b hb => by rw [h2]; exact hb, fun g o v hv => by rw [h3]; exact hv⟩ h
theorem rel.ext0' {ρ ρ' : Rho} (h1 : ρ'.blk = ρ.blk) (h2 : ρ'.nil = ρ.nil) (h3 : ρ'.still = ρ.still) {v : AV} {u : Value} (h : rel ρ v u) : rel ρ' v u := rel.ext0 ⟨fun b g hb => by rw [h1]; exact hb, fun b hb => by rw [h2]; exact hb, fun g o v hv => by rw [h3]; exact hv⟩ h
theorem Frzs.get {keep : Bool} {T : Nat} {M : Mem} : ∀ {l l0 : List AV}, Frzs keep T M l l0 → ∀ (i : Nat) (v0 : AV), l0[i]? = some v0 → ∃ v, l[i]? = some v ∧ Frz keep T M v v0
  | [], l0, h, i, v0, h2 => by
    cases l0 <;> simp only [Frzs] at h
    simp at h2
  | v :: vs, l0, h, i, v0, h2 => by
    cases l0 <;> simp only [Frzs] at h
    cases i with
    | zero => simp at h2; subst h2; exact ⟨v, rfl, h.1⟩
    | succ i => simpa using Frzs.get h.2 i v0 (by simpa using h2)
theorem Frees.get : ∀ {l : List AV}, Frees l → ∀ (i : Nat) (v : AV), l[i]? = some v → Free v
  | [], _, i, v, h2 => by simp at h2
  | x :: l, h, i, v, h2 => by
    simp only [Frees] at h
    cases i with
    | zero => simp at h2; subst h2; exact h.1
    | succ i => exact Frees.get h.2 i v (by simpa using h2)
theorem CallTo.frame1 {P : Program} {f : FuncId} {args args1 : List AV} {v0 : AV} {M : Mem} {b : Nat} {B0 B B' : Blk} (h : CallTo P f args1 ⟨1, 0, [some B]⟩ fun v M' => Frz true 1 M' v v0 ∧ ∃ B2, M'.get 0 = some B2 ∧ B2.elem = B'.elem ∧ Frzs true 1 M' B2.cells B'.cells)
    (hargs : RenVs [b] args args1) (hb : M.get b = some B0) (hB0 : RenB [b] B0 B) (h0 : B0.rows = none) (hB' : B'.rows = none) (hel : B'.elem = B0.elem) (hfc : Frees B'.cells) (hf : Free v0) :
    CallTo P f args M fun v M' => v = v0 ∧ M' = M.put b (some B') := fun w0 ρ us w hr hW => by
  obtain ⟨g0, tot, hg⟩ : ∃ g t, ρ b = some (g, t) := by
    rcases hW.has b B0 hb with h1 | ⟨_, _, R, h2, _⟩
    · exact h1
    · rw [h0] at h2; cases h2
  obtain ⟨hm0, cur, hcur, hsz, hH⟩ := hW.holds hb hg
  have hglt : g0 < w.heap.size := (Array.getElem?_eq_some_iff.1 hcur).1
  let ρ1 : Rho := { pull [b] ρ with base := ρ.still, mine := fun k => k == g0 }
  have p0 : ρ1 0 = some (g0, tot) := by show (pull [b] ρ) 0 = _; rw [pull_blk (c := b) rfl]; exact hg
  have pn : ∀ k, ρ1 (k + 1) = none := fun k => rfl
  have nn : ∀ k, ρ1.nil k = false := fun k => by
    cases k with
    | zero =>
      show ρ.nil b = false
      cases hn : ρ.nil b with
      | false => rfl
      | true => have := (hW.nild b hn).2; rw [hg] at this; cases this
    | succ k => rfl
  have g1 : ∀ k C, Mem.get ⟨1, 0, [some B]⟩ k = some C → k = 0 ∧ C = B := fun k C hk => by
    have := Mem.get_lt hk
    obtain rfl : k = 0 := by simp only at this; omega
    exact ⟨rfl, by rw [Mem.get_def] at hk; simp at hk; exact hk.symm⟩
  have hst : WR w ρ1 ⟨1, 0, [some B]⟩ w := by
    refine ⟨Keep.refl _ _, fun k x hk => ?_, fun k hk => (by rw [nn] at hk; cases hk), fun k C g t h1 h2 => ?_, fun k C h1 => ?_, fun k k' C C' g t t' h1 h2 h3 h4 => (g1 k C h1).1.trans (g1 k' C' h2).1.symm, fun g o v hv => hW.still g o v hv, fun g o v _ _ hv => hv, fun k C g t h1 h2 o => ?_⟩
    · cases k with
      | zero => show 0 < 1; omega
      | succ k => rw [pn] at hk; cases hk
    · obtain ⟨rfl, rfl⟩ := g1 k C h1
      rw [p0] at h2
      simp at h2
      obtain ⟨rfl, rfl⟩ := h2
      obtain ⟨c1, c2⟩ : Holds (pull [b] ρ) C cur := Holds.ren hB0 hH
      refine ⟨.inr (by show (g0 == g0) = true; simp), cur, by rw [hB0.1]; exact hcur, hsz, fun i v hv => ?_, fun R hR i j hi hj => ?_⟩
      · obtain ⟨u, q1, q2⟩ := c1 i v hv
        exact ⟨u, q1, rel.ext0' (ρ := pull [b] ρ) (ρ' := ρ1) rfl rfl rfl q2⟩
      · obtain ⟨u, q1, q2, q3⟩ := c2 R hR i j hi hj
        exact ⟨u, q1, rel.ext0' (ρ := pull [b] ρ) (ρ' := ρ1) rfl rfl rfl q2, q3⟩
    · obtain ⟨rfl, rfl⟩ := g1 k C h1
      exact .inl ⟨g0, tot, p0⟩
    · obtain ⟨rfl, rfl⟩ := g1 k C h1
      rw [p0] at h2
      simp at h2
      obtain ⟨rfl, rfl⟩ := h2
      exact hW.apart b B0 g0 tot hb hg o
  refine (h w ρ1 us w (rels.ext0' (ρ := pull [b] ρ) (ρ' := ρ1) rfl rfl rfl (hargs.rels hr)) hst).mono ?_
  rintro e w' ⟨ρ', u, v, M', rfl, hE, hv, hW', hG, B2, hB2, hel2, hcells⟩
  have hmine : ∀ g, ρ'.mine g = (g == g0) := fun g => by rw [hE.mine]
  have p0' : ρ' 0 = some (g0, tot) := hE.blk 0 _ p0
  have hMT : MineT 1 M' ρ' := fun g hg1 => by
    rw [hmine] at hg1
    obtain rfl : g = g0 := by simpa using hg1
    exact ⟨0, tot, B2, by omega, hB2, p0'⟩
  obtain ⟨_, cur', hcur', hsz', hH'⟩ := hW'.holds hB2 p0'
  have hold : ∀ k, k < w.heap.size → k ≠ g0 → w'.heap[k]? = w.heap[k]? := fun k hk hne => hW'.keep.block k hk (by rw [hmine]; simpa using hne)
  let st : Nat → Nat → Option Value := fun g o => if w.heap.size ≤ g then w'.cell? ⟨g, o, none⟩ else none
  have new : ∀ {g o x}, w.heap.size ≤ g → w'.cell? ⟨g, o, none⟩ = some x → (more ρ st).still g o = some x := fun {g o x} hg hx => by
    simp only [more, st]
    rw [if_pos hg, hx]
    cases hs : ρ.still g o with
    | none => rfl
    | some y => have := hW.still_lt hs; omega
  have hsub : ∀ g o x, (ofS (Sy.frz true M' ρ' w')).still g o = some x → (more ρ st).still g o = some x := fun g o x hx => by
    have hx : Sy.frz true M' ρ' w' g o = some x := hx
    unfold Sy.frz at hx
    split at hx
    · rename_i hh
      obtain ⟨b, B, t, r1, r2, r3⟩ := hh
      obtain ⟨r4, _⟩ := hW'.holds r1 r2
      rcases r4 with r4 | r4
      · exact new r4 hx
      · rw [r3] at r4; cases r4
    · rcases Nat.lt_or_ge g w.heap.size with hg1 | hg1
      · by_cases hgg : g = g0
        · subst hgg
          have hx : ρ'.still g o = some x := hx
          rw [hW'.apart 0 B2 g tot hB2 p0' o] at hx
          cases hx
        · have h1 := hW'.first g o x hg1 (by rw [hmine]; simpa using hgg) hx
          rw [hE.base] at h1
          have h2 : ρ.still g o = some x := h1
          simp only [more, h2]; rfl
      · exact new hg1 (hW'.still g o x hx)
  have hEm : Ext ρ (more ρ st) := ⟨fun _ _ h => h, fun _ h => h, fun g o v hv => by simp [more, hv], rfl, rfl⟩
  have hlt := Mem.get_lt hb
  have key : ∀ x C, (M.put b (some B')).get x = some C → (x = b ∧ C = B') ∨ (x ≠ b ∧ M.get x = some C) := fun x C hx => by
    rcases Mem.get_put hlt hx with ⟨rfl, e⟩ | e
    · simp at e; exact .inl ⟨rfl, e.symm⟩
    · exact .inr e
  have ne0 : ∀ {x C g t}, x ≠ b → M.get x = some C → ρ x = some (g, t) → g ≠ g0 := fun {x C g t} hx hC hg1 e => by
    subst e
    exact hx (hW.inj x b C B0 g t tot hC hb hg1 hg)
  have ltw : ∀ {x C g t}, M.get x = some C → ρ x = some (g, t) → g < w.heap.size := fun {x C g t} h1 h2 => by
    obtain ⟨_, c, h3, _⟩ := hW.blk x C g t h1 h2
    exact (Array.getElem?_eq_some_iff.1 h3).1
  refine ⟨more ρ st, u, v0, M.put b (some B'), rfl, hEm, rel.free hsub hf (hG w ρ' w' u hW' hMT hv), ?_, rfl, rfl⟩
  refine ⟨⟨hW'.keep.os.trans hW.keep.os, hW'.keep.tape.trans hW.keep.tape, hW'.keep.output.trans hW.keep.output, Nat.le_trans hW.keep.size hW'.keep.size, fun k hk hmk => ?_⟩, hW.dom, hW.nild, fun x C g t h1 h2 => ?_, fun x C h1 => ?_, fun x x' C C' g t t' h1 h2 h3 h4 => ?_, fun g o v hv => ?_, fun g o v hg1 hmg hv => ?_, fun x C g t h1 h2 o => ?_⟩
  · have hne : k ≠ g0 := fun e => by
      subst e
      rcases hm0 with hm0 | hm0
      · omega
      · have : ρ.mine k = false := hmk
        rw [hm0] at this; cases this
    rw [hold k (Nat.lt_of_lt_of_le hk hW.keep.size) hne]
    exact hW.keep.block k hk hmk
  · rcases key x C h1 with ⟨rfl, rfl⟩ | ⟨hx, hC⟩
    · have h2 : ρ x = some (g, t) := h2
      rw [hg] at h2
      simp at h2
      obtain ⟨rfl, rfl⟩ := h2
      refine ⟨hm0, cur', by rw [← hel2]; exact hcur', hsz', fun i v0 hi => ?_, fun R hR => by rw [hB'] at hR; cases hR⟩
      obtain ⟨v1, s1, s2⟩ := hcells.get i v0 hi
      obtain ⟨y, s3, s4⟩ := hH'.1 i v1 s1
      refine ⟨y, s3, rel.free hsub ?_ (s2 w ρ' w' y hW' hMT s4)⟩
      exact Frees.get hfc i v0 hi
    · obtain ⟨q2, c, q3, q4, q5⟩ := hW.holds hC h2
      exact ⟨q2, c, by rw [hold g (ltw hC h2) (ne0 hx hC h2)]; exact q3, q4, q5.ext hEm⟩
  · rcases key x C h1 with ⟨rfl, rfl⟩ | ⟨hx, hC⟩
    · exact .inl ⟨g0, tot, hg⟩
    · exact hW.has x C hC
  · rcases key x C h1 with ⟨rfl, rfl⟩ | ⟨hx, hC⟩ <;> rcases key x' C' h2 with ⟨rfl, rfl⟩ | ⟨hx', hC'⟩
    · rfl
    · exact hW.inj _ _ _ _ g t t' hb hC' h3 h4
    · exact hW.inj _ _ _ _ g t t' hC hb h3 h4
    · exact hW.inj _ _ _ _ g t t' hC hC' h3 h4
  · simp only [more, Option.or_eq_some_iff] at hv
    rcases hv with hv | ⟨_, hv⟩
    · have hl := hW.still_lt hv
      have hne : g ≠ g0 := fun e => by
        subst e
        rw [hW.apart b B0 g tot hb hg o] at hv
        cases hv
      have h2 := hW.still g o v hv
      simp only [World.cell?] at h2 ⊢
      rw [hold g hl hne]; exact h2
    · simp only [st] at hv
      split at hv
      · exact hv
      · cases hv
  · simp only [more, Option.or_eq_some_iff] at hv
    rcases hv with hv | ⟨_, hv⟩
    · exact hW.first g o v hg1 hmg hv
    · simp only [st] at hv
      split at hv
      · have := hW.keep.size
        omega
      · cases hv
  · simp only [more, Option.or_eq_none_iff]
    rcases key x C h1 with ⟨rfl, rfl⟩ | ⟨hx, hC⟩
    · have h2 : ρ x = some (g, t) := h2
      refine ⟨hW.apart x B0 g t hb h2 o, ?_⟩
      simp only [st]
      rw [if_neg (by have := ltw hb h2; omega)]
    · have h2 : ρ x = some (g, t) := h2
      refine ⟨hW.apart x C g t hC h2 o, ?_⟩
      simp only [st]
      rw [if_neg (by have := ltw hC h2; omega)]
end Go.Proofs.YtmlhipckgmbpfaaGreat.Sy
