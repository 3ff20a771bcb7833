/-
  The small interpreter, part 4: operations that make or write memory.
-/
import Derived.Test.YtmlhipckgmbpfaaEv3
import Derived.Laws.AppendOwn
import Derived.Laws.CopyOwn
namespace Go.Proofs.Ytmlhipckgmbpfaa.Ev
open Go Go.RowKit
set_option linter.unusedVariables false

def upd (ρ : Rho) (b : Nat) (x : Nat × Nat) : Rho := fun b' => if b' = b then some x else ρ b'
theorem upd_same (ρ : Rho) (b : Nat) (x : Nat × Nat) : upd ρ b x b = some x := by simp [upd]
theorem WR.fresh {w0 : Base} {ρ : Rho} {M : Mem} {w : World} (h : WR w0 ρ M w) (x : Nat × Nat) : Ext ρ (upd ρ M.top x) := fun b g hb => by
  have := h.dom b g hb
  unfold upd
  rw [if_neg (by omega)]; exact hb
theorem WR.heap {w0 : Base} {ρ : Rho} {M : Mem} {w w' : World} (h : WR w0 ρ M w) (hh : w'.heap = w.heap) (ho : w'.os = w.os) (ht : w'.tape = w.tape) (hu : w'.output = w.output) : WR w0 ρ M w' :=
  ⟨⟨ho.trans h.keep.os, ht.trans h.keep.tape, hu.trans h.keep.output, by rw [hh]; exact h.keep.size, fun k hk hm => by rw [hh]; exact h.keep.block k hk hm⟩, h.dom, fun b B hb => by
    obtain ⟨g, tot, h1, h2, cur, h3, h4, h5⟩ := h.blk b B hb
    exact ⟨g, tot, h1, h2, cur, by rw [hh]; exact h3, h4, h5⟩, h.inj⟩
theorem WR.drew {w0 : Base} {ρ : Rho} {M : Mem} {w : World} (h : WR w0 ρ M w) : WR w0 ρ M w.drew := h.heap rfl rfl rfl rfl

/-- a new block -/
theorem WR.new {w0 : Base} {ρ : Rho} {M : Mem} {w : World} (h : WR w0 ρ M w) {cs : List AV} {us : Array Value} (e : TypeId) (hx : ∀ (i : Nat) (v : AV), cs[i]? = some v → ∃ u, us[i]? = some u ∧ rel ρ v u) :
    WR w0 (upd ρ M.top (w.heap.size, us.size)) (M.push ⟨cs, e⟩) (w.alloc (.cells us e)) := by
  have hE := h.fresh (w.heap.size, us.size)
  refine ⟨h.keep.alloc _, fun b x hb => ?_, fun b B hb => ?_, fun b b' B B' g t t' h1 h2 h3 h4 => ?_⟩
  · unfold upd at hb
    simp only [Mem.push]
    split at hb
    · omega
    · have := h.dom b x hb; omega
  · rcases Mem.get_push hb with ⟨rfl, rfl⟩ | ⟨hlt, hb'⟩
    · refine ⟨_, _, upd_same _ _ _, .inl h.keep.size, us, heap_alloc_new w _, rfl, fun i v hv => ?_⟩
      obtain ⟨u, h1, h2⟩ := hx i v hv
      exact ⟨u, h1, h2.ext hE⟩
    · obtain ⟨g, tot, h1, h2, cur, h3, h4, h5⟩ := h.blk b B hb'
      refine ⟨g, tot, hE _ _ h1, h2, cur, ?_, h4, fun i v hv => ?_⟩
      · rw [heap_alloc_old w _ (Array.getElem?_eq_some_iff.1 h3).1]; exact h3
      · obtain ⟨u, h6, h7⟩ := h5 i v hv
        exact ⟨u, h6, h7.ext hE⟩
  · have key : ∀ (b : Nat) (B : Blk) (t : Nat), (M.push ⟨cs, e⟩).get b = some B → upd ρ M.top (w.heap.size, us.size) b = some (g, t) → (b = M.top ∧ g = w.heap.size) ∨ (b < M.top ∧ M.get b = some B ∧ ρ b = some (g, t) ∧ g < w.heap.size) := fun b B t hb hr => by
      rcases Mem.get_push hb with ⟨rfl, rfl⟩ | ⟨hlt, hb'⟩
      · rw [upd_same] at hr; simp at hr; exact .inl ⟨rfl, hr.1.symm⟩
      · unfold upd at hr
        rw [if_neg (by omega)] at hr
        obtain ⟨g', tot', q1, _, cur, q3, _⟩ := h.blk b B hb'
        rw [hr] at q1; simp at q1
        obtain ⟨rfl, rfl⟩ := q1
        exact .inr ⟨hlt, hb', hr, (Array.getElem?_eq_some_iff.1 q3).1⟩
    rcases key b B t h1 h3 with ⟨e1, e2⟩ | ⟨e1, e2, e3, e4⟩ <;> rcases key b' B' t' h2 h4 with ⟨f1, f2⟩ | ⟨f1, f2, f3, f4⟩
    · omega
    · omega
    · omega
    · exact h.inj b b' B B' g t t' e2 f2 e3 f3

/-- a block is forgotten -/
theorem WR.die {w0 : Base} {ρ : Rho} {M : Mem} {w : World} (h : WR w0 ρ M w) {b : Nat} (hb : b < M.top) : WR w0 ρ (M.put b none) w := by
  have key : ∀ (x : Nat) (B : Blk), (M.put b none).get x = some B → M.get x = some B := fun x B hx => by
    rcases Mem.get_put hb hx with ⟨_, e⟩ | ⟨_, e⟩
    · cases e
    · exact e
  exact ⟨h.keep, fun x g hx => h.dom x g hx, fun x B hx => h.blk x B (key x B hx), fun x x' B B' g t t' h1 h2 => h.inj x x' B B' g t t' (key x B h1) (key x' B' h2)⟩

/-- a block's cells are written -/
theorem WR.set {w0 : Base} {ρ : Rho} {M : Mem} {w : World} (h : WR w0 ρ M w) {b : Nat} {B : Blk} (hb : M.get b = some B) {g tot : Nat} (hg : ρ b = some (g, tot)) {cs : List AV} {us : Array Value} (hs : us.size = tot)
    (hx : ∀ (i : Nat) (v : AV), cs[i]? = some v → ∃ u, us[i]? = some u ∧ rel ρ v u) : WR w0 ρ (M.put b (some ⟨cs, B.elem⟩)) (w.setRow g us) := by
  have hlt := Mem.get_lt hb
  obtain ⟨g', tot', q1, q2, cur, q3, q4, q5⟩ := h.blk b B hb
  rw [hg] at q1; simp at q1; obtain ⟨rfl, rfl⟩ := q1
  refine ⟨h.keep.setRow q2 us, fun x y hx => h.dom x y hx, fun x B' hx' => ?_, fun x x' C C' g' t t' h1 h2 h3 h4 => ?_⟩
  · rcases Mem.get_put hlt hx' with ⟨rfl, e⟩ | ⟨hne, e⟩
    · simp at e; subst e
      exact ⟨g, tot, hg, q2, us, setRow_heap w g cur us _ _ q3, hs, hx⟩
    · obtain ⟨g2, tot2, r1, r2, cur2, r3, r4, r5⟩ := h.blk x B' e
      refine ⟨g2, tot2, r1, r2, cur2, ?_, r4, r5⟩
      rw [setRow_other w g g2 us (fun eq => hne (by subst eq; exact h.inj x b B' B g2 tot2 tot e hb r1 hg))]
      exact r3
  · have key : ∀ (x : Nat) (C : Blk), (M.put b (some ⟨cs, B.elem⟩)).get x = some C → ∃ C', M.get x = some C' := fun x C hx => by
      rcases Mem.get_put hlt hx with ⟨rfl, _⟩ | ⟨_, e⟩
      · exact ⟨B, hb⟩
      · exact ⟨C, e⟩
    obtain ⟨D, hD⟩ := key x C h1
    obtain ⟨D', hD'⟩ := key x' C' h2
    exact h.inj x x' D D' g' t t' hD hD' h3 h4

/-- a block takes another name -/
theorem WR.renew {w0 : Base} {ρ : Rho} {M : Mem} {w : World} (h : WR w0 ρ M w) {b : Nat} {B : Blk} (hb : M.get b = some B) {g tot : Nat} (hg : ρ b = some (g, tot)) {cs : List AV} {us : Array Value} (hs : us.size = tot)
    (hx : ∀ (i : Nat) (v : AV), cs[i]? = some v → ∃ u, us[i]? = some u ∧ rel ρ v u) : WR w0 (upd ρ M.top (g, tot)) ((M.put b none).push ⟨cs, B.elem⟩) (w.setRow g us) := by
  have hlt := Mem.get_lt hb
  have hE := h.fresh (g, tot)
  have h1 := h.set hb hg hs hx
  obtain ⟨g', tot', q1, q2, cur, q3, q4, q5⟩ := h.blk b B hb
  rw [hg] at q1; simp at q1; obtain ⟨rfl, rfl⟩ := q1
  have hM : (M.put b none).top = M.top := rfl
  have old : ∀ (x : Nat) (C : Blk), (M.put b none).get x = some C → x ≠ b ∧ M.get x = some C ∧ (M.put b (some ⟨cs, B.elem⟩)).get x = some C := fun x C hx => by
    rcases Mem.get_put hlt hx with ⟨_, e⟩ | ⟨hne, e⟩
    · cases e
    · refine ⟨hne, e, ?_⟩
      have hxl := Mem.get_lt e
      rw [Mem.get_def] at e
      rw [Mem.put_def, Mem.get_def]
      simp only [hxl, if_true] at e ⊢
      rw [List.getElem?_set, if_neg (by omega)]
      exact e
  refine ⟨h1.keep, fun x y hy => ?_, fun x C hC => ?_, fun x x' C C' g2 t t' h2 h3 h4 h5 => ?_⟩
  · simp only [Mem.push, hM]
    unfold upd at hy
    split at hy
    · omega
    · have := h.dom x y hy; omega
  · rcases Mem.get_push hC with ⟨rfl, rfl⟩ | ⟨hl, hC'⟩
    · refine ⟨g, tot, by rw [hM]; exact upd_same _ _ _, q2, us, setRow_heap w g cur us _ _ q3, hs, fun i v hv => ?_⟩
      obtain ⟨u, r1, r2⟩ := hx i v hv
      exact ⟨u, r1, r2.ext hE⟩
    · obtain ⟨hne, e1, e2⟩ := old x C hC'
      obtain ⟨g2, tot2, r1, r2, cur2, r3, r4, r5⟩ := h1.blk x C e2
      refine ⟨g2, tot2, hE _ _ r1, r2, cur2, r3, r4, fun i v hv => ?_⟩
      obtain ⟨u, r6, r7⟩ := r5 i v hv
      exact ⟨u, r6, r7.ext hE⟩
  · have key : ∀ (x : Nat) (C : Blk) (t : Nat), ((M.put b none).push ⟨cs, B.elem⟩).get x = some C → upd ρ M.top (g, tot) x = some (g2, t) → (x = M.top ∧ g2 = g) ∨ (x < M.top ∧ x ≠ b ∧ M.get x = some C ∧ ρ x = some (g2, t)) := fun x C t hC hr => by
      rcases Mem.get_push hC with ⟨rfl, rfl⟩ | ⟨hl, hC'⟩
      · rw [hM, upd_same] at hr; simp at hr; exact .inl ⟨hM, hr.1.symm⟩
      · rw [hM] at hl
        unfold upd at hr
        rw [if_neg (by omega)] at hr
        obtain ⟨hne, e1, e2⟩ := old x C hC'
        exact .inr ⟨hl, hne, e1, hr⟩
    rcases key x C t h2 h4 with ⟨e1, e2⟩ | ⟨e1, e2, e3, e4⟩ <;> rcases key x' C' t' h3 h5 with ⟨f1, f2⟩ | ⟨f1, f2, f3, f4⟩
    · omega
    · subst e2; exact absurd (h.inj x' b C' B _ _ _ f3 hb f4 hg) f2
    · subst f2; exact absurd (h.inj x b C B _ _ _ e3 hb e4 hg) e2
    · exact h.inj x x' C C' g2 t t' e3 f3 e4 f4

end Go.Proofs.Ytmlhipckgmbpfaa.Ev
