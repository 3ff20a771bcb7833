/-
  The symbolic interpreter, part 4: operations that make or write memory.
-/
import Derived.Test.YtmlhipckgmbpfaaGreatSy3
import Derived.Laws.AppendOwn
import Derived.Laws.CopyOwn
namespace Go.Proofs.YtmlhipckgmbpfaaGreat.Sy
open Go Go.RowKit
set_option linter.unusedVariables false

def upd (ρ : Rho) (b : Nat) (x : Nat × Nat) : Rho := { ρ with blk := fun b' => if b' = b then some x else ρ b' }
theorem upd_same (ρ : Rho) (b : Nat) (x : Nat × Nat) : upd ρ b x b = some x := by simp [upd]
theorem upd_other (ρ : Rho) {b b' : Nat} (x : Nat × Nat) (h : b' ≠ b) : upd ρ b x b' = ρ b' := by simp [upd, h]
theorem WR.fresh {w0 : World} {ρ : Rho} {M : Mem} {w : World} (h : WR w0 ρ M w) (x : Nat × Nat) : Ext ρ (upd ρ M.top x) := ⟨fun b g hb => by
  have := h.dom b g hb
  rw [upd_other _ _ (by omega)]; exact hb, fun _ hb => hb, fun _ _ _ hb => hb, rfl, rfl⟩
theorem WR.heap {w0 : World} {ρ : Rho} {M : Mem} {w w' : World} (h : WR w0 ρ M w) (hh : w'.heap = w.heap) (ho : w'.os = w.os) (ht : w'.tape = w.tape) (hu : w'.output = w.output) : WR w0 ρ M w' :=
  ⟨⟨ho.trans h.keep.os, ht.trans h.keep.tape, hu.trans h.keep.output, by rw [hh]; exact h.keep.size, fun k hk hm => by rw [hh]; exact h.keep.block k hk hm⟩, h.dom, h.nild, fun b B g tot hb hg => by
    obtain ⟨h2, cur, h3, h4⟩ := h.blk b B g tot hb hg
    exact ⟨h2, cur, by rw [hh]; exact h3, h4⟩, h.has, h.inj, fun g o v hv => by rw [cell_heap hh]; exact h.still g o v hv, h.first, h.apart⟩
theorem WR.drew {w0 : World} {ρ : Rho} {M : Mem} {w : World} (h : WR w0 ρ M w) : WR w0 ρ M w.drew := h.heap rfl rfl rfl rfl

/-- what a block owes to its cells -/
def Holds (ρ : Rho) (B : Blk) (cur : Array Value) : Prop := (∀ (i : Nat) (v : AV), B.cells[i]? = some v → ∃ u, cur[i]? = some u ∧ rel ρ v u) ∧ ∀ R, B.rows = some R → ∀ i j, i < R.n → j < R.s → ∃ u, cur[i * R.s + j]? = some u ∧ rel ρ (R.cell i j) u ∧ u.oneCell' = true
theorem Holds.ext {ρ ρ' : Rho} {B : Blk} {cur : Array Value} (h : Holds ρ B cur) (he : Ext ρ ρ') : Holds ρ' B cur :=
  ⟨fun i v hv => by obtain ⟨u, h1, h2⟩ := h.1 i v hv; exact ⟨u, h1, h2.ext he⟩, fun R hR i j hi hj => by obtain ⟨u, h1, h2, h3⟩ := h.2 R hR i j hi hj; exact ⟨u, h1, h2.ext he, h3⟩⟩
theorem Holds.plain {ρ : Rho} {cs : List AV} {e : TypeId} {us : Array Value} (hx : ∀ (i : Nat) (v : AV), cs[i]? = some v → ∃ u, us[i]? = some u ∧ rel ρ v u) : Holds ρ ⟨cs, e, none⟩ us := ⟨hx, fun R h => by cases h⟩
theorem WR.holds {w0 : World} {ρ : Rho} {M : Mem} {w : World} (h : WR w0 ρ M w) {b : Nat} {B : Blk} (hb : M.get b = some B) {g tot : Nat} (hg : ρ b = some (g, tot)) :
    (w0.heap.size ≤ g ∨ ρ.mine g = true) ∧ ∃ cur, w.heap[g]? = some (.cells cur B.elem (0, 0)) ∧ cur.size = tot ∧ Holds ρ B cur := h.blk b B g tot hb hg

theorem cell_none {w : World} {o : Nat} : w.cell? ⟨w.heap.size, o, none⟩ = none := by
  simp [World.cell?]
theorem WR.still_lt {w0 : World} {ρ : Rho} {M : Mem} {w : World} (h : WR w0 ρ M w) {g o : Nat} {v : Value} (hv : ρ.still g o = some v) : g < w.heap.size := by
  have := h.still g o v hv
  rcases Nat.lt_or_ge g w.heap.size with hh | hh
  · exact hh
  · simp only [World.cell?] at this
    rw [Array.getElem?_eq_none hh] at this
    cases this

/-- a new block -/
theorem WR.new' {w0 : World} {ρ : Rho} {M : Mem} {w : World} (h : WR w0 ρ M w) (B : Blk) {us : Array Value} (hx : Holds ρ B us) :
    WR w0 (upd ρ M.top (w.heap.size, us.size)) (M.push B) (w.alloc (.cells us B.elem)) := by
  have hE := h.fresh (w.heap.size, us.size)
  have key : ∀ (b : Nat) (C : Blk) (g t : Nat), (M.push B).get b = some C → upd ρ M.top (w.heap.size, us.size) b = some (g, t) → (b = M.top ∧ C = B ∧ g = w.heap.size ∧ t = us.size) ∨ (b < M.top ∧ M.get b = some C ∧ ρ b = some (g, t) ∧ g < w.heap.size) := fun b C g t hb hr => by
    rcases Mem.get_push hb with ⟨rfl, rfl⟩ | ⟨hlt, hb'⟩
    · rw [upd_same] at hr; simp at hr; exact .inl ⟨rfl, rfl, hr.1.symm, hr.2.symm⟩
    · rw [upd_other _ _ (by omega)] at hr
      obtain ⟨_, cur, q3, _⟩ := h.blk b C g t hb' hr
      exact .inr ⟨hlt, hb', hr, (Array.getElem?_eq_some_iff.1 q3).1⟩
  refine ⟨h.keep.alloc _, fun b x hb => ?_, fun b hb => ?_, fun b C g tot hb hg => ?_, fun b C hb => ?_, fun b b' C C' g t t' h1 h2 h3 h4 => ?_, fun g o v hv => ?_, h.first, fun b C g t hb hg o => ?_⟩
  · simp only [Mem.push]
    by_cases e : b = M.top
    · omega
    · rw [upd_other _ _ e] at hb
      have := h.dom b x hb; omega
  · have h1 := h.nild b hb
    refine ⟨by simp only [Mem.push]; omega, ?_⟩
    rw [upd_other _ _ (by omega)]; exact h1.2
  · rcases key b C g tot hb hg with ⟨rfl, rfl, rfl, rfl⟩ | ⟨_, e1, e2, e3⟩
    · exact ⟨.inl h.keep.size, us, heap_alloc_new w _, rfl, hx.ext hE⟩
    · obtain ⟨h2, cur, h3, h4, h5⟩ := h.holds e1 e2
      exact ⟨h2, cur, by rw [heap_alloc_old w _ e3]; exact h3, h4, h5.ext hE⟩
  · rcases Mem.get_push hb with ⟨rfl, rfl⟩ | ⟨hlt, hb'⟩
    · exact .inl ⟨_, _, upd_same _ _ _⟩
    · rcases h.has b C hb' with ⟨g, t, e⟩ | e
      · exact .inl ⟨g, t, hE.blk _ _ e⟩
      · exact .inr e
  · rcases key b C g t h1 h3 with ⟨e1, _, e2, _⟩ | ⟨e1, e2, e3, e4⟩ <;> rcases key b' C' g t' h2 h4 with ⟨f1, _, f2, _⟩ | ⟨f1, f2, f3, f4⟩
    · omega
    · omega
    · omega
    · exact h.inj b b' C C' g t t' e2 f2 e3 f3
  · have hlt := h.still_lt hv
    have := h.still g o v hv
    simp only [World.cell?] at this ⊢
    rw [heap_alloc_old w _ hlt]; exact this
  · rcases key b C g t hb hg with ⟨_, _, rfl, _⟩ | ⟨_, e1, e2, _⟩
    · cases hs : ρ.still w.heap.size o with
      | none => exact hs
      | some v => have := h.still_lt hs; omega
    · exact h.apart b C g t e1 e2 o
theorem WR.new {w0 : World} {ρ : Rho} {M : Mem} {w : World} (h : WR w0 ρ M w) {cs : List AV} {us : Array Value} (e : TypeId) (hx : ∀ (i : Nat) (v : AV), cs[i]? = some v → ∃ u, us[i]? = some u ∧ rel ρ v u) :
    WR w0 (upd ρ M.top (w.heap.size, us.size)) (M.push ⟨cs, e, none⟩) (w.alloc (.cells us e)) := h.new' ⟨cs, e, none⟩ (.plain hx)

/-- a block is forgotten -/
theorem WR.die {w0 : World} {ρ : Rho} {M : Mem} {w : World} (h : WR w0 ρ M w) {b : Nat} (hb : b < M.top) : WR w0 ρ (M.put b none) w := by
  have key : ∀ (x : Nat) (B : Blk), (M.put b none).get x = some B → M.get x = some B := fun x B hx => by
    rcases Mem.get_put hb hx with ⟨_, e⟩ | ⟨_, e⟩
    · cases e
    · exact e
  exact ⟨h.keep, fun x g hx => h.dom x g hx, h.nild, fun x B g t hx hg => h.blk x B g t (key x B hx) hg, fun x B hx => h.has x B (key x B hx), fun x x' B B' g t t' h1 h2 => h.inj x x' B B' g t t' (key x B h1) (key x' B' h2), h.still, h.first, fun x B g t hx hg => h.apart x B g t (key x B hx) hg⟩

/-- a block's cells are written -/
theorem WR.set' {w0 : World} {ρ : Rho} {M : Mem} {w : World} (h : WR w0 ρ M w) {b : Nat} {B : Blk} (hb : M.get b = some B) {g tot : Nat} (hg : ρ b = some (g, tot)) (C : Blk) (hC : C.elem = B.elem) {us : Array Value} (hs : us.size = tot)
    (hx : Holds ρ C us) : WR w0 ρ (M.put b (some C)) (w.setRow g us) := by
  have hlt := Mem.get_lt hb
  obtain ⟨q2, cur, q3, q4, q5⟩ := h.holds hb hg
  have key : ∀ (x : Nat) (D : Blk), (M.put b (some C)).get x = some D → (x = b ∧ D = C) ∨ (x ≠ b ∧ M.get x = some D) := fun x D hx => by
    rcases Mem.get_put hlt hx with ⟨rfl, e⟩ | e
    · simp at e; exact .inl ⟨rfl, e.symm⟩
    · exact .inr e
  have key' : ∀ (x : Nat) (D : Blk), (M.put b (some C)).get x = some D → ∃ D', M.get x = some D' := fun x D hx => by
    rcases key x D hx with ⟨rfl, _⟩ | ⟨_, e⟩
    · exact ⟨B, hb⟩
    · exact ⟨D, e⟩
  refine ⟨h.keep.setRow q2 us, fun x y hx => h.dom x y hx, h.nild, fun x D g2 t2 hx' hg' => ?_, fun x D hx' => ?_, fun x x' D D' g' t t' h1 h2 h3 h4 => ?_, fun g' o v hv => ?_, h.first, fun x D g' t hx' hg' => ?_⟩
  · rcases key x D hx' with ⟨rfl, rfl⟩ | ⟨hne, e⟩
    · rw [hg] at hg'; simp at hg'; obtain ⟨rfl, rfl⟩ := hg'
      exact ⟨q2, us, by rw [hC]; exact setRow_heap w g cur us _ _ q3, hs, hx⟩
    · obtain ⟨r2, cur2, r3, r4, r5⟩ := h.holds e hg'
      refine ⟨r2, cur2, ?_, r4, r5⟩
      rw [setRow_other w g g2 us (fun eq => hne (by subst eq; exact h.inj x b D B g2 t2 tot e hb hg' hg))]
      exact r3
  · rcases key x D hx' with ⟨rfl, rfl⟩ | ⟨hne, e⟩
    · exact .inl ⟨g, tot, hg⟩
    · exact h.has x D e
  · obtain ⟨E, hE⟩ := key' x D h1
    obtain ⟨E', hE'⟩ := key' x' D' h2
    exact h.inj x x' E E' g' t t' hE hE' h3 h4
  · have hne : g' ≠ g := fun e => by
      subst e
      rw [h.apart b B g' tot hb hg o] at hv; cases hv
    have := h.still g' o v hv
    simp only [World.cell?] at this ⊢
    rw [setRow_other w g g' us hne]; exact this
  · obtain ⟨E, hE⟩ := key' x D hx'
    exact h.apart x E g' t hE hg'
theorem WR.set {w0 : World} {ρ : Rho} {M : Mem} {w : World} (h : WR w0 ρ M w) {b : Nat} {B : Blk} (hb : M.get b = some B) {g tot : Nat} (hg : ρ b = some (g, tot)) {cs : List AV} {us : Array Value} (hs : us.size = tot)
    (hx : ∀ (i : Nat) (v : AV), cs[i]? = some v → ∃ u, us[i]? = some u ∧ rel ρ v u) : WR w0 ρ (M.put b (some ⟨cs, B.elem, none⟩)) (w.setRow g us) := h.set' hb hg ⟨cs, B.elem, none⟩ rfl hs (.plain hx)

/-- a block takes another name -/
theorem WR.renew' {w0 : World} {ρ : Rho} {M : Mem} {w : World} (h : WR w0 ρ M w) {b : Nat} {B : Blk} (hb : M.get b = some B) {g tot : Nat} (hg : ρ b = some (g, tot)) (C : Blk) (hC : C.elem = B.elem) {us : Array Value} (hs : us.size = tot)
    (hx : Holds ρ C us) : WR w0 (upd ρ M.top (g, tot)) ((M.put b none).push C) (w.setRow g us) := by
  have hlt := Mem.get_lt hb
  have hE := h.fresh (g, tot)
  have h1 := h.set' hb hg C hC hs hx
  obtain ⟨q2, cur, q3, q4, q5⟩ := h.holds hb hg
  have hM : (M.put b none).top = M.top := rfl
  have old : ∀ (x : Nat) (D : Blk), (M.put b none).get x = some D → x ≠ b ∧ M.get x = some D ∧ (M.put b (some C)).get x = some D := fun x D hx => by
    rcases Mem.get_put hlt hx with ⟨_, e⟩ | ⟨hne, e⟩
    · cases e
    · refine ⟨hne, e, ?_⟩
      have hxl := Mem.get_lt e
      rw [Mem.get_def] at e
      rw [Mem.put_def, Mem.get_def]
      simp only [hxl, if_true] at e ⊢
      rw [List.getElem?_set, if_neg (by omega)]
      exact e
  have key : ∀ (x : Nat) (D : Blk) (g2 t : Nat), ((M.put b none).push C).get x = some D → upd ρ M.top (g, tot) x = some (g2, t) → (x = M.top ∧ D = C ∧ g2 = g ∧ t = tot) ∨ (x < M.top ∧ x ≠ b ∧ M.get x = some D ∧ (M.put b (some C)).get x = some D ∧ ρ x = some (g2, t)) := fun x D g2 t hD hr => by
    rcases Mem.get_push hD with ⟨rfl, rfl⟩ | ⟨hl, hD'⟩
    · rw [hM, upd_same] at hr; simp at hr; exact .inl ⟨hM, rfl, hr.1.symm, hr.2.symm⟩
    · rw [hM] at hl
      rw [upd_other _ _ (by omega)] at hr
      obtain ⟨hne, e1, e2⟩ := old x D hD'
      exact .inr ⟨hl, hne, e1, e2, hr⟩
  refine ⟨h1.keep, fun x y hy => ?_, fun x hn => ?_, fun x D g2 t hD hr => ?_, fun x D hD => ?_, fun x x' D D' g2 t t' h2 h3 h4 h5 => ?_, h1.still, h.first, fun x D g2 t hD hr => ?_⟩
  · simp only [Mem.push, hM]
    by_cases e : x = M.top
    · omega
    · rw [upd_other _ _ e] at hy
      have := h.dom x y hy; omega
  · have h9 := h.nild x hn
    exact ⟨by simp only [Mem.push, hM]; omega, by rw [upd_other _ _ (by omega)]; exact h9.2⟩
  · rcases key x D g2 t hD hr with ⟨rfl, rfl, rfl, rfl⟩ | ⟨_, hne, e1, e2, e3⟩
    · exact ⟨q2, us, by rw [hC]; exact setRow_heap w g2 cur us _ _ q3, hs, hx.ext hE⟩
    · obtain ⟨r2, cur2, r3, r4, r5⟩ := h1.holds e2 e3
      exact ⟨r2, cur2, r3, r4, r5.ext hE⟩
  · rcases Mem.get_push hD with ⟨rfl, rfl⟩ | ⟨hl, hD'⟩
    · exact .inl ⟨g, tot, by rw [hM]; exact upd_same _ _ _⟩
    · obtain ⟨hne, e1, e2⟩ := old x D hD'
      rcases h.has x D e1 with ⟨g', t', e⟩ | e
      · exact .inl ⟨g', t', hE.blk _ _ e⟩
      · exact .inr e
  · rcases key x D g2 t h2 h4 with ⟨e1, _, e2, _⟩ | ⟨e1, e2, e3, _, e4⟩ <;> rcases key x' D' g2 t' h3 h5 with ⟨f1, _, f2, _⟩ | ⟨f1, f2, f3, _, f4⟩
    · omega
    · subst e2; exact absurd (h.inj x' b D' B _ _ _ f3 hb f4 hg) f2
    · subst f2; exact absurd (h.inj x b D B _ _ _ e3 hb e4 hg) e2
    · exact h.inj x x' D D' g2 t t' e3 f3 e4 f4
  · rcases key x D g2 t hD hr with ⟨_, _, rfl, _⟩ | ⟨_, _, e1, _, e2⟩
    · exact h.apart b B g2 tot hb hg
    · exact h.apart x D g2 t e1 e2
theorem WR.renew {w0 : World} {ρ : Rho} {M : Mem} {w : World} (h : WR w0 ρ M w) {b : Nat} {B : Blk} (hb : M.get b = some B) {g tot : Nat} (hg : ρ b = some (g, tot)) {cs : List AV} {us : Array Value} (hs : us.size = tot)
    (hx : ∀ (i : Nat) (v : AV), cs[i]? = some v → ∃ u, us[i]? = some u ∧ rel ρ v u) : WR w0 (upd ρ M.top (g, tot)) ((M.put b none).push ⟨cs, B.elem, none⟩) (w.setRow g us) := h.renew' hb hg ⟨cs, B.elem, none⟩ rfl hs (.plain hx)

/-- nobody writes a block from now on: its cells stay -/
def quiet (ρ : Rho) (g : Nat) (cur : Array Value) : Rho := { ρ with still := fun g' o => if g' = g then cur[o]? else ρ.still g' o }
theorem WR.freeze {w0 : World} {ρ : Rho} {M : Mem} {w : World} (h : WR w0 ρ M w) {b : Nat} {B : Blk} (hb : M.get b = some B) {g tot : Nat} (hg : ρ b = some (g, tot)) :
    ∃ cur, w.heap[g]? = some (.cells cur B.elem (0, 0)) ∧ cur.size = tot ∧ Holds ρ B cur ∧ Ext ρ (quiet ρ g cur) ∧ WR w0 (quiet ρ g cur) (M.put b none) w := by
  have hlt := Mem.get_lt hb
  obtain ⟨q2, cur, q3, q4, q5⟩ := h.holds hb hg
  have hE : Ext ρ (quiet ρ g cur) := ⟨fun _ _ h => h, fun _ h => h, fun g' o v hv => by
    simp only [quiet]
    split
    · rename_i e
      subst e
      rw [h.apart b B g' tot hb hg o] at hv; cases hv
    · exact hv, rfl, rfl⟩
  have key : ∀ (x : Nat) (D : Blk), (M.put b none).get x = some D → x ≠ b ∧ M.get x = some D := fun x D hx => by
    rcases Mem.get_put hlt hx with ⟨_, e⟩ | e
    · cases e
    · exact e
  refine ⟨cur, q3, q4, q5, hE, h.keep, fun x y hx => h.dom x y hx, h.nild, fun x D g2 t hx hr => ?_, fun x D hx => h.has x D (key x D hx).2, fun x x' D D' g' t t' h1 h2 => h.inj x x' D D' g' t t' (key x D h1).2 (key x' D' h2).2, fun g' o v hv => ?_, fun g' o v hg' hm hv => ?_, fun x D g' t hx hr o => ?_⟩
  · obtain ⟨r2, cur2, r3, r4, r5⟩ := h.holds (key x D hx).2 hr
    exact ⟨r2, cur2, r3, r4, r5.ext hE⟩
  · simp only [quiet] at hv
    split at hv
    · rename_i e
      subst e
      rw [cell_at q3]; exact hv
    · exact h.still g' o v hv
  · simp only [quiet] at hv
    split at hv
    · rename_i e
      subst e
      rcases q2 with q2 | q2
      · omega
      · have hm' : ρ.mine g' = false := hm
        rw [q2] at hm'; cases hm'
    · exact h.first g' o v hg' hm hv
  · simp only [quiet]
    split
    · rename_i e
      subst e
      exact absurd (h.inj x b D B g' t tot (key x D hx).2 hb hr hg) (key x D hx).1
    · exact h.apart x D g' t (key x D hx).2 hr o
/-- a name for no block: nil, to be appended to -/
def nilled (ρ : Rho) (b : Nat) : Rho := { ρ with nil := fun b' => if b' = b then true else ρ.nil b' }
theorem WR.virt {w0 : World} {ρ : Rho} {M : Mem} {w : World} (h : WR w0 ρ M w) (e : TypeId) (s : Nat) (cell : Nat → Nat → AV) : Ext ρ (nilled ρ M.top) ∧ (nilled ρ M.top).nil M.top = true ∧ WR w0 (nilled ρ M.top) (M.push ⟨[], e, some ⟨0, s, cell⟩⟩) w := by
  have hE : Ext ρ (nilled ρ M.top) := ⟨fun _ _ h => h, fun b hb => by simp [nilled, hb], fun _ _ _ h => h, rfl, rfl⟩
  have htop : ρ M.top = none := by
    cases hh : ρ M.top with
    | none => rfl
    | some x => have := h.dom _ _ hh; omega
  have key : ∀ (x : Nat) (D : Blk) (y : Nat × Nat), (M.push ⟨[], e, some ⟨0, s, cell⟩⟩).get x = some D → ρ x = some y → M.get x = some D := fun x D y hx hy => by
    rcases Mem.get_push hx with ⟨rfl, _⟩ | ⟨_, e⟩
    · rw [htop] at hy; cases hy
    · exact e
  refine ⟨hE, by simp [nilled], h.keep, fun x y hx => by have := h.dom x y hx; simp only [Mem.push]; omega, fun x hx => ?_, fun x D g t hx hr => ?_, fun x D hx => ?_, fun x x' D D' g t t' h1 h2 h3 h4 => h.inj x x' D D' g t t' (key x D _ h1 h3) (key x' D' _ h2 h4) h3 h4, h.still, h.first, fun x D g t hx hr => h.apart x D g t (key x D _ hx hr) hr⟩
  · simp only [nilled] at hx
    split at hx
    · rename_i e'; subst e'; exact ⟨by simp [Mem.push], htop⟩
    · have := h.nild x hx; exact ⟨by simp only [Mem.push]; omega, this.2⟩
  · obtain ⟨r2, cur2, r3, r4, r5⟩ := h.holds (key x D _ hx hr) hr
    exact ⟨r2, cur2, r3, r4, r5.ext hE⟩
  · rcases Mem.get_push hx with ⟨rfl, rfl⟩ | ⟨_, e⟩
    · exact .inr ⟨by simp [nilled], rfl, _, rfl, rfl⟩
    · rcases h.has x D e with h1 | ⟨h1, h2⟩
      · exact .inl h1
      · exact .inr ⟨hE.nil _ h1, h2⟩

end Go.Proofs.YtmlhipckgmbpfaaGreat.Sy
namespace Go.Proofs.YtmlhipckgmbpfaaGreat.Sy
open Go Go.RowKit
set_option linter.unusedVariables false

def zeroA (P : Program) (t : TypeId) : Option Value := match P.info? t with | some i => i.zero | none => none
theorem run_zeroA {P : Program} {t : TypeId} {z : Value} (h : zeroA P t = some z) (w : World) : (zeroValue t).run P w = .ok z w := by
  unfold zeroA at h
  cases hi : P.info? t with
  | none => simp [hi] at h
  | some i => simp [hi] at h; simp [zeroValue, typeInfo, hi, h]

/-- what is shown of an operation -/
def Does (P : Program) (w0 : World) (ρ : Rho) (M' : Mem) (v : AV) (w : World) (s : Sem Value) : Prop :=
  ∃ ρ' u w', Ext ρ ρ' ∧ rel ρ' v u ∧ WR w0 ρ' M' w' ∧ s.run P w = .ok u w'

theorem new_does {P : Program} {w0 : World} {ρ : Rho} {M : Mem} {w : World} (hW : WR w0 ρ M w) {v : AV} {u : Value} (hv : rel ρ v u) (e : TypeId) :
    Does P w0 ρ (M.push ⟨cellsA v, e, none⟩) (.ptr M.top 0) w (do pure (.pointer (some (← newVar e u)))) := by
  have hc := hv.cells
  refine ⟨_, .pointer (some ⟨w.heap.size, 0, none⟩), _, hW.fresh _, ?_, hW.new (us := u.cells) e (fun i x hx => ?_), ?_⟩
  · simp only [rel]; exact ⟨_, _, upd_same _ _ _, rfl⟩
  · obtain ⟨y, h1, h2⟩ := hc.get i x hx
    exact ⟨y, by simpa using h1, h2⟩
  · simp [newVar, newRow]

/-! ### Stores -/
noncomputable def evStore (P : Program) (M : Mem) (t : TypeId) (x v : AV) : Option Mem := match x, szT P t with
  | .ptr b o, some n => match M.get b with
    | some B => if (cellsA v).length = n ∧ o + n ≤ B.cells.length ∧ (cellsA v).all oneA = true then some (M.put b (some ⟨over B.cells o (cellsA v), B.elem, none⟩)) else none
    | none => none
  | _, _ => none

/-- a row of cells written into a block -/
theorem write_rel {ρ : Rho} {B : Blk} {cur : Array Value} (hx : ∀ (i : Nat) (v : AV), B.cells[i]? = some v → ∃ u, cur[i]? = some u ∧ rel ρ v u) {cs : List AV} {l : List Value} (hc : rels ρ cs l) {o : Nat} (hle : o + cs.length ≤ B.cells.length) :
    o + l.length ≤ cur.size ∧ (cur.toList.take o ++ l ++ cur.toList.drop (o + l.length)).toArray.size = cur.size ∧
    ∀ (i : Nat) (v : AV), (over B.cells o cs)[i]? = some v → ∃ u, (cur.toList.take o ++ l ++ cur.toList.drop (o + l.length)).toArray[i]? = some u ∧ rel ρ v u := by
  have hl := hc.len
  have hcur : B.cells.length ≤ cur.size := by
    rcases Nat.eq_zero_or_pos B.cells.length with h0 | h0
    · omega
    · obtain ⟨u, h1, _⟩ := hx (B.cells.length - 1) _ (List.getElem?_eq_getElem (by omega))
      have := (Array.getElem?_eq_some_iff.1 h1).1
      omega
  refine ⟨by omega, by simp; omega, fun i v hv => ?_⟩
  obtain ⟨_, hg⟩ := over_get B.cells o cs hle
  rw [hg] at hv
  have hget : (cur.toList.take o ++ l ++ cur.toList.drop (o + l.length)).toArray[i]? = if o ≤ i ∧ i < o + l.length then l[i - o]? else cur[i]? := by
    rw [List.getElem?_toArray, List.getElem?_append, List.getElem?_append]
    simp only [List.length_append, List.length_take, Array.length_toList, show min o cur.size = o by omega]
    by_cases h1 : i < o
    · rw [if_pos (by omega), if_pos h1, if_neg (by omega)]
      simp [h1]
    · by_cases h2 : i < o + l.length
      · rw [if_pos h2, if_neg h1, if_pos (by omega)]
      · rw [if_neg h2, if_neg (by omega), List.getElem?_drop, Array.getElem?_toList]
        congr 1; omega
  rw [hget]
  by_cases h3 : o ≤ i ∧ i < o + cs.length
  · rw [if_pos h3] at hv
    rw [if_pos (by omega)]
    exact hc.get _ _ hv
  · rw [if_neg h3] at hv
    rw [if_neg (by omega)]
    exact hx i v hv

theorem rels.ones {ρ : Rho} : ∀ {cs : List AV} {l : List Value}, rels ρ cs l → cs.all oneA = true → ∀ v ∈ l, v.oneCell' = true
  | [], l, h, _ => by simp only [rels] at h; subst h; simp
  | c :: cs, l, h, h1 => by
    simp only [rels] at h
    obtain ⟨y, ys, rfl, h2, h3⟩ := h
    simp only [List.all_cons, Bool.and_eq_true] at h1
    intro v hv
    rcases List.mem_cons.1 hv with rfl | hv
    · exact h2.one h1.1
    · exact rels.ones h3 h1.2 v hv

theorem evStore_sound {P : Program} {w0 : World} {ρ : Rho} {M M' : Mem} {w : World} (hW : WR w0 ρ M w) {t : TypeId} {x v : AV} {ux uv : Value} (hx : rel ρ x ux) (hv : rel ρ v uv) (he : evStore P M t x v = some M') :
    ∃ w', WR w0 ρ M' w' ∧ (Instr.storeAt t ux uv).run P w = .ok () w' := by
  unfold evStore at he
  split at he
  · rename_i b o n hs
    simp only [rel] at hx
    obtain ⟨g, tot, hg, rfl⟩ := hx
    split at he
    · rename_i B hb
      split at he
      · rename_i hok
        simp at he; subst he
        have hc := hv.cells
        have hl := hc.len
        obtain ⟨q2, cur, q3, q4, q5, _⟩ := hW.blk b B g tot hb hg
        obtain ⟨r1, r2, r3⟩ := write_rel q5 hc (o := o) (by omega)
        refine ⟨_, hW.set hb hg (by rw [r2]; exact q4) r3, ?_⟩
        have hst := run_storeCells_at P g o B.elem uv.cells.toList 0 cur w q3 (by simpa using r1) (hc.ones hok.2.2)
        simp only [Nat.add_zero] at hst
        have hsz : uv.cells.size = n := by simp only [Array.length_toList] at hl; omega
        simp only [Instr.storeAt, Sem.run_bind, Instr.sureAddr, Sem.run_pure, Result.andThen_ok, storeVar, run_szT hs, hsz, ne_eq, not_true_eq_false, if_false, hst]
      · cases he
    · cases he
  · cases he

/-! ### A slice put together -/
def evBuildSlice (P : Program) (M : Mem) (t : TypeId) (len : Nat) (ps : List (Nat × AV)) : Option (AV × Mem) := match sliceElem P t with
  | some (e, s) => match zeroA P e with
    | some z => if len * s ≤ 2 ^ 24 ∧ len ≤ 2 ^ 24 then
        match fillA (fun i => some (i * s, s)) (((Array.range (len * s)).map (fun i => z.cells[i % z.cells.size]!)).toList.map .lit) ps with
        | some cs => if cs.length = len * s then some (.sl M.top 0 len (some len) s, M.push ⟨cs, e, none⟩) else none
        | none => none
      else none
    | none => none
  | none => none
theorem evBuildSlice_sound {P : Program} {w0 : World} {ρ : Rho} {M M' : Mem} {w : World} (hW : WR w0 ρ M w) {t : TypeId} {len : Nat} {ps : List (Nat × AV)} {ups : Array (Nat × Value)} {v : AV} (hl : ps.length = ups.toList.length)
    (hp : ∀ (i : Nat) (p : Nat × AV) (q : Nat × Value), ps[i]? = some p → ups.toList[i]? = some q → p.1 = q.1 ∧ rel ρ p.2 q.2) (he : evBuildSlice P M t len ps = some (v, M')) : Does P w0 ρ M' v w (Instr.buildSlice t len ups) := by
  unfold evBuildSlice at he
  split at he
  · rename_i e s hse
    obtain ⟨hu, hs⟩ := sliceElem_spec hse
    split at he
    · rename_i z hz
      split at he
      · rename_i hsm
        split at he
        · rename_i cs hf
          split at he
          · rename_i hlen
            simp at he
            obtain ⟨rfl, rfl⟩ := he
            obtain ⟨uo, h1, h2⟩ := fillA_sound ps ups.toList _ ((Array.range (len * s)).map (fun i => z.cells[i % z.cells.size]!)) cs hl hp (rels.lits _) hf
            have h3 := h2.len
            refine ⟨_, .slice (some ⟨w.heap.size, 0, none⟩) len len, _, hW.fresh _, ?_, hW.new (us := uo) e (fun i x hx => by obtain ⟨y, h4, h5⟩ := h2.get i x hx; exact ⟨y, by simpa using h4, h5⟩), ?_⟩
            · simp only [rel]
              refine ⟨_, _, len, upd_same _ _ _, rfl, Nat.le_refl _, ?_, fun k hk => by simpa using hk, ?_⟩
              · have := hsm.2; unfold maxLen; omega
              · simp only [Array.length_toList] at h3; omega
            · have h16 : ¬ (len * s > 2 ^ 24) := by omega
              by_cases h0 : len * s = 0
              · have hb : ((Array.range (len * s)).map (fun i => z.cells[i % z.cells.size]!)) = #[] := by simp [h0]
                rw [hb] at h1
                have hr : (Array.map (fun (x : Nat) => (default : Value)) (Array.range 0)) = #[] := Array.eq_empty_of_size_eq_zero (by simp)
                simp [Instr.buildSlice, run_underlying hu, run_szT hs, h0, newRow]
                rw [hr, h1]
                simp
              · have h16' : ¬ (16777216 < len * s) := by omega
                simp [Instr.buildSlice, run_underlying hu, run_szT hs, h0, run_zeroA hz, h16', h1, newRow]
          · cases he
        · cases he
      · cases he
    · cases he
  · cases he

end Go.Proofs.YtmlhipckgmbpfaaGreat.Sy
