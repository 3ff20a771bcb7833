/-
  The small interpreter, part 4: operations that make or write memory.
-/
import Derived.Test.YtmlhipckgmbpfaaGreatEv3
import Derived.Laws.AppendOwn
import Derived.Laws.CopyOwn
namespace Go.Proofs.YtmlhipckgmbpfaaGreat.Ev
open Go Go.RowKit
set_option linter.unusedVariables false

def upd (ρ : Rho) (b : Nat) (x : Nat × Nat) : Rho := fun b' => if b' = b then some x else ρ b'
theorem upd_same (ρ : Rho) (b : Nat) (x : Nat × Nat) : upd ρ b x b = some x := by simp [upd]
theorem WR.fresh {w0 : Base} {ρ : Rho} {M : Mem} {w : World} (h : WR w0 ρ M w) (x : Nat × Nat) : Ext ρ (upd ρ M.top x) := fun b g hb => by
  have := h.dom b g hb
  unfold upd
  rw [if_neg (by omega)]; exact hb
theorem WR.heap {w0 : Base} {ρ : Rho} {M : Mem} {w w' : World} (h : WR w0 ρ M w) (hh : w'.heap = w.heap) (ho : w'.os = w.os) (ht : w'.tape = w.tape) (hu : w'.output = w.output) : WR w0 ρ M w' :=
  ⟨⟨ho.trans h.keep.os, ht.trans h.keep.tape, hu.trans h.keep.output, by rw [hh]; exact h.keep.size, fun k hk hm => by rw [hh]; exact h.keep.block k hk hm⟩, h.dom, fun b B hb => by
    obtain ⟨g, tot, h1, h2, cur, h3, h4, h5⟩ := h.blk b B hb
    exact ⟨g, tot, h1, h2, cur, by rw [hh]; exact h3, h4, h5⟩, h.inj⟩
theorem WR.drew {w0 : Base} {ρ : Rho} {M : Mem} {w : World} (h : WR w0 ρ M w) : WR w0 ρ M w.drew := h.heap rfl rfl rfl rfl

/-- a new block -/
theorem WR.new {w0 : Base} {ρ : Rho} {M : Mem} {w : World} (h : WR w0 ρ M w) {cs : List AV} {us : Array Value} (e : TypeId) (hx : ∀ (i : Nat) (v : AV), cs[i]? = some v → ∃ u, us[i]? = some u ∧ rel ρ v u) :
    WR w0 (upd ρ M.top (w.heap.size, us.size)) (M.push ⟨cs, e⟩) (w.alloc (.cells us e)) := by
  have hE := h.fresh (w.heap.size, us.size)
  refine ⟨h.keep.alloc _, fun b x hb => ?_, fun b B hb => ?_, fun b b' B B' g t t' h1 h2 h3 h4 => ?_⟩
  · unfold upd at hb
    simp only [Mem.push]
    split at hb
    · omega
    · have := h.dom b x hb; omega
  · rcases Mem.get_push hb with ⟨rfl, rfl⟩ | ⟨hlt, hb'⟩
    · refine ⟨_, _, upd_same _ _ _, .inl h.keep.size, us, heap_alloc_new w _, rfl, fun i v hv => ?_⟩
      obtain ⟨u, h1, h2⟩ := hx i v hv
      exact ⟨u, h1, h2.ext hE⟩
    · obtain ⟨g, tot, h1, h2, cur, h3, h4, h5⟩ := h.blk b B hb'
      refine ⟨g, tot, hE _ _ h1, h2, cur, ?_, h4, fun i v hv => ?_⟩
      · rw [heap_alloc_old w _ (Array.getElem?_eq_some_iff.1 h3).1]; exact h3
      · obtain ⟨u, h6, h7⟩ := h5 i v hv
        exact ⟨u, h6, h7.ext hE⟩
  · have key : ∀ (b : Nat) (B : Blk) (t : Nat), (M.push ⟨cs, e⟩).get b = some B → upd ρ M.top (w.heap.size, us.size) b = some (g, t) → (b = M.top ∧ g = w.heap.size) ∨ (b < M.top ∧ M.get b = some B ∧ ρ b = some (g, t) ∧ g < w.heap.size) := fun b B t hb hr => by
      rcases Mem.get_push hb with ⟨rfl, rfl⟩ | ⟨hlt, hb'⟩
      · rw [upd_same] at hr; simp at hr; exact .inl ⟨rfl, hr.1.symm⟩
      · unfold upd at hr
        rw [if_neg (by omega)] at hr
        obtain ⟨g', tot', q1, _, cur, q3, _⟩ := h.blk b B hb'
        rw [hr] at q1; simp at q1
        obtain ⟨rfl, rfl⟩ := q1
        exact .inr ⟨hlt, hb', hr, (Array.getElem?_eq_some_iff.1 q3).1⟩
    rcases key b B t h1 h3 with ⟨e1, e2⟩ | ⟨e1, e2, e3, e4⟩ <;> rcases key b' B' t' h2 h4 with ⟨f1, f2⟩ | ⟨f1, f2, f3, f4⟩
    · omega
    · omega
    · omega
    · exact h.inj b b' B B' g t t' e2 f2 e3 f3

/-- a block is forgotten -/
theorem WR.die {w0 : Base} {ρ : Rho} {M : Mem} {w : World} (h : WR w0 ρ M w) {b : Nat} (hb : b < M.top) : WR w0 ρ (M.put b none) w := by
  have key : ∀ (x : Nat) (B : Blk), (M.put b none).get x = some B → M.get x = some B := fun x B hx => by
    rcases Mem.get_put hb hx with ⟨_, e⟩ | ⟨_, e⟩
    · cases e
    · exact e
  exact ⟨h.keep, fun x g hx => h.dom x g hx, fun x B hx => h.blk x B (key x B hx), fun x x' B B' g t t' h1 h2 => h.inj x x' B B' g t t' (key x B h1) (key x' B' h2)⟩

/-- a block's cells are written -/
theorem WR.set {w0 : Base} {ρ : Rho} {M : Mem} {w : World} (h : WR w0 ρ M w) {b : Nat} {B : Blk} (hb : M.get b = some B) {g tot : Nat} (hg : ρ b = some (g, tot)) {cs : List AV} {us : Array Value} (hs : us.size = tot)
    (hx : ∀ (i : Nat) (v : AV), cs[i]? = some v → ∃ u, us[i]? = some u ∧ rel ρ v u) : WR w0 ρ (M.put b (some ⟨cs, B.elem⟩)) (w.setRow g us) := by
  have hlt := Mem.get_lt hb
  obtain ⟨g', tot', q1, q2, cur, q3, q4, q5⟩ := h.blk b B hb
  rw [hg] at q1; simp at q1; obtain ⟨rfl, rfl⟩ := q1
  refine ⟨h.keep.setRow q2 us, fun x y hx => h.dom x y hx, fun x B' hx' => ?_, fun x x' C C' g' t t' h1 h2 h3 h4 => ?_⟩
  · rcases Mem.get_put hlt hx' with ⟨rfl, e⟩ | ⟨hne, e⟩
    · simp at e; subst e
      exact ⟨g, tot, hg, q2, us, setRow_heap w g cur us _ _ q3, hs, hx⟩
    · obtain ⟨g2, tot2, r1, r2, cur2, r3, r4, r5⟩ := h.blk x B' e
      refine ⟨g2, tot2, r1, r2, cur2, ?_, r4, r5⟩
      rw [setRow_other w g g2 us (fun eq => hne (by subst eq; exact h.inj x b B' B g2 tot2 tot e hb r1 hg))]
      exact r3
  · have key : ∀ (x : Nat) (C : Blk), (M.put b (some ⟨cs, B.elem⟩)).get x = some C → ∃ C', M.get x = some C' := fun x C hx => by
      rcases Mem.get_put hlt hx with ⟨rfl, _⟩ | ⟨_, e⟩
      · exact ⟨B, hb⟩
      · exact ⟨C, e⟩
    obtain ⟨D, hD⟩ := key x C h1
    obtain ⟨D', hD'⟩ := key x' C' h2
    exact h.inj x x' D D' g' t t' hD hD' h3 h4

/-- a block takes another name -/
theorem WR.renew {w0 : Base} {ρ : Rho} {M : Mem} {w : World} (h : WR w0 ρ M w) {b : Nat} {B : Blk} (hb : M.get b = some B) {g tot : Nat} (hg : ρ b = some (g, tot)) {cs : List AV} {us : Array Value} (hs : us.size = tot)
    (hx : ∀ (i : Nat) (v : AV), cs[i]? = some v → ∃ u, us[i]? = some u ∧ rel ρ v u) : WR w0 (upd ρ M.top (g, tot)) ((M.put b none).push ⟨cs, B.elem⟩) (w.setRow g us) := by
  have hlt := Mem.get_lt hb
  have hE := h.fresh (g, tot)
  have h1 := h.set hb hg hs hx
  obtain ⟨g', tot', q1, q2, cur, q3, q4, q5⟩ := h.blk b B hb
  rw [hg] at q1; simp at q1; obtain ⟨rfl, rfl⟩ := q1
  have hM : (M.put b none).top = M.top := rfl
  have old : ∀ (x : Nat) (C : Blk), (M.put b none).get x = some C → x ≠ b ∧ M.get x = some C ∧ (M.put b (some ⟨cs, B.elem⟩)).get x = some C := fun x C hx => by
    rcases Mem.get_put hlt hx with ⟨_, e⟩ | ⟨hne, e⟩
    · cases e
    · refine ⟨hne, e, ?_⟩
      have hxl := Mem.get_lt e
      rw [Mem.get_def] at e
      rw [Mem.put_def, Mem.get_def]
      simp only [hxl, if_true] at e ⊢
      rw [List.getElem?_set, if_neg (by omega)]
      exact e
  refine ⟨h1.keep, fun x y hy => ?_, fun x C hC => ?_, fun x x' C C' g2 t t' h2 h3 h4 h5 => ?_⟩
  · simp only [Mem.push, hM]
    unfold upd at hy
    split at hy
    · omega
    · have := h.dom x y hy; omega
  · rcases Mem.get_push hC with ⟨rfl, rfl⟩ | ⟨hl, hC'⟩
    · refine ⟨g, tot, by rw [hM]; exact upd_same _ _ _, q2, us, setRow_heap w g cur us _ _ q3, hs, fun i v hv => ?_⟩
      obtain ⟨u, r1, r2⟩ := hx i v hv
      exact ⟨u, r1, r2.ext hE⟩
    · obtain ⟨hne, e1, e2⟩ := old x C hC'
      obtain ⟨g2, tot2, r1, r2, cur2, r3, r4, r5⟩ := h1.blk x C e2
      refine ⟨g2, tot2, hE _ _ r1, r2, cur2, r3, r4, fun i v hv => ?_⟩
      obtain ⟨u, r6, r7⟩ := r5 i v hv
      exact ⟨u, r6, r7.ext hE⟩
  · have key : ∀ (x : Nat) (C : Blk) (t : Nat), ((M.put b none).push ⟨cs, B.elem⟩).get x = some C → upd ρ M.top (g, tot) x = some (g2, t) → (x = M.top ∧ g2 = g) ∨ (x < M.top ∧ x ≠ b ∧ M.get x = some C ∧ ρ x = some (g2, t)) := fun x C t hC hr => by
      rcases Mem.get_push hC with ⟨rfl, rfl⟩ | ⟨hl, hC'⟩
      · rw [hM, upd_same] at hr; simp at hr; exact .inl ⟨hM, hr.1.symm⟩
      · rw [hM] at hl
        unfold upd at hr
        rw [if_neg (by omega)] at hr
        obtain ⟨hne, e1, e2⟩ := old x C hC'
        exact .inr ⟨hl, hne, e1, hr⟩
    rcases key x C t h2 h4 with ⟨e1, e2⟩ | ⟨e1, e2, e3, e4⟩ <;> rcases key x' C' t' h3 h5 with ⟨f1, f2⟩ | ⟨f1, f2, f3, f4⟩
    · omega
    · subst e2; exact absurd (h.inj x' b C' B _ _ _ f3 hb f4 hg) f2
    · subst f2; exact absurd (h.inj x b C B _ _ _ e3 hb e4 hg) e2
    · exact h.inj x x' C C' g2 t t' e3 f3 e4 f4

end Go.Proofs.YtmlhipckgmbpfaaGreat.Ev
namespace Go.Proofs.YtmlhipckgmbpfaaGreat.Ev
open Go Go.RowKit
set_option linter.unusedVariables false

def zeroA (P : Program) (t : TypeId) : Option Value := match P.info? t with | some i => i.zero | none => none
theorem run_zeroA {P : Program} {t : TypeId} {z : Value} (h : zeroA P t = some z) (w : World) : (zeroValue t).run P w = .ok z w := by
  unfold zeroA at h
  cases hi : P.info? t with
  | none => simp [hi] at h
  | some i => simp [hi] at h; simp [zeroValue, typeInfo, hi, h]

/-- what is shown of an operation -/
def Does (P : Program) (w0 : Base) (ρ : Rho) (M' : Mem) (v : AV) (w : World) (s : Sem Value) : Prop :=
  ∃ ρ' u w', Ext ρ ρ' ∧ rel ρ' v u ∧ WR w0 ρ' M' w' ∧ s.run P w = .ok u w'

theorem new_does {P : Program} {w0 : Base} {ρ : Rho} {M : Mem} {w : World} (hW : WR w0 ρ M w) {v : AV} {u : Value} (hv : rel ρ v u) (e : TypeId) :
    Does P w0 ρ (M.push ⟨cellsA v, e⟩) (.ptr M.top 0) w (do pure (.pointer (some (← newVar e u)))) := by
  have hc := hv.cells
  refine ⟨_, .pointer (some ⟨w.heap.size, 0, none⟩), _, hW.fresh _, ?_, hW.new (us := u.cells) e (fun i x hx => ?_), ?_⟩
  · simp only [rel]; exact ⟨_, _, upd_same _ _ _, rfl⟩
  · obtain ⟨y, h1, h2⟩ := hc.get i x hx
    exact ⟨y, by simpa using h1, h2⟩
  · simp [newVar, newRow]

/-! ### Stores -/
noncomputable def evStore (P : Program) (M : Mem) (t : TypeId) (x v : AV) : Option Mem := match x, szT P t with
  | .ptr b o, some n => match M.get b with
    | some B => if (cellsA v).length = n ∧ o + n ≤ B.cells.length ∧ (cellsA v).all oneA = true then some (M.put b (some ⟨over B.cells o (cellsA v), B.elem⟩)) else none
    | none => none
  | _, _ => none

/-- a row of cells written into a block -/
theorem write_rel {ρ : Rho} {B : Blk} {cur : Array Value} (hx : ∀ (i : Nat) (v : AV), B.cells[i]? = some v → ∃ u, cur[i]? = some u ∧ rel ρ v u) {cs : List AV} {l : List Value} (hc : rels ρ cs l) {o : Nat} (hle : o + cs.length ≤ B.cells.length) :
    o + l.length ≤ cur.size ∧ (cur.toList.take o ++ l ++ cur.toList.drop (o + l.length)).toArray.size = cur.size ∧
    ∀ (i : Nat) (v : AV), (over B.cells o cs)[i]? = some v → ∃ u, (cur.toList.take o ++ l ++ cur.toList.drop (o + l.length)).toArray[i]? = some u ∧ rel ρ v u := by
  have hl := hc.len
  have hcur : B.cells.length ≤ cur.size := by
    rcases Nat.eq_zero_or_pos B.cells.length with h0 | h0
    · omega
    · obtain ⟨u, h1, _⟩ := hx (B.cells.length - 1) _ (List.getElem?_eq_getElem (by omega))
      have := (Array.getElem?_eq_some_iff.1 h1).1
      omega
  refine ⟨by omega, by simp; omega, fun i v hv => ?_⟩
  obtain ⟨_, hg⟩ := over_get B.cells o cs hle
  rw [hg] at hv
  have hget : (cur.toList.take o ++ l ++ cur.toList.drop (o + l.length)).toArray[i]? = if o ≤ i ∧ i < o + l.length then l[i - o]? else cur[i]? := by
    rw [List.getElem?_toArray, List.getElem?_append, List.getElem?_append]
    simp only [List.length_append, List.length_take, Array.length_toList, show min o cur.size = o by omega]
    by_cases h1 : i < o
    · rw [if_pos (by omega), if_pos h1, if_neg (by omega)]
      simp [h1]
    · by_cases h2 : i < o + l.length
      · rw [if_pos h2, if_neg h1, if_pos (by omega)]
      · rw [if_neg h2, if_neg (by omega), List.getElem?_drop, Array.getElem?_toList]
        congr 1; omega
  rw [hget]
  by_cases h3 : o ≤ i ∧ i < o + cs.length
  · rw [if_pos h3] at hv
    rw [if_pos (by omega)]
    exact hc.get _ _ hv
  · rw [if_neg h3] at hv
    rw [if_neg (by omega)]
    exact hx i v hv

theorem rels.ones {ρ : Rho} : ∀ {cs : List AV} {l : List Value}, rels ρ cs l → cs.all oneA = true → ∀ v ∈ l, v.oneCell' = true
  | [], l, h, _ => by simp only [rels] at h; subst h; simp
  | c :: cs, l, h, h1 => by
    simp only [rels] at h
    obtain ⟨y, ys, rfl, h2, h3⟩ := h
    simp only [List.all_cons, Bool.and_eq_true] at h1
    intro v hv
    rcases List.mem_cons.1 hv with rfl | hv
    · exact h2.one h1.1
    · exact rels.ones h3 h1.2 v hv

theorem evStore_sound {P : Program} {w0 : Base} {ρ : Rho} {M M' : Mem} {w : World} (hW : WR w0 ρ M w) {t : TypeId} {x v : AV} {ux uv : Value} (hx : rel ρ x ux) (hv : rel ρ v uv) (he : evStore P M t x v = some M') :
    ∃ w', WR w0 ρ M' w' ∧ (Instr.storeAt t ux uv).run P w = .ok () w' := by
  unfold evStore at he
  split at he
  · rename_i b o n hs
    simp only [rel] at hx
    obtain ⟨g, tot, hg, rfl⟩ := hx
    split at he
    · rename_i B hb
      split at he
      · rename_i hok
        simp at he; subst he
        have hc := hv.cells
        have hl := hc.len
        obtain ⟨g', tot', q1, q2, cur, q3, q4, q5⟩ := hW.blk b B hb
        rw [hg] at q1; simp at q1; obtain ⟨rfl, rfl⟩ := q1
        obtain ⟨r1, r2, r3⟩ := write_rel q5 hc (o := o) (by omega)
        refine ⟨_, hW.set hb hg (by rw [r2]; exact q4) r3, ?_⟩
        have hst := run_storeCells_at P g o B.elem uv.cells.toList 0 cur w q3 (by simpa using r1) (hc.ones hok.2.2)
        simp only [Nat.add_zero] at hst
        have hsz : uv.cells.size = n := by simp only [Array.length_toList] at hl; omega
        simp only [Instr.storeAt, Sem.run_bind, Instr.sureAddr, Sem.run_pure, Result.andThen_ok, storeVar, run_szT hs, hsz, ne_eq, not_true_eq_false, if_false, hst]
      · cases he
    · cases he
  · cases he

/-! ### A slice put together -/
def evBuildSlice (P : Program) (M : Mem) (t : TypeId) (len : Nat) (ps : List (Nat × AV)) : Option (AV × Mem) := match sliceElem P t with
  | some (e, s) => match zeroA P e with
    | some z => if len * s ≤ 2 ^ 24 ∧ len ≤ 2 ^ 24 then
        match fillA (fun i => some (i * s, s)) (((Array.range (len * s)).map (fun i => z.cells[i % z.cells.size]!)).toList.map .lit) ps with
        | some cs => if cs.length = len * s then some (.sl M.top 0 len (some len) s, M.push ⟨cs, e⟩) else none
        | none => none
      else none
    | none => none
  | none => none
theorem evBuildSlice_sound {P : Program} {w0 : Base} {ρ : Rho} {M M' : Mem} {w : World} (hW : WR w0 ρ M w) {t : TypeId} {len : Nat} {ps : List (Nat × AV)} {ups : Array (Nat × Value)} {v : AV} (hl : ps.length = ups.toList.length)
    (hp : ∀ (i : Nat) (p : Nat × AV) (q : Nat × Value), ps[i]? = some p → ups.toList[i]? = some q → p.1 = q.1 ∧ rel ρ p.2 q.2) (he : evBuildSlice P M t len ps = some (v, M')) : Does P w0 ρ M' v w (Instr.buildSlice t len ups) := by
  unfold evBuildSlice at he
  split at he
  · rename_i e s hse
    obtain ⟨hu, hs⟩ := sliceElem_spec hse
    split at he
    · rename_i z hz
      split at he
      · rename_i hsm
        split at he
        · rename_i cs hf
          split at he
          · rename_i hlen
            simp at he
            obtain ⟨rfl, rfl⟩ := he
            obtain ⟨uo, h1, h2⟩ := fillA_sound ps ups.toList _ ((Array.range (len * s)).map (fun i => z.cells[i % z.cells.size]!)) cs hl hp (rels.lits _) hf
            have h3 := h2.len
            refine ⟨_, .slice (some ⟨w.heap.size, 0, none⟩) len len, _, hW.fresh _, ?_, hW.new (us := uo) e (fun i x hx => by obtain ⟨y, h4, h5⟩ := h2.get i x hx; exact ⟨y, by simpa using h4, h5⟩), ?_⟩
            · simp only [rel]
              refine ⟨_, _, len, upd_same _ _ _, rfl, Nat.le_refl _, ?_, fun k hk => by simpa using hk, ?_⟩
              · have := hsm.2; unfold maxLen; omega
              · simp only [Array.length_toList] at h3; omega
            · have h16 : ¬ (len * s > 2 ^ 24) := by omega
              by_cases h0 : len * s = 0
              · have hb : ((Array.range (len * s)).map (fun i => z.cells[i % z.cells.size]!)) = #[] := by simp [h0]
                rw [hb] at h1
                have hr : (Array.map (fun (x : Nat) => (default : Value)) (Array.range 0)) = #[] := Array.eq_empty_of_size_eq_zero (by simp)
                simp [Instr.buildSlice, run_underlying hu, run_szT hs, h0, newRow]
                rw [hr, h1]
                simp
              · have h16' : ¬ (16777216 < len * s) := by omega
                simp [Instr.buildSlice, run_underlying hu, run_szT hs, h0, run_zeroA hz, h16', h1, newRow]
          · cases he
        · cases he
      · cases he
    · cases he
  · cases he

end Go.Proofs.YtmlhipckgmbpfaaGreat.Ev
