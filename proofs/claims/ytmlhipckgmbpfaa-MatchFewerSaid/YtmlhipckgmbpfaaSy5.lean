/-
  The symbolic interpreter, part 5: making and writing memory, append.
-/
import Derived.Test.YtmlhipckgmbpfaaSy4
namespace Go.Proofs.Ytmlhipckgmbpfaa.Sy
open Go Go.RowKit
set_option linter.unusedVariables false

def zeroA (P : Program) (t : TypeId) : Option Value := match P.info? t with | some i => i.zero | none => none
theorem run_zeroA {P : Program} {t : TypeId} {z : Value} (h : zeroA P t = some z) (w : World) : (zeroValue t).run P w = .ok z w := by
  unfold zeroA at h
  cases hi : P.info? t with
  | none => simp [hi] at h
  | some i => simp [hi] at h; simp [zeroValue, typeInfo, hi, h]

/-- what is shown of an operation -/
def Does (P : Program) (w0 : World) (ρ : Rho) (M' : Mem) (v : AV) (w : World) (s : Sem Value) : Prop :=
  ∃ ρ' u w', Ext ρ ρ' ∧ rel ρ' v u ∧ WR w0 ρ' M' w' ∧ s.run P w = .ok u w'

theorem new_does {P : Program} {w0 : World} {ρ : Rho} {M : Mem} {w : World} (hW : WR w0 ρ M w) {v : AV} {u : Value} (hv : rel ρ v u) (e : TypeId) :
    Does P w0 ρ (M.push ⟨cellsA v, e, none⟩) (.ptr M.top 0) w (do pure (.pointer (some (← newVar e u)))) := by
  have hc := hv.cells
  refine ⟨_, .pointer (some ⟨w.heap.size, 0, none⟩), _, hW.fresh _, ?_, hW.new (us := u.cells) e (fun i x hx => ?_), ?_⟩
  · simp only [rel]; exact ⟨_, _, upd_same _ _ _, rfl⟩
  · obtain ⟨y, h1, h2⟩ := hc.get i x hx
    exact ⟨y, by simpa using h1, h2⟩
  · simp [newVar, newRow]

/-! ### Stores -/
noncomputable def evStore (P : Program) (M : Mem) (t : TypeId) (x v : AV) : Option Mem := match x, szT P t with
  | .ptr b o, some n => match M.get b with
    | some B => if (cellsA v).length = n ∧ o + n ≤ B.cells.length ∧ (cellsA v).all oneA = true then some (M.put b (some ⟨over B.cells o (cellsA v), B.elem, none⟩)) else none
    | none => none
  | _, _ => none

/-- a row of cells written into a block -/
theorem write_rel {ρ : Rho} {B : Blk} {cur : Array Value} (hx : ∀ (i : Nat) (v : AV), B.cells[i]? = some v → ∃ u, cur[i]? = some u ∧ rel ρ v u) {cs : List AV} {l : List Value} (hc : rels ρ cs l) {o : Nat} (hle : o + cs.length ≤ B.cells.length) :
    o + l.length ≤ cur.size ∧ (cur.toList.take o ++ l ++ cur.toList.drop (o + l.length)).toArray.size = cur.size ∧
    ∀ (i : Nat) (v : AV), (over B.cells o cs)[i]? = some v → ∃ u, (cur.toList.take o ++ l ++ cur.toList.drop (o + l.length)).toArray[i]? = some u ∧ rel ρ v u := by
  have hl := hc.len
  have hcur : B.cells.length ≤ cur.size := by
    rcases Nat.eq_zero_or_pos B.cells.length with h0 | h0
    · omega
    · obtain ⟨u, h1, _⟩ := hx (B.cells.length - 1) _ (List.getElem?_eq_getElem (by omega))
      have := (Array.getElem?_eq_some_iff.1 h1).1
      omega
  refine ⟨by omega, by simp; omega, fun i v hv => ?_⟩
  obtain ⟨_, hg⟩ := over_get B.cells o cs hle
  rw [hg] at hv
  have hget : (cur.toList.take o ++ l ++ cur.toList.drop (o + l.length)).toArray[i]? = if o ≤ i ∧ i < o + l.length then l[i - o]? else cur[i]? := by
    rw [List.getElem?_toArray, List.getElem?_append, List.getElem?_append]
    simp only [List.length_append, List.length_take, Array.length_toList, show min o cur.size = o by omega]
    by_cases h1 : i < o
    · rw [if_pos (by omega), if_pos h1, if_neg (by omega)]
      simp [h1]
    · by_cases h2 : i < o + l.length
      · rw [if_pos h2, if_neg h1, if_pos (by omega)]
      · rw [if_neg h2, if_neg (by omega), List.getElem?_drop, Array.getElem?_toList]
        congr 1; omega
  rw [hget]
  by_cases h3 : o ≤ i ∧ i < o + cs.length
  · rw [if_pos h3] at hv
    rw [if_pos (by omega)]
    exact hc.get _ _ hv
  · rw [if_neg h3] at hv
    rw [if_neg (by omega)]
    exact hx i v hv

theorem rels.ones {ρ : Rho} : ∀ {cs : List AV} {l : List Value}, rels ρ cs l → cs.all oneA = true → ∀ v ∈ l, v.oneCell' = true
  | [], l, h, _ => by simp only [rels] at h; subst h; simp
  | c :: cs, l, h, h1 => by
    simp only [rels] at h
    obtain ⟨y, ys, rfl, h2, h3⟩ := h
    simp only [List.all_cons, Bool.and_eq_true] at h1
    intro v hv
    rcases List.mem_cons.1 hv with rfl | hv
    · exact h2.one h1.1
    · exact rels.ones h3 h1.2 v hv

theorem evStore_sound {P : Program} {w0 : World} {ρ : Rho} {M M' : Mem} {w : World} (hW : WR w0 ρ M w) {t : TypeId} {x v : AV} {ux uv : Value} (hx : rel ρ x ux) (hv : rel ρ v uv) (he : evStore P M t x v = some M') :
    ∃ w', WR w0 ρ M' w' ∧ (Instr.storeAt t ux uv).run P w = .ok () w' := by
  unfold evStore at he
  split at he
  · rename_i b o n hs
    simp only [rel] at hx
    obtain ⟨g, tot, hg, rfl⟩ := hx
    split at he
    · rename_i B hb
      split at he
      · rename_i hok
        simp at he; subst he
        have hc := hv.cells
        have hl := hc.len
        obtain ⟨q2, cur, q3, q4, q5, _⟩ := hW.blk b B g tot hb hg
        obtain ⟨r1, r2, r3⟩ := write_rel q5 hc (o := o) (by omega)
        refine ⟨_, hW.set hb hg (by rw [r2]; exact q4) r3, ?_⟩
        have hst := run_storeCells_at P g o B.elem uv.cells.toList 0 cur w q3 (by simpa using r1) (hc.ones hok.2.2)
        simp only [Nat.add_zero] at hst
        have hsz : uv.cells.size = n := by simp only [Array.length_toList] at hl; omega
        simp only [Instr.storeAt, Sem.run_bind, Instr.sureAddr, Sem.run_pure, Result.andThen_ok, storeVar, run_szT hs, hsz, ne_eq, not_true_eq_false, if_false, hst]
      · cases he
    · cases he
  · cases he

/-! ### A slice put together -/
def evBuildSlice (P : Program) (M : Mem) (t : TypeId) (len : Nat) (ps : List (Nat × AV)) : Option (AV × Mem) := match sliceElem P t with
  | some (e, s) => match zeroA P e with
    | some z => if len * s ≤ 2 ^ 24 ∧ len ≤ 2 ^ 24 then
        match fillA (fun i => some (i * s, s)) (((Array.range (len * s)).map (fun i => z.cells[i % z.cells.size]!)).toList.map .lit) ps with
        | some cs => if cs.length = len * s then some (.sl M.top 0 len (some len) s, M.push ⟨cs, e, none⟩) else none
        | none => none
      else none
    | none => none
  | none => none
theorem evBuildSlice_sound {P : Program} {w0 : World} {ρ : Rho} {M M' : Mem} {w : World} (hW : WR w0 ρ M w) {t : TypeId} {len : Nat} {ps : List (Nat × AV)} {ups : Array (Nat × Value)} {v : AV} (hl : ps.length = ups.toList.length)
    (hp : ∀ (i : Nat) (p : Nat × AV) (q : Nat × Value), ps[i]? = some p → ups.toList[i]? = some q → p.1 = q.1 ∧ rel ρ p.2 q.2) (he : evBuildSlice P M t len ps = some (v, M')) : Does P w0 ρ M' v w (Instr.buildSlice t len ups) := by
  unfold evBuildSlice at he
  split at he
  · rename_i e s hse
    obtain ⟨hu, hs⟩ := sliceElem_spec hse
    split at he
    · rename_i z hz
      split at he
      · rename_i hsm
        split at he
        · rename_i cs hf
          split at he
          · rename_i hlen
            simp at he
            obtain ⟨rfl, rfl⟩ := he
            obtain ⟨uo, h1, h2⟩ := fillA_sound ps ups.toList _ ((Array.range (len * s)).map (fun i => z.cells[i % z.cells.size]!)) cs hl hp (rels.lits _) hf
            have h3 := h2.len
            refine ⟨_, .slice (some ⟨w.heap.size, 0, none⟩) len len, _, hW.fresh _, ?_, hW.new (us := uo) e (fun i x hx => by obtain ⟨y, h4, h5⟩ := h2.get i x hx; exact ⟨y, by simpa using h4, h5⟩), ?_⟩
            · simp only [rel]
              refine ⟨_, _, len, upd_same _ _ _, rfl, Nat.le_refl _, ?_, fun k hk => by simpa using hk, ?_⟩
              · have := hsm.2; unfold maxLen; omega
              · simp only [Array.length_toList] at h3; omega
            · have h16 : ¬ (len * s > 2 ^ 24) := by omega
              by_cases h0 : len * s = 0
              · have hb : ((Array.range (len * s)).map (fun i => z.cells[i % z.cells.size]!)) = #[] := by simp [h0]
                rw [hb] at h1
                have hr : (Array.map (fun (x : Nat) => (default : Value)) (Array.range 0)) = #[] := Array.eq_empty_of_size_eq_zero (by simp)
                simp [Instr.buildSlice, run_underlying hu, run_szT hs, h0, newRow]
                rw [hr, h1]
                simp
              · have h16' : ¬ (16777216 < len * s) := by omega
                simp [Instr.buildSlice, run_underlying hu, run_szT hs, h0, run_zeroA hz, h16', h1, newRow]
          · cases he
        · cases he
      · cases he
    · cases he
  · cases he

end Go.Proofs.Ytmlhipckgmbpfaa.Sy
