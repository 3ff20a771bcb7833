/-
  The small interpreter, part 2: operations that read memory and leave it as it is.
-/
import Derived.Test.YtmlhipckgmbpfaaGreatEv
import Derived.Laws.Tables
import Derived.WalkSpells
namespace Go.Proofs.YtmlhipckgmbpfaaGreat.Ev
open Go Go.RowKit
set_option linter.unusedVariables false

def aggT (P : Program) (t : TypeId) : Option Bool := match P.underlying t with
  | some (.struct _) => some true
  | some (.array _ _) => some true
  | some _ => some false
  | none => none
def szT (P : Program) (t : TypeId) : Option Nat := (P.info? t).map (·.size)

theorem run_isAgg' {P : Program} {t : TypeId} {b : Bool} (h : aggT P t = some b) (w : World) : (isAgg t).run P w = .ok b w := by
  unfold aggT at h
  cases hu : P.underlying t with
  | none => simp [hu] at h
  | some d =>
    simp only [isAgg, Sem.run_bind, run_underlying hu, Result.andThen_ok]
    cases d <;> simp [hu] at h <;> subst h <;> rfl
theorem run_szT {P : Program} {t : TypeId} {n : Nat} (h : szT P t = some n) (w : World) : (sizeOf t).run P w = .ok n w := by
  unfold szT at h
  cases hi : P.info? t with
  | none => simp [hi] at h
  | some i => simp [hi] at h; subst h; simp [sizeOf, typeInfo, hi]

theorem add_at (g o n : Nat) : (⟨g, o, none⟩ : Addr).add n = ⟨g, o + n, none⟩ := by
  unfold Addr.add; split
  · rename_i h; subst h; rfl
  · rfl

/-- the cell of a block -/
theorem WR.cell {w0 : Base} {ρ : Rho} {M : Mem} {w : World} (h : WR w0 ρ M w) {b : Nat} {B : Blk} (hb : M.get b = some B) {g tot : Nat} (hg : ρ b = some (g, tot)) {i : Nat} {v : AV} (hv : B.cells[i]? = some v) :
    ∃ u, rel ρ v u ∧ ∀ w' : World, w'.heap = w.heap → w'.cell? ⟨g, i, none⟩ = some u := by
  obtain ⟨g', tot', hg', _, cur, hc, _, hx⟩ := h.blk b B hb
  rw [hg] at hg'
  simp at hg'; obtain ⟨rfl, rfl⟩ := hg'
  obtain ⟨u, h1, h2⟩ := hx i v hv
  exact ⟨u, h2, fun w' hw => by simp [World.cell?, hw, hc, h1]⟩
/-- a row of cells -/
theorem WR.row {w0 : Base} {ρ : Rho} {M : Mem} {w : World} (h : WR w0 ρ M w) {b : Nat} {B : Blk} (hb : M.get b = some B) {g tot : Nat} (hg : ρ b = some (g, tot)) (o n : Nat) (hn : o + n ≤ B.cells.length) :
    ∃ us : List Value, us.length = n ∧ rels ρ ((B.cells.drop o).take n) us ∧ ∀ w' : World, w'.heap = w.heap → ∀ j u, us[j]? = some u → w'.cell? ⟨g, o + j, none⟩ = some u := by
  obtain ⟨g', tot', hg', _, cur, hc, _, hx⟩ := h.blk b B hb
  rw [hg] at hg'
  simp at hg'; obtain ⟨rfl, rfl⟩ := hg'
  have hcur : o + n ≤ cur.size := by
    rcases Nat.eq_zero_or_pos n with h0 | h0
    · subst h0
      rcases Nat.eq_zero_or_pos o with h1 | h1
      · omega
      · have : o - 1 < B.cells.length := by omega
        obtain ⟨u, h2, _⟩ := hx (o - 1) _ (List.getElem?_eq_getElem this)
        have := (Array.getElem?_eq_some_iff.1 h2).1
        omega
    · have : o + n - 1 < B.cells.length := by omega
      obtain ⟨u, h2, _⟩ := hx (o + n - 1) _ (List.getElem?_eq_getElem this)
      have := (Array.getElem?_eq_some_iff.1 h2).1
      omega
  refine ⟨(cur.toList.drop o).take n, by simp; omega, rels.of (by simp; omega) (fun i x y h1 h2 => ?_), fun w' hw j u hu => ?_⟩
  · rw [List.getElem?_take] at h1 h2
    split at h1
    · rename_i hlt
      rw [if_pos hlt] at h2
      rw [List.getElem?_drop] at h1 h2
      obtain ⟨u, h3, h4⟩ := hx _ _ h1
      simp at h2
      rw [h3] at h2
      simp at h2; subst h2
      exact h4
    · cases h1
  · rw [List.getElem?_take] at hu
    split at hu
    · rw [List.getElem?_drop] at hu
      simp only [World.cell?, hw, hc]
      simpa using hu
    · cases hu

theorem run_loadVar_agg {P : Program} {t : TypeId} {us : List Value} (ha : aggT P t = some true) (hs : szT P t = some us.length) {g o : Nat} {w : World} (hc : ∀ j u, us[j]? = some u → w.cell? ⟨g, o + j, none⟩ = some u) :
    (loadVar t ⟨g, o, none⟩).run P w = .ok (.agg us.toArray) w := by
  simp only [loadVar, Sem.run_bind, run_isAgg' ha, Result.andThen_ok, if_true, run_szT hs, run_loadCells_list w ⟨g, o, none⟩ us (fun j v hv => by rw [add_at]; exact hc j v hv)]
  simp
theorem run_loadVar_one {P : Program} {t : TypeId} {u : Value} (ha : aggT P t = some false) {g o : Nat} {w : World} (hc : w.cell? ⟨g, o, none⟩ = some u) :
    (loadVar t ⟨g, o, none⟩).run P w = .ok u w := by
  simp only [loadVar, Sem.run_bind, run_isAgg' ha, Result.andThen_ok, Bool.false_eq_true, if_false, load, Sem.run, hc]

noncomputable def evLoad (P : Program) (M : Mem) (t : TypeId) : AV → Option AV
  | .ptr b o => match M.get b, aggT P t with
    | some B, some true => match szT P t with
      | some n => if o + n ≤ B.cells.length then some (.agg ((B.cells.drop o).take n)) else none
      | none => none
    | some B, some false => B.cells[o]?
    | _, _ => none
  | _ => none
theorem evLoad_sound {P : Program} {w0 : Base} {ρ : Rho} {M : Mem} {w : World} (hW : WR w0 ρ M w) {t : TypeId} {x v : AV} {ux : Value} (hx : rel ρ x ux) (he : evLoad P M t x = some v) :
    ∃ g o, ux = .pointer (some ⟨g, o, none⟩) ∧ ∃ u, rel ρ v u ∧ ∀ w' : World, w'.heap = w.heap → (loadVar t ⟨g, o, none⟩).run P w' = .ok u w' := by
  cases x with
  | ptr b o =>
    simp only [rel] at hx
    obtain ⟨g, tot, hg, rfl⟩ := hx
    refine ⟨g, o, rfl, ?_⟩
    simp only [evLoad] at he
    cases hb : M.get b with
    | none => simp [hb] at he
    | some B =>
      cases ha : aggT P t with
      | none => simp [hb, ha] at he
      | some q =>
        cases q with
        | false =>
          simp only [hb, ha] at he
          obtain ⟨u, h1, h2⟩ := hW.cell hb hg he
          exact ⟨u, h1, fun w' hw => run_loadVar_one ha (h2 w' hw)⟩
        | true =>
          simp only [hb, ha] at he
          cases hs : szT P t with
          | none => simp [hs] at he
          | some n =>
            simp only [hs] at he
            split at he
            · rename_i hle
              simp at he; subst he
              obtain ⟨us, hl, h1, h2⟩ := hW.row hb hg o n hle
              exact ⟨.agg us.toArray, by simp only [rel]; exact ⟨us, rfl, h1⟩, fun w' hw => run_loadVar_agg ha (by rw [hl]; exact hs) (h2 w' hw)⟩
            · cases he
  | _ => simp [evLoad] at he

def fieldsA (P : Program) (t : TypeId) (f : Nat) : Option Field := match P.underlying t with
  | some (.struct fs) => fs[f]?
  | _ => none
theorem fieldsA_spec {P : Program} {t : TypeId} {f : Nat} {fd : Field} (h : fieldsA P t f = some fd) : ∃ fs, P.underlying t = some (.struct fs) ∧ fs[f]? = some fd := by
  unfold fieldsA at h
  split at h
  · rename_i fs hu; exact ⟨fs, hu, h⟩
  · cases h

/-- a part of a struct's cells -/
def evPart (P : Program) (t : TypeId) (cs : List AV) (off : Nat) : Option AV := match aggT P t with
  | some true => match szT P t with
    | some n => if off + n ≤ cs.length then some (.agg ((cs.drop off).take n)) else none
    | none => none
  | some false => cs[off]?
  | none => none
theorem evPart_sound {P : Program} {ρ : Rho} {t : TypeId} {cs : List AV} {l : List Value} (hr : rels ρ cs l) {off : Nat} {v : AV} (he : evPart P t cs off = some v) :
    ∃ u, rel ρ v u ∧ ∀ w : World, (part t l.toArray off).run P w = .ok u w := by
  unfold evPart at he
  cases ha : aggT P t with
  | none => simp [ha] at he
  | some q =>
    cases q with
    | false =>
      simp only [ha] at he
      obtain ⟨u, h1, h2⟩ := hr.get _ _ he
      exact ⟨u, h2, fun w => by simp [part, run_isAgg' ha, h1]⟩
    | true =>
      simp only [ha] at he
      cases hs : szT P t with
      | none => simp [hs] at he
      | some n =>
        simp only [hs] at he
        split at he
        · simp at he; subst he
          refine ⟨.agg ((l.drop off).take n).toArray, by simp only [rel]; exact ⟨_, rfl, (hr.drop off).take n⟩, fun w => ?_⟩
          simp [part, run_isAgg' ha, run_szT hs]
        · cases he

/-- bounds of a slice expression, reckoned; 'none' for the capacity: at least n -/
def boundsA (n : Nat) (c : Option Nat) (lo hi mx : Option Value) : Option (Nat × Nat × Option Nat) :=
  let up := c.getD n
  match (match mx with | some (.int _ i) => if 0 ≤ i ∧ i ≤ up then some (some i.toNat) else none | some _ => none | none => some c) with
  | none => none
  | some m =>
    let um := m.getD n
    match (match hi with | some (.int _ i) => if 0 ≤ i ∧ i ≤ um then some i.toNat else none | some _ => none | none => if mx.isSome then none else some n) with
    | none => none
    | some h => match (match lo with | some (.int _ i) => if 0 ≤ i ∧ i ≤ h then some i.toNat else none | some _ => none | none => some 0) with
      | none => none
      | some l => some (l, h, m)


theorem run_bound {P : Program} {k : IntKind} {i : Int} {y : Nat} {code : BoundsCode} (h : 0 ≤ i ∧ i ≤ y) (w : World) : (Instr.sliceBound (.int k i) y code).run P w = .ok i.toNat w := by
  simp [Instr.sliceBound, asIntOf, h]

theorem boundsA_sound {P : Program} {n cap : Nat} {c : Option Nat} {lo hi mx : Option Value} {l h : Nat} {m : Option Nat} (he : boundsA n c lo hi mx = some (l, h, m)) (hn : n ≤ cap) (hc : ∀ k, c = some k → cap = k) :
    ∃ mm, (∀ w, (Instr.sliceBounds true n cap lo hi mx).run P w = .ok (l, h, mm) w) ∧ l ≤ h ∧ h ≤ mm ∧ mm ≤ cap ∧ (∀ k, m = some k → mm = k) ∧ (m = none → mm = cap ∧ h ≤ n) := by
  have hup : c.getD n ≤ cap := by
    cases c with
    | none => simpa using hn
    | some k => simp; rw [hc k rfl]; exact Nat.le_refl _
  unfold boundsA at he
  simp only at he
  split at he
  · cases he
  rename_i m' hm
  -- the third
  have hM : ∃ mm, (∀ w, (match mx with | some v => Instr.sliceBound v cap (if true = true then BoundsCode.slice3Acap else BoundsCode.slice3Alen) | none => pure cap : Sem Nat).run P w = .ok mm w) ∧ mm ≤ cap ∧ (∀ k, m' = some k → mm = k) ∧ (m' = none → mm = cap) ∧ (m' = none → c = none) := by
    cases mx with
    | none =>
      simp only [Option.some.injEq] at hm
      subst hm
      exact ⟨cap, fun w => rfl, Nat.le_refl _, fun k hk => hc k hk, fun _ => rfl, fun h => h⟩
    | some v =>
      cases v with
      | int kk i =>
        simp only at hm
        split at hm
        · rename_i hb
          simp only [Option.some.injEq] at hm
          subst hm
          exact ⟨i.toNat, fun w => run_bound ⟨hb.1, by omega⟩ w, by omega, fun k hk => by simpa using hk, fun h => (by cases h), fun h => (by cases h)⟩
        · cases hm
      | _ => simp at hm
  obtain ⟨mm, hM1, hM2, hM3, hM4, hM5⟩ := hM
  have hum : m'.getD n ≤ mm := by
    cases m' with
    | none => simp; rw [hM4 rfl]; exact hn
    | some k => simp; rw [hM3 k rfl]; exact Nat.le_refl _
  split at he
  · cases he
  rename_i h' hh
  have hH : (∀ w, (match hi, mx with
      | some v, some _ => Instr.sliceBound v mm .slice3B
      | some v, none => Instr.sliceBound v mm (if true = true then BoundsCode.sliceAcap else BoundsCode.sliceAlen)
      | none, none => pure n
      | none, some _ => stuck "Slice: max without high" : Sem Nat).run P w = .ok h' w) ∧ h' ≤ mm ∧ (m' = none → h' ≤ n) := by
    cases hi with
    | none =>
      cases mx with
      | none =>
        simp only [Option.isSome_none, Bool.false_eq_true, if_false, Option.some.injEq] at hh
        subst hh
        refine ⟨fun w => rfl, ?_, fun _ => Nat.le_refl _⟩
        simp only [Option.some.injEq] at hm
        subst hm
        cases c with
        | none => rw [hM4 rfl]; exact hn
        | some k => rw [hM3 k rfl, ← hc k rfl]; exact hn
      | some v => simp at hh
    | some v =>
      cases v with
      | int kk i =>
        simp only at hh
        split at hh
        · rename_i hb
          simp only [Option.some.injEq] at hh
          subst hh
          refine ⟨fun w => ?_, by omega, fun e => by subst e; simp at hb; omega⟩
          cases mx with
          | none => exact run_bound ⟨hb.1, by omega⟩ w
          | some _ => exact run_bound ⟨hb.1, by omega⟩ w
        · cases hh
      | _ => simp at hh
  obtain ⟨hH1, hH2, hH3⟩ := hH
  split at he
  · cases he
  rename_i l' hl
  have hL : (∀ w, (match lo with | some v => Instr.sliceBound v h' (if mx.isSome then BoundsCode.slice3C else .sliceB) | none => pure 0 : Sem Nat).run P w = .ok l' w) ∧ l' ≤ h' := by
    cases lo with
    | none => simp only [Option.some.injEq] at hl; subst hl; exact ⟨fun w => rfl, Nat.zero_le _⟩
    | some v =>
      cases v with
      | int kk i =>
        simp only at hl
        split at hl
        · rename_i hb
          simp only [Option.some.injEq] at hl
          subst hl
          exact ⟨fun w => run_bound hb w, by omega⟩
        · cases hl
      | _ => simp at hl
  simp only [Option.some.injEq, Prod.mk.injEq] at he
  obtain ⟨rfl, rfl, rfl⟩ := he
  refine ⟨mm, fun w => ?_, hL.2, hH2, hM2, hM3, fun e => ⟨hM4 e, hH3 e⟩⟩
  have a1 := hM1 w; have a2 := hH1 w; have a3 := hL.1 w
  clear hM1 hM2 hM3 hM4 hM5 hum hH1 hH2 hH3 hL hm hh hl hup hc hn
  cases mx <;> cases hi <;> cases lo <;> simp [stuck] at a1 a2 a3 <;> simp [Instr.sliceBounds, a1, a2, a3]

noncomputable def optX (F : Fr) : Option Operand → Option (Option Value)
  | none => some none
  | some x => match litX F x with | some v => some (some v) | none => none
theorem litX_sound {ρ : Rho} {F : Fr} {a : Act} (h : FR ρ F a) {x : Operand} {v : Value} (hx : litX F x = some v) : a.eval x = v := by
  rw [litX_def] at hx
  cases hv : evX F x with
  | none => simp [hv] at hx
  | some y => simp only [hv] at hx; exact toVal_eq hx (evX_sound h hv)
theorem optX_sound {ρ : Rho} {F : Fr} {a : Act} (h : FR ρ F a) {x : Option Operand} {v : Option Value} (hx : optX F x = some v) : x.map a.eval = v := by
  cases x with
  | none => simp [optX] at hx; subst hx; rfl
  | some x =>
    simp only [optX] at hx
    cases hl : litX F x with
    | none => simp [hl] at hx
    | some u => simp [hl] at hx; subst hx; simp [litX_sound h hl]

def sliceElem (P : Program) (t : TypeId) : Option (TypeId × Nat) := match P.underlying t with
  | some (.slice e) => match szT P e with | some s => some (e, s) | none => none
  | _ => none
theorem sliceElem_spec {P : Program} {t e : TypeId} {s : Nat} (h : sliceElem P t = some (e, s)) : P.underlying t = some (.slice e) ∧ szT P e = some s := by
  unfold sliceElem at h
  split at h
  · rename_i e' hu
    cases hs : szT P e' with
    | none => simp [hs] at h
    | some s' => simp [hs] at h; obtain ⟨rfl, rfl⟩ := h; exact ⟨hu, hs⟩
  · cases h

def evSlice (P : Program) (t : TypeId) (x : AV) (lo hi mx : Option Value) : Option AV := match sliceElem P t with
  | none => none
  | some (e, s) => match x with
    | .sl b o n c s' => if s' = s then match boundsA n c lo hi mx with
      | some (l, h, m) =>
        if l < h then some (.sl b (o + l * s) (h - l) (m.map (· - l)) s)
        else match m with
          | some k => if k = l then some (.sl b o 0 (some 0) s) else some (.sl b (o + l * s) 0 (some (k - l)) s)
          | none => if l < n then some (.sl b (o + l * s) 0 none s) else some .esl
      | none => none
      else none
    | .esl => match boundsA 0 none lo hi mx with
      | some (0, 0, _) => some .esl
      | _ => none
    | _ => none
theorem run_slice {P : Program} {t e : TypeId} {s : Nat} (hu : P.underlying t = some (.slice e)) (hs : szT P e = some s) {ad : Addr} {n cap l h m : Nat} {lo hi mx : Option Value} {w : World}
    (hb : (Instr.sliceBounds true n cap lo hi mx).run P w = .ok (l, h, m) w) : (Instr.sliceAt t (.slice (some ad) n cap) lo hi mx).run P w = .ok (.slice (some (if m = l then ad else ad.add (l * s))) (h - l) (m - l)) w := by
  simp only [Instr.sliceAt, Sem.run_bind, run_underlying hu, Result.andThen_ok, Instr.slice, hb, run_szT hs]
  split <;> simp [*]
theorem evSlice_sound {P : Program} {ρ : Rho} {t : TypeId} {x v : AV} {ux : Value} {lo hi mx : Option Value} (hx : rel ρ x ux) (he : evSlice P t x lo hi mx = some v) :
    ∃ u, rel ρ v u ∧ ∀ w : World, (Instr.sliceAt t ux lo hi mx).run P w = .ok u w := by
  unfold evSlice at he
  cases hse : sliceElem P t with
  | none => simp [hse] at he
  | some es =>
    obtain ⟨e, s⟩ := es
    obtain ⟨hu, hs⟩ := sliceElem_spec hse
    simp only [hse] at he
    cases x with
    | sl b o n c s' =>
      simp only [rel] at hx
      obtain ⟨g, tot, cap, hg, rfl, hn, hcm, hc, hfit⟩ := hx
      simp only at he
      split at he
      · rename_i hss
        subst hss
        cases hb : boundsA n c lo hi mx with
        | none => simp [hb] at he
        | some lhm =>
          obtain ⟨l, h, m⟩ := lhm
          obtain ⟨mm, h1, h2, h3, h4, h5, h6⟩ := boundsA_sound (P := P) hb hn hc
          have hmul : l * s' + (mm - l) * s' = mm * s' := by rw [← Nat.add_mul]; congr 1; omega
          have hmul2 : mm * s' ≤ cap * s' := Nat.mul_le_mul_right _ h4
          simp only [hb] at he
          refine ⟨_, ?_, fun w => run_slice hu hs (h1 w)⟩
          split at he
          · rename_i hlt
            simp at he; subst he
            rw [if_neg (by omega), add_at]
            simp only [rel]
            refine ⟨g, tot, mm - l, hg, rfl, by omega, by omega, fun k hk => ?_, by omega⟩
            cases m with
            | none => simp at hk
            | some k' => simp at hk; subst hk; rw [h5 k' rfl]
          · rename_i hlt
            have : h - l = 0 := by omega
            rw [this]
            cases m with
            | some k =>
              have hk := h5 k rfl
              subst hk
              simp only at he
              split at he
              · rename_i hkl
                simp at he; subst he
                rw [if_pos hkl, hkl, Nat.sub_self]
                simp only [rel]
                exact ⟨g, tot, 0, hg, rfl, Nat.le_refl _, Nat.zero_le _, fun k hk => by simpa using hk, by omega⟩
              · rename_i hkl
                simp at he; subst he
                rw [if_neg hkl, add_at]
                simp only [rel]
                exact ⟨g, tot, mm - l, hg, rfl, Nat.zero_le _, by omega, fun k hk => by simpa using hk, by omega⟩
            | none =>
              obtain ⟨h7, h8⟩ := h6 rfl
              simp only at he
              split at he
              · simp at he; subst he
                rw [if_neg (by omega), add_at]
                simp only [rel]
                exact ⟨g, tot, mm - l, hg, rfl, Nat.zero_le _, by omega, (fun k hk => by cases hk), by omega⟩
              · simp at he; subst he
                simp only [rel]
                exact ⟨_, _, rfl, by omega⟩
      · cases he
    | esl =>
      simp only [rel] at hx
      obtain ⟨ad, cap, rfl, hcm⟩ := hx
      simp only at he
      cases hb : boundsA 0 none lo hi mx with
      | none => simp [hb] at he
      | some lhm =>
        obtain ⟨l, h, m⟩ := lhm
        obtain ⟨mm, h1, h2, h3, h4, h5, h6⟩ := boundsA_sound (P := P) hb (Nat.zero_le cap) (fun k hk => by cases hk)
        simp only [hb] at he
        split at he
        · rename_i heq
          simp only [Option.some.injEq, Prod.mk.injEq] at heq he
          obtain ⟨rfl, rfl, _⟩ := heq
          subst he
          refine ⟨_, ?_, fun w => run_slice hu hs (h1 w)⟩
          simp only [rel]
          exact ⟨_, _, rfl, by omega⟩
        · cases he
    | _ => simp at he

end Go.Proofs.YtmlhipckgmbpfaaGreat.Ev
