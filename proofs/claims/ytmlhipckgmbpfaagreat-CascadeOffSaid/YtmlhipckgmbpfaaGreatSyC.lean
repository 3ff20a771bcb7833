/-
  The symbolic interpreter, part 9: how contracts are made out of trees, and used.
-/
import Derived.Test.YtmlhipckgmbpfaaGreatSyB
namespace Go.Proofs.YtmlhipckgmbpfaaGreat.Sy
open Go Go.RowKit
set_option linter.unusedVariables false

theorem CallTo.mono {P : Program} {f : FuncId} {args : List AV} {M : Mem} {G H : AV → Mem → Prop} (hc : CallTo P f args M G) (h : ∀ v M', G v M' → H v M') : CallTo P f args M H := fun w0 ρ us w h1 h2 =>
  (hc w0 ρ us w h1 h2).mono fun e w' ⟨ρ', u, v, M', q1, q2, q3, q4, q5⟩ => ⟨ρ', u, v, M', q1, q2, q3, q4, h v M' q5⟩
/-- a contract out of a tree -/
theorem call_to {P : Program} (hP : Plainly P) (hm : P.follows .mixedOrders = true) {call : CallT} (hcall : CallOk P call) {lp : FuncId → Nat → Option Summ} (hlp : AllLoops P lp) {n m : Nat} {f : FuncId} {args : List AV} {M : Mem} {d : D} {G : AV × Mem → Prop}
    (h : (callK P call lp n m f args M d fun v M' _ => .leaf (v, M')).Ok G) : CallTo P f args M fun v M' => G (v, M') :=
  (callK_ok hP hm hcall hlp n m f args M d (fun v M' _ => .leaf (v, M')) G h).mono fun _ _ ⟨_, h⟩ => h

/-! ### Values without places of blocks -/
mutual
def Free : AV → Prop
  | .lit _ => True
  | .esl => True
  | .agg cs => Frees cs
  | .tup cs => Frees cs
  | .fn _ a b => Frees a ∧ Frees b
  | .view _ _ cell => ∀ i j, Free (cell i j)
  | .vptr _ cell => ∀ j, Free (cell j)
  | _ => False
def Frees : List AV → Prop
  | [] => True
  | v :: vs => Free v ∧ Frees vs
end
mutual
theorem rel.free {ρ ρ' : Rho} (h : ∀ g o x, ρ.still g o = some x → ρ'.still g o = some x) : ∀ {v : AV} {u : Value}, Free v → rel ρ v u → rel ρ' v u
  | .lit v, u, _, hr => by simpa [rel] using hr
  | .esl, u, _, hr => by simpa only [rel] using hr
  | .agg cs, u, hf, hr => by
    simp only [rel] at hr ⊢
    simp only [Free] at hf
    obtain ⟨l, h1, h2⟩ := hr
    exact ⟨l, h1, rels.free h hf h2⟩
  | .tup cs, u, hf, hr => by
    simp only [rel] at hr ⊢
    simp only [Free] at hf
    obtain ⟨l, h1, h2⟩ := hr
    exact ⟨l, h1, rels.free h hf h2⟩
  | .fn f a b, u, hf, hr => by
    simp only [rel] at hr ⊢
    simp only [Free] at hf
    obtain ⟨l, m, h1, h2, h3⟩ := hr
    exact ⟨l, m, h1, rels.free h hf.1 h2, rels.free h hf.2 h3⟩
  | .view n s cell, u, hf, hr => by
    simp only [rel] at hr ⊢
    simp only [Free] at hf
    obtain ⟨a, cap, h1, h2, h3, h4, h5⟩ := hr
    refine ⟨a, cap, h1, h2, h3, h4, fun hn => ?_⟩
    obtain ⟨g, o, h6, h7⟩ := h5 hn
    refine ⟨g, o, h6, fun i j hi hj => ?_⟩
    obtain ⟨x, h8, h9, h10⟩ := h7 i j hi hj
    exact ⟨x, h _ _ _ h8, rel.free h (hf i j) h9, h10⟩
  | .vptr m cell, u, hf, hr => by
    simp only [rel] at hr ⊢
    simp only [Free] at hf
    obtain ⟨g, o, h1, h2⟩ := hr
    refine ⟨g, o, h1, fun j hj => ?_⟩
    obtain ⟨x, h8, h9⟩ := h2 j hj
    exact ⟨x, h _ _ _ h8, rel.free h (hf j) h9⟩
  | .ptr .., _, hf, _ => by simp [Free] at hf
  | .sl .., _, hf, _ => by simp [Free] at hf
  | .own .., _, hf, _ => by simp [Free] at hf
  | .rptr .., _, hf, _ => by simp [Free] at hf
theorem rels.free {ρ ρ' : Rho} (h : ∀ g o x, ρ.still g o = some x → ρ'.still g o = some x) : ∀ {v : List AV} {u : List Value}, Frees v → rels ρ v u → rels ρ' v u
  | [], u, _, hr => by simpa [rels] using hr
  | v :: vs, u, hf, hr => by
    simp only [rels] at hr ⊢
    simp only [Frees] at hf
    obtain ⟨x, xs, h1, h2, h3⟩ := hr
    exact ⟨x, xs, h1, rel.free h hf.1 h2, rels.free h hf.2 h3⟩
end

/-! ### A world that has grown -/
def more (ρ : Rho) (st : Nat → Nat → Option Value) : Rho := { ρ with still := fun g o => (ρ.still g o).or (st g o) }
theorem WR.grown {w0 : World} {ρ : Rho} {M : Mem} {w w' : World} (h : WR w0 ρ M w) (hb : Below w.heap.size w w') (st : Nat → Nat → Option Value) (hst : ∀ g o v, st g o = some v → w.heap.size ≤ g ∧ w'.cell? ⟨g, o, none⟩ = some v) :
    Ext ρ (more ρ st) ∧ WR w0 (more ρ st) M w' := by
  have hE : Ext ρ (more ρ st) := ⟨fun _ _ h => h, fun _ h => h, fun g o v hv => by simp [more, hv], rfl, rfl⟩
  have lt : ∀ {b B g t}, M.get b = some B → ρ b = some (g, t) → g < w.heap.size := fun {b B g t} h1 h2 => by
    obtain ⟨_, cur, h3, _⟩ := h.blk b B g t h1 h2
    exact (Array.getElem?_eq_some_iff.1 h3).1
  refine ⟨hE, ⟨hb.os.trans h.keep.os, hb.tape.trans h.keep.tape, hb.output.trans h.keep.output, Nat.le_trans h.keep.size hb.size, fun k hk hm => by rw [hb.block k (Nat.lt_of_lt_of_le hk h.keep.size)]; exact h.keep.block k hk hm⟩, h.dom, h.nild, fun b B g tot h1 h2 => ?_, h.has, h.inj, fun g o v hv => ?_, fun g o v hg hm hv => ?_, fun b B g t h1 h2 o => ?_⟩
  · obtain ⟨q2, cur, q3, q4, q5⟩ := h.holds h1 h2
    exact ⟨q2, cur, by rw [hb.block g (lt h1 h2)]; exact q3, q4, q5.ext hE⟩
  · simp only [more, Option.or_eq_some_iff] at hv
    rcases hv with hv | ⟨_, hv⟩
    · have := h.still_lt hv
      have h2 := h.still g o v hv
      simp only [World.cell?] at h2 ⊢
      rw [hb.block g this]; exact h2
    · exact (hst g o v hv).2
  · simp only [more, Option.or_eq_some_iff] at hv
    rcases hv with hv | ⟨_, hv⟩
    · exact h.first g o v hg hm hv
    · have h1 := (hst g o v hv).1
      have h2 := h.keep.size
      omega
  · simp only [more, Option.or_eq_none_iff]
    refine ⟨h.apart b B g t h1 h2 o, ?_⟩
    cases hs : st g o with
    | none => rfl
    | some v => have := (hst g o v hs).1; have := lt h1 h2; omega

/-- a callee that takes and gives values without places changes no memory -/
theorem CallTo.frame {P : Program} {f : FuncId} {args : List AV} {G : AV → Prop} (h : CallTo P f args ⟨0, 0, []⟩ fun v _ => Free v ∧ G v) (hf : Frees args) (M : Mem) : CallTo P f args M fun v M' => M' = M ∧ G v := fun w0 ρ us w hr hW => by
  let ρb : Rho := ⟨fun _ => none, fun _ => false, ρ.still, ρ.still, fun _ => false⟩
  have hb : WR w ρb ⟨0, 0, []⟩ w := ⟨Keep.refl _ _, fun _ _ h => by simp [ρb] at h, fun _ h => by simp [ρb] at h, fun b B _ _ h => by simp [Mem.get_def] at h, fun b B h => by simp [Mem.get_def] at h, fun b b' B B' g t t' h => by simp [Mem.get_def] at h,
    fun g o v h => hW.still g o v h, fun g o v _ _ h => h, fun b B g t h => by simp [Mem.get_def] at h⟩
  refine (h w ρb us w (rels.free (ρ := ρ) (ρ' := ρb) (fun _ _ _ h => h) hf hr) hb).mono ?_
  rintro e w' ⟨ρ', u, v, M', rfl, hE, hv, hW', hfv, hG⟩
  have hbelow : Below w.heap.size w w' := by
    have := hW'.keep
    rw [hE.mine] at this
    exact Keep.below this
  obtain ⟨q1, q2⟩ := hW.grown hbelow (fun g o => if w.heap.size ≤ g then ρ'.still g o else none) (fun g o v hv => by
    split at hv
    · rename_i hh; exact ⟨hh, hW'.still g o v hv⟩
    · cases hv)
  refine ⟨_, u, v, M, rfl, q1, rel.free (fun g o x hx => ?_) hfv hv, q2, rfl, hG⟩
  simp only [more]
  rcases Nat.lt_or_ge g w.heap.size with hg | hg
  · have h1 := hW'.first g o x hg (by rw [hE.mine]) hx
    rw [hE.base] at h1
    have h2 : ρ.still g o = some x := h1
    rw [h2]; rfl
  · rw [if_pos hg, hx]
    cases hs : ρ.still g o with
    | none => rfl
    | some y => have := hW.still_lt hs; omega

/-- a pointer to a block that is written no more -/
theorem CallTo.thaw {P : Program} {f : FuncId} {rest : List AV} {G : AV → Prop} {b : Nat} {B : Blk} {M : Mem} (h : CallTo P f (.vptr B.cells.length (fun j => B.cells.getD j (.lit undef)) :: rest) ⟨0, 0, []⟩ fun v _ => Free v ∧ G v) (hB : Frees B.cells) (hf : Frees rest) (hb : M.get b = some B) : CallTo P f (.ptr b 0 :: rest) M fun v M' => M' = M.put b none ∧ G v := fun w0 ρ us w hr hW => by
  simp only [rels] at hr
  obtain ⟨u, us', rfl, hp, hr⟩ := hr
  have hp' := hp
  simp only [rel] at hp'
  obtain ⟨g, tot, hg, rfl⟩ := hp'
  obtain ⟨cur, q1, q2, q3, q4, q5⟩ := hW.freeze hb hg
  have hfr : ∀ (l : List AV), Frees l → ∀ (j : Nat) v, l[j]? = some v → Free v := fun l => by
    induction l with
    | nil => intro _ j v h; simp at h
    | cons x l ih =>
      intro hx j v h
      simp only [Frees] at hx
      cases j with
      | zero => simp at h; subst h; exact hx.1
      | succ j => exact ih hx.2 j v (by simpa using h)
  have hv : rel (quiet ρ g cur) (.vptr B.cells.length (fun j => B.cells.getD j (.lit undef))) (.pointer (some ⟨g, 0, none⟩)) := by
    simp only [rel]
    refine ⟨g, 0, rfl, fun j hj => ?_⟩
    have hj' : B.cells[j]? = some (B.cells.getD j (.lit undef)) := by
      rw [List.getD_eq_getElem?_getD, List.getElem?_eq_getElem hj]; rfl
    obtain ⟨x, h1, h2⟩ := q3.1 j _ hj'
    exact ⟨x, by simp [quiet, h1], h2.ext q4⟩
  have h6 := (h.frame (by simp only [Frees, Free]; exact ⟨fun j => by
    rw [List.getD_eq_getElem?_getD]
    cases hj : B.cells[j]? with
    | none => simp [Free]
    | some v => exact hfr B.cells hB j v hj, hf⟩) (M.put b none)) w0 (quiet ρ g cur) (.pointer (some ⟨g, 0, none⟩) :: us') w (by simp only [rels]; exact ⟨_, _, rfl, hv, rels.ext q4 hr⟩) q5
  refine h6.mono ?_
  rintro e w' ⟨ρ', u, v, M', r1, r2, r3, r4, r5, r6⟩
  exact ⟨ρ', u, v, M', r1, q4.trans r2, r3, r4, r5, r6⟩
/-- a contract of the walks, here -/
theorem CallTo.of_calls {P : Program} {f : FuncId} {us : List Value} {u : Value} (h : ∀ w, Calls P f us.toArray w fun e w' => e = .returned u ∧ Below w.heap.size w w') (M : Mem) : CallTo P f (us.map .lit) M fun v M' => v = .lit u ∧ M' = M := fun w0 ρ us' w hr hW => by
  have e : us' = us := toVals_eq (by
    clear hr hW h
    induction us with
    | nil => rfl
    | cons x xs ih => simp [toVals, toVal, ih]) hr
  subst e
  refine (h w).mono ?_
  rintro e w' ⟨rfl, hb⟩
  obtain ⟨q1, q2⟩ := hW.grown hb (fun _ _ => none) (fun _ _ _ h => by cases h)
  exact ⟨_, u, .lit u, M, rfl, q1, by simp [rel], q2, rfl, rfl⟩
/-- and back -/
theorem CallTo.calls {P : Program} {f : FuncId} {args : List AV} {G : Value → Prop} (h : CallTo P f args ⟨0, 0, []⟩ fun v _ => ∃ u, v = .lit u ∧ G u) {w : World} {us : List Value} (hr : rels (rho0 w) args us) :
    Calls P f us.toArray w fun e w' => (∃ u, e = .returned u ∧ G u) ∧ Below w.heap.size w w' := by
  refine (h w (rho0 w) us w hr (WR.start w)).mono ?_
  rintro e w' ⟨ρ', u, v, M', rfl, hE, hv, hW', x, rfl, hG⟩
  simp only [rel] at hv
  subst hv
  refine ⟨⟨u, rfl, hG⟩, ?_⟩
  have := hW'.keep
  rw [hE.mine] at this
  exact Keep.below this

/-! ### Tables of contracts -/
structure Con (P : Program) where
  f : FuncId
  run : List AV → Mem → Option (AV × Mem)
  ob : List AV → Mem → Option Bool
  ok : ∀ args M v M', run args M = some (v, M') → owed (ob args M) → Grow M M' ∧ CallTo P f args M fun v' M2 => v' = v ∧ M2 = M'
noncomputable def tableRun {P : Program} (l : List (Con P)) (f : FuncId) (args : List AV) (M : Mem) : Option (AV × Mem) := List.rec (motive := fun _ => Option (AV × Mem)) none (fun c _ ih => Bool.rec (motive := fun _ => Option (AV × Mem)) ih (c.run args M) (Nat.beq c.f f)) l
noncomputable def tableOb {P : Program} (l : List (Con P)) (f : FuncId) (args : List AV) (M : Mem) : Option Bool := List.rec (motive := fun _ => Option Bool) none (fun c _ ih => Bool.rec (motive := fun _ => Option Bool) ih (c.ob args M) (Nat.beq c.f f)) l
noncomputable def table {P : Program} (l : List (Con P)) : CallT := ⟨tableRun l, tableOb l, fun f args M => (tableRun l f args M).isSome⟩
theorem table_ok {P : Program} : ∀ l : List (Con P), CallOk P (table l)
  | [] => fun f args M v M' h => by cases h
  | c :: l => fun f args M v M' h hob => by
    cases hc : Nat.beq c.f f with
    | true =>
      have e : c.f = f := Nat.eq_of_beq_eq_true hc
      have h1 : c.run args M = some (v, M') := by
        have : (table (c :: l)).run f args M = Bool.rec (motive := fun _ => Option (AV × Mem)) (tableRun l f args M) (c.run args M) (Nat.beq c.f f) := rfl
        rw [this, hc] at h; exact h
      have h2 : owed (c.ob args M) := by
        have : (table (c :: l)).ob f args M = Bool.rec (motive := fun _ => Option Bool) (tableOb l f args M) (c.ob args M) (Nat.beq c.f f) := rfl
        rw [this, hc] at hob; exact hob
      rw [← e]
      exact c.ok args M v M' h1 h2
    | false =>
      have h1 : (table l).run f args M = some (v, M') := by
        have : (table (c :: l)).run f args M = Bool.rec (motive := fun _ => Option (AV × Mem)) (tableRun l f args M) (c.run args M) (Nat.beq c.f f) := rfl
        rw [this, hc] at h; exact h
      have h2 : owed ((table l).ob f args M) := by
        have : (table (c :: l)).ob f args M = Bool.rec (motive := fun _ => Option Bool) (tableOb l f args M) (c.ob args M) (Nat.beq c.f f) := rfl
        rw [this, hc] at hob; exact hob
      exact table_ok l f args M v M' h1 h2
/-- of a callee without places: its value, and what it owes -/
noncomputable def Con.pure {P : Program} (f : FuncId) (val : List AV → Option AV) (ob : List AV → Option Bool) (h : ∀ args v, val args = some v → owed (ob args) → Frees args ∧ CallTo P f args ⟨0, 0, []⟩ fun v' _ => Free v' ∧ v' = v) : Con P where
  f := f
  run := fun args M => Option.rec (motive := fun _ => Option (AV × Mem)) none (fun v => some (v, M)) (val args)
  ob := fun args _ => ob args
  ok := fun args M v M' hr hob => by
    cases hv : val args with
    | none => rw [hv] at hr; cases hr
    | some x =>
      rw [hv] at hr
      simp at hr
      obtain ⟨rfl, rfl⟩ := hr
      obtain ⟨h1, h2⟩ := h args x hv hob
      exact ⟨Grow.refl M, (h2.frame h1 M).mono fun v' M' ⟨q1, q2⟩ => ⟨q2, q1⟩⟩

/-! ### Loops -/
def loopsOf : Code → List Code
  | .seq a b => loopsOf a ++ loopsOf b
  | .cond _ a b => loopsOf a ++ loopsOf b
  | .block _ b => loopsOf b
  | .scope b => loopsOf b
  | .loop b => b :: loopsOf b
  | _ => []
theorem loopsOk_of {P : Program} {lp : Nat → Option Summ} : ∀ (c : Code), (∀ b ∈ loopsOf c, ∀ S, lp (codeId b) = some S → Sums P b S) → LoopsOk P lp c
  | .seq a b, h => ⟨loopsOk_of a fun x hx => h x (by simp [loopsOf, hx]), loopsOk_of b fun x hx => h x (by simp [loopsOf, hx])⟩
  | .cond _ a b, h => ⟨loopsOk_of a fun x hx => h x (by simp [loopsOf, hx]), loopsOk_of b fun x hx => h x (by simp [loopsOf, hx])⟩
  | .block _ b, h => loopsOk_of b fun x hx => h x (by simp [loopsOf, hx])
  | .scope b, h => loopsOk_of b fun x hx => h x (by simp [loopsOf, hx])
  | .loop b, h => by
    simp only [LoopsOk]
    cases hl : lp (codeId b) with
    | none => exact loopsOk_of b fun x hx => h x (by simp [loopsOf, hx])
    | some S => exact h b (by simp [loopsOf]) S hl
  | .skip, _ | .label _, _ | .region .., _ | .exit _, _ | .ret, _ | .goto _, _ | .refuse _, _ | .rangeFunc .., _ => trivial
def loopsIn (P : Program) (f : FuncId) (key : Nat) : List Code := match P.funcs[f]? with
  | some fn => match fn.body with
    | some c => (loopsOf c).filter fun b => Nat.beq (codeId b) key
    | none => []
  | none => []
def theBody (P : Program) (f : FuncId) (key : Nat) : Code := (loopsIn P f key).headD .skip
structure Lp (P : Program) where
  f : FuncId
  key : Nat
  S : Summ
  one : Nat.beq (loopsIn P f key).length 1 = true
  ok : Sums P (theBody P f key) S
noncomputable def lpOf {P : Program} (l : List (Lp P)) (f : FuncId) (key : Nat) : Option Summ := List.rec (motive := fun _ => Option Summ) none (fun c _ ih => Bool.rec (motive := fun _ => Option Summ) ih (some c.S) (Nat.beq c.f f && Nat.beq c.key key)) l
theorem lpOf_some {P : Program} : ∀ {l : List (Lp P)} {f : FuncId} {key : Nat} {S : Summ}, lpOf l f key = some S → ∃ c : Lp P, c.f = f ∧ c.key = key ∧ c.S = S
  | [], f, key, S, h => by cases h
  | c :: l, f, key, S, h => by
    have e : lpOf (c :: l) f key = Bool.rec (motive := fun _ => Option Summ) (lpOf l f key) (some c.S) (Nat.beq c.f f && Nat.beq c.key key) := rfl
    rw [e] at h
    cases hc : (Nat.beq c.f f && Nat.beq c.key key) with
    | false => rw [hc] at h; exact lpOf_some h
    | true =>
      rw [hc] at h
      simp at h
      rw [Bool.and_eq_true] at hc
      exact ⟨c, Nat.eq_of_beq_eq_true hc.1, Nat.eq_of_beq_eq_true hc.2, h⟩
theorem lps_sums {P : Program} (l : List (Lp P)) : ∀ (f : FuncId) fn c, P.funcs[f]? = some fn → fn.body = some c → ∀ b ∈ loopsOf c, ∀ S, lpOf l f (codeId b) = some S → Sums P b S := fun f fn c hf hb b hbm S hS => by
  obtain ⟨e, rfl, hk, rfl⟩ := lpOf_some hS
  have h1 := e.one
  have h2 := e.ok
  have hmem : b ∈ loopsIn P e.f e.key := by
    unfold loopsIn
    rw [hf]
    simp only [hb]
    exact List.mem_filter.2 ⟨hbm, by rw [hk]; exact Nat.beq_refl _⟩
  unfold theBody at h2
  match hl : loopsIn P e.f e.key, hmem, h1, h2 with
  | [x], hmem, _, h2 =>
    simp at hmem
    subst hmem
    exact h2
  | [], hmem, _, _ => cases hmem
  | _ :: _ :: _, _, h1, _ => cases h1

theorem lps_ok {P : Program} (l : List (Lp P)) : AllLoops P (lpOf l) := fun f fn c hf hb => loopsOk_of c (lps_sums l f fn c hf hb)
/-- inner loops of a loop's body -/
theorem loopsOk_in {P : Program} {lp : Nat → Option Summ} : ∀ (c : Code), (∀ b ∈ loopsOf c, ∀ S, lp (codeId b) = some S → Sums P b S) → ∀ b ∈ loopsOf c, ∀ x ∈ loopsOf b, ∀ S, lp (codeId x) = some S → Sums P x S := by
  intro c h b hb x hx
  have key : ∀ c b x, b ∈ loopsOf c → x ∈ loopsOf b → x ∈ loopsOf c := by
    intro c
    induction c with
    | seq p q ihp ihq => intro b x hb hx; simp only [loopsOf, List.mem_append] at hb ⊢; rcases hb with hb | hb; exact .inl (ihp b x hb hx); exact .inr (ihq b x hb hx)
    | cond _ p q ihp ihq => intro b x hb hx; simp only [loopsOf, List.mem_append] at hb ⊢; rcases hb with hb | hb; exact .inl (ihp b x hb hx); exact .inr (ihq b x hb hx)
    | block _ p ih => intro b x hb hx; simp only [loopsOf] at hb ⊢; exact ih b x hb hx
    | scope p ih => intro b x hb hx; simp only [loopsOf] at hb ⊢; exact ih b x hb hx
    | loop p ih =>
      intro b x hb hx
      simp only [loopsOf, List.mem_cons] at hb ⊢
      rcases hb with rfl | hb
      · exact .inr hx
      · exact .inr (ih b x hb hx)
    | _ => intro b x hb hx; simp [loopsOf] at hb
  exact h x (key c b x hb hx)
theorem body_ok {P : Program} (l : List (Lp P)) {f : FuncId} {key : Nat} {fn : Func} {c : Code} (hf : P.funcs[f]? = some fn) (hb : fn.body = some c) (hin : Nat.beq (loopsIn P f key).length 1 = true) : LoopsOk P (lpOf l f) (theBody P f key) := by
  have hmem : theBody P f key ∈ loopsIn P f key := by
    unfold theBody
    match h : loopsIn P f key, hin with
    | x :: _, _ => simp
    | [], hin => cases hin
  unfold loopsIn at hmem
  rw [hf] at hmem
  simp only [hb] at hmem
  exact loopsOk_of _ (loopsOk_in c (lps_sums l f fn c hf hb) _ (List.mem_filter.1 hmem).1)
theorem all_sums {P : Program} {lp : FuncId → Nat → Option Summ} (h : ∀ (f : FuncId) fn c, P.funcs[f]? = some fn → fn.body = some c → ∀ b ∈ loopsOf c, ∀ S, lp f (codeId b) = some S → Sums P b S) : AllLoops P lp := fun f fn c hf hb => loopsOk_of c (h f fn c hf hb)
theorem LoopTo.mono {P : Program} {b : Code} {n : Nat} {F : Fr} {M : Mem} {G H : Ex → Fr → Mem → Prop} (h : LoopTo P b n F M G) (hG : ∀ ex F M, G ex F M → H ex F M) : LoopTo P b n F M H := fun w0 ρ a w Q hF hW hQ => h w0 ρ a w Q hF hW fun ex F' M' ρ' a' w' hg => hQ ex F' M' ρ' a' w' (hG ex F' M' hg)
/-- a loop's round -/
theorem loop_round {P : Program} (hP : Plainly P) (hm : P.follows .mixedOrders = true) {call : CallT} (hcall : CallOk P call) {lp : FuncId → Nat → Option Summ} (hlp : AllLoops P lp) {lq : Nat → Option Summ} {b : Code} (hlq : LoopsOk P lq b) {k m N n : Nat} {F : Fr} {M : Mem} {d : D} {G : Ex → Fr → Mem → Prop}
    (h : (codeK (β := Ex × Fr × Mem) P call (callK P call lp k m) lq N b F M d fun ex F' M' _ => .leaf (ex, F', M')).Ok fun r => match r.1 with | .norm => LoopTo P b n r.2.1 r.2.2 G | .exit id => G (.exit id) r.2.1 r.2.2 | .ret => G .ret r.2.1 r.2.2) : LoopTo P b (n + 1) F M G := fun w0 ρ a w Q hF hW hQ => by
  rw [rounds_succ]
  refine codeK_sound hP hm hcall (callK_ok hP hm hcall hlp k m) N b hlq hF hW h fun ex F' M' d' ρ' a' w' h0 h1 h2 h3 => ?_
  cases ex with
  | norm => exact h0 w0 ρ' a' w' Q h2 h3 fun ex2 F2 M2 ρ2 a2 w2 g q1 q2 q3 => hQ ex2 F2 M2 ρ2 a2 w2 g (h1.trans q1) q2 q3
  | exit id => exact hQ (.exit id) F' M' ρ' a' w' h0 h1 h2 h3
  | ret => exact hQ .ret F' M' ρ' a' w' h0 h1 h2 h3

/-- only those slots -/
noncomputable def maskF (p : List Bool) (F : Fr) : Fr := List.rec (motive := fun _ => List Bool → Fr) (fun _ => []) (fun x _ ih p => List.rec (motive := fun _ => Fr) (none :: ih []) (fun b q _ => Bool.rec (motive := fun _ => Fr) (none :: ih q) (x :: ih q) b) p) F p
theorem maskF_len : ∀ (F : Fr) (p : List Bool), (maskF p F).length = F.length
  | [], p => rfl
  | x :: F, [] => by
    have : maskF [] (x :: F) = none :: maskF [] F := rfl
    rw [this, List.length_cons, maskF_len F []]; rfl
  | x :: F, b :: q => by
    cases b
    · have : maskF (false :: q) (x :: F) = none :: maskF q F := rfl
      rw [this, List.length_cons, maskF_len F q]; rfl
    · have : maskF (true :: q) (x :: F) = x :: maskF q F := rfl
      rw [this, List.length_cons, maskF_len F q]; rfl
theorem maskF_get : ∀ (F : Fr) (p : List Bool) (t : Nat) (v : AV), (maskF p F)[t]? = some (some v) → F[t]? = some (some v)
  | [], p, t, v, h => by simp [maskF] at h
  | x :: F, [], t, v, h => by
    have e : maskF [] (x :: F) = none :: maskF [] F := rfl
    rw [e] at h
    cases t with
    | zero => simp at h
    | succ t => simpa using maskF_get F [] t v (by simpa using h)
  | x :: F, b :: q, t, v, h => by
    cases b
    · have e : maskF (false :: q) (x :: F) = none :: maskF q F := rfl
      rw [e] at h
      cases t with
      | zero => simp at h
      | succ t => simpa using maskF_get F q t v (by simpa using h)
    · have e : maskF (true :: q) (x :: F) = x :: maskF q F := rfl
      rw [e] at h
      cases t with
      | zero => simpa using h
      | succ t => simpa using maskF_get F q t v (by simpa using h)
theorem FR.mask {ρ : Rho} {F : Fr} {a : Act} (h : FR ρ F a) (p : List Bool) : FR ρ (maskF p F) a := ⟨by rw [maskF_len, h.len], fun t v hv => h.val t v (maskF_get F p t v hv), h.defers⟩
theorem LoopTo.mask {P : Program} {b : Code} {n : Nat} {F : Fr} {M : Mem} {G : Ex → Fr → Mem → Prop} (p : List Bool) (h : LoopTo P b n (maskF p F) M G) : LoopTo P b n F M G := fun w0 ρ a w Q hF hW hQ => h w0 ρ a w Q (hF.mask p) hW hQ
theorem LoopTo.out {P : Program} {b : Code} {n : Nat} {F : Fr} {M : Mem} {G : Ex → Fr → Mem → Prop} (p : List Bool) (h : LoopTo P b n F M G) : LoopTo P b n F M fun ex F' M' => ∃ F0, G ex F0 M' ∧ F' = maskF p F0 := fun w0 ρ a w Q hF hW hQ => h w0 ρ a w Q hF hW fun ex F' M' ρ' a' w' hg q1 q2 q3 => hQ ex (maskF p F') M' ρ' a' w' ⟨F', hg, rfl⟩ q1 (q2.mask p) q3
/-- a loop's round, where only those slots are kept -/
theorem loop_mask {P : Program} (hP : Plainly P) (hm : P.follows .mixedOrders = true) {call : CallT} (hcall : CallOk P call) {lp : FuncId → Nat → Option Summ} (hlp : AllLoops P lp) {lq : Nat → Option Summ} {b : Code} (hlq : LoopsOk P lq b) {k m N n : Nat} {F : Fr} {M : Mem} {d : D} {G : Ex → Fr → Mem → Prop} (p : List Bool)
    (h : (codeK (β := Ex × Fr × Mem) P call (callK P call lp k m) lq N b F M d fun ex F' M' _ => .leaf (ex, maskF p F', M')).Ok fun r => match r.1 with | .norm => LoopTo P b n r.2.1 r.2.2 G | .exit id => G (.exit id) r.2.1 r.2.2 | .ret => G .ret r.2.1 r.2.2) : LoopTo P b (n + 1) F M G := fun w0 ρ a w Q hF hW hQ => by
  rw [rounds_succ]
  refine codeK_sound hP hm hcall (callK_ok hP hm hcall hlp k m) N b hlq hF hW h fun ex F' M' d' ρ' a' w' h0 h1 h2 h3 => ?_
  cases ex with
  | norm => exact h0 w0 ρ' a' w' Q (h2.mask p) h3 fun ex2 F2 M2 ρ2 a2 w2 g q1 q2 q3 => hQ ex2 F2 M2 ρ2 a2 w2 g (h1.trans q1) q2 q3
  | exit id => exact hQ (.exit id) _ M' ρ' a' w' h0 h1 (h2.mask p) h3
  | ret => exact hQ .ret _ M' ρ' a' w' h0 h1 (h2.mask p) h3
theorem roundP {P : Program} (hP : Plainly P) (hm : P.follows .mixedOrders = true) (l : List (Con P)) (lp : List (Lp P)) (k m : Nat) (f : FuncId) (key : Nat) {fn : Func} {c : Code} (hf : P.funcs[f]? = some fn) (hb : fn.body = some c) (hin : Nat.beq (loopsIn P f key).length 1 = true) (p : List Bool) {n : Nat} {F : Fr} {M : Mem} (d : D) (t : Tr (Ex × Fr × Mem)) {G : Ex → Fr → Mem → Prop}
    (h : codeK P (table l) (callK P (table l) (lpOf lp) k m) (lpOf lp f) k (theBody P f key) F M d (fun ex F' M' _ => .leaf (ex, maskF p F', M')) = t)
    (ht : t.Ok fun r => match r.1 with | .norm => LoopTo P (theBody P f key) n r.2.1 r.2.2 G | .exit id => G (.exit id) r.2.1 r.2.2 | .ret => G .ret r.2.1 r.2.2) : LoopTo P (theBody P f key) (n + 1) F M G := by
  subst h
  exact loop_mask hP hm (table_ok l) (lps_ok lp) (body_ok lp hf hb hin) p ht
/-- what a tree leads to -/
def Tr.sel {β : Type} : Tr β → β → Prop
  | .leaf b, r => r = b
  | .fork c t f, r => (c = true ∧ t.sel r) ∨ (c = false ∧ f.sel r)
  | .need c t, r => t.sel r
  | _, _ => False
theorem Tr.Ok.of_sel {β : Type} {H : β → Prop} : ∀ {t : Tr β} {r : β}, t.Ok H → t.sel r → H r
  | .leaf b, r, h, hs => by subst hs; exact h
  | .fork c t f, r, h, hs => by
    rcases hs with ⟨e, hs⟩ | ⟨e, hs⟩
    · exact (h.1 e).of_sel hs
    · exact (h.2 e).of_sel hs
  | .need c t, r, h, hs => h.2.of_sel hs
  | .bad _, _, h, _ => h.elim
  | .ask _, _, h, _ => h.elim
/-- a summary: for frames of a form, of so much -/
theorem sums_of {P : Program} {b : Code} {S : Summ} {X : Type} (form : X → Fr) (M0 : X → Mem) (res : X → Tr (Ex × Fr × Mem)) (p : List Bool)
    (hS : ∀ F M H, (S F M).Ok H → ∃ x, maskF p F = form x ∧ M = M0 x ∧ (res x).Ok H)
    (h : ∀ x, ∃ n, LoopTo P b n (form x) (M0 x) fun ex F' M' => (res x).sel (ex, F', M')) : Sums P b S := fun F M H hok => by
  obtain ⟨x, h1, h2, h3⟩ := hS F M H hok
  obtain ⟨n, h4⟩ := h x
  refine ⟨n, ?_⟩
  rw [h2]
  refine LoopTo.mask p ?_
  rw [h1]
  exact h4.mono fun ex F' M' hs => h3.of_sel hs
noncomputable def isSo (p : Prop) : Bool := @decide p (Classical.propDecidable p)
theorem isSo_t {p : Prop} : (isSo p = true) = p := by simp [isSo]
theorem isSo_f {p : Prop} : (isSo p = false) = ¬ p := by simp [isSo]
theorem need_so {β : Type} {p : Prop} {t : Tr β} {G : β → Prop} (hp : p) (ht : t.Ok G) : (Tr.need (isSo p) t).Ok G := ⟨by rw [isSo_t]; exact hp, ht⟩
theorem fork_ok {β : Type} {c : Bool} {t f : Tr β} {G : β → Prop} (ht : c = true → t.Ok G) (hf : c = false → f.Ok G) : (Tr.fork c t f).Ok G := ⟨ht, hf⟩
theorem leaf_boo {X Y : Bool} (h : X = true ↔ Y = true) : (Tr.leaf (AV.lit (.bool X))).Ok fun v => v = AV.lit (.bool Y) := by
  show _ = _
  cases X <;> cases Y <;> simp at h ⊢
theorem leaf_int {X Y : Int} (h : X = Y) : (Tr.leaf (AV.lit (.int .i64 X))).Ok fun v => v = AV.lit (.int .i64 Y) := by
  show _ = _
  rw [h]
theorem need_t {β : Type} {c : Bool} {t : Tr β} {G : β → Prop} (hp : c = true) (ht : t.Ok G) : (Tr.need c t).Ok G := ⟨hp, ht⟩
/-- a summary's form: where the frame is of a form -/
noncomputable def formS {X : Type} (get : Fr → Mem → Option X) (form : X → Fr) (M0 : X → Mem) (C : X → Prop) (res : X → Tr (Ex × Fr × Mem)) (p : List Bool) : Summ := fun F M => match get F M with
  | some x => .need (isSo (maskF p F = form x ∧ M = M0 x)) (.need (isSo (C x)) (res x))
  | none => .bad 20
theorem formS_ok {P : Program} {b : Code} {X : Type} {get : Fr → Mem → Option X} {form : X → Fr} {M0 : X → Mem} {C : X → Prop} {res : X → Tr (Ex × Fr × Mem)} {p : List Bool} (h : ∀ x, C x → ∃ n, LoopTo P b n (form x) (M0 x) fun ex F' M' => (res x).sel (ex, F', M')) : Sums P b (formS get form M0 C res p) := fun F M H hok => by
  unfold formS at hok
  split at hok
  · rename_i x _
    have h1 := hok.1
    have h2 := hok.2.1
    rw [isSo_t] at h1 h2
    obtain ⟨n, h4⟩ := h x h2
    refine ⟨n, ?_⟩
    rw [h1.2]
    refine LoopTo.mask p ?_
    rw [h1.1]
    exact h4.mono fun ex F' M' hs => Tr.Ok.of_sel hok.2.2 hs
  · exact hok.elim
/-- a slot's number -/
noncomputable def slotI (F : Fr) (t : Nat) : Option Int := match nth F t with
  | some (some (.lit (.int .i64 n))) => some n
  | _ => none

/-! ### The run's start: rows of cells -/
def viewOf {α : Type} (cells : α → List Value) (d : α) (s : Nat) (xs : List α) : AV := .view xs.length s fun i j => .lit ((cells (xs.getD i d)).getD j undef)
theorem viewOf_free {α : Type} (cells : α → List Value) (d : α) (s : Nat) (xs : List α) : Free (viewOf cells d s xs) := by simp [viewOf, Free]

/-! ### Calls that are reckoned inside of regions that draw -/
theorem WR.restamp {w0 : World} {ρ : Rho} {M : Mem} {w : World} (h : WR w0 ρ M w) (s : Nat) : WR w0 ρ ⟨M.top, s, M.bs⟩ w :=
  have key : ∀ b, Mem.get ⟨M.top, s, M.bs⟩ b = M.get b := fun b => rfl
  ⟨h.keep, h.dom, h.nild, h.blk, h.has, h.inj, h.still, h.first, h.apart⟩
noncomputable def inlRun (P : Program) (call : CallT) (lp : FuncId → Nat → Option Summ) (n m : Nat) (f : FuncId) (args : List AV) (M : Mem) : Option (AV × Mem) := match callK (β := AV × Mem) P call lp n m f args M (.auto 100000000 .done) (fun v M' _ => .leaf (v, M')) with
  | .leaf r => match Nat.ble M.top r.2.top with
    | true => some (r.1, ⟨r.2.top, M.stamp + r.2.stamp + 1, r.2.bs⟩)
    | false => none
  | _ => none
noncomputable def tableX {P : Program} (l : List (Con P)) (lp : FuncId → Nat → Option Summ) (n m : Nat) : Nat → CallT
  | 0 => table l
  | j + 1 => ⟨fun f args M => match tableRun l f args M with
      | some r => some r
      | none => inlRun P (tableX l lp n m j) lp n m f args M, fun f args M => match tableRun l f args M with
      | some _ => tableOb l f args M
      | none => none, fun f args M => (tableRun l f args M).isSome⟩
theorem tableX_ok {P : Program} (hP : Plainly P) (hm : P.follows .mixedOrders = true) (l : List (Con P)) {lp : FuncId → Nat → Option Summ} (hlp : AllLoops P lp) (n m : Nat) : ∀ j, CallOk P (tableX l lp n m j)
  | 0 => table_ok l
  | j + 1 => fun f args M v M' h hob => by
    simp only [tableX] at h hob
    cases ht : tableRun l f args M with
    | some r =>
      rw [ht] at h hob
      simp only [Option.some.injEq] at h
      subst h
      exact table_ok l f args M v M' ht hob
    | none =>
      rw [ht] at h
      simp only [inlRun] at h
      split at h
      · rename_i r hr
        split at h
        · rename_i hle
          simp only [Option.some.injEq, Prod.mk.injEq] at h
          obtain ⟨rfl, rfl⟩ := h
          refine ⟨⟨by simpa [Nat.ble_eq] using hle, by simp only; omega, fun e => by simp only at e; omega⟩, fun w0 ρ us w h1 h2 => ?_⟩
          refine (callK_ok (β := AV × Mem) hP hm (tableX_ok hP hm l hlp n m j) hlp n m f args M (.auto 100000000 .done) (fun v M' _ => .leaf (v, M')) (fun x => x = r) (by rw [hr]; exact rfl) w0 ρ us w h1 h2).mono ?_
          rintro e w' ⟨ρ', u, v, M', q1, q2, q3, q4, _, q5⟩
          have q6 : (v, M') = r := q5
          subst q6
          exact ⟨ρ', u, v, _, q1, q2, q3, q4.restamp _, rfl, rfl⟩
        · cases h
      · cases h
end Go.Proofs.YtmlhipckgmbpfaaGreat.Sy
