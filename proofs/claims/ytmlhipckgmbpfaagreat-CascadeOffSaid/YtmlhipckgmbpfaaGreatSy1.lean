/-
  The symbolic interpreter: as the small one (Ev), but for values that hold variables, too. Part 1: values, memory, what they stand for.
-/
import Derived.WalkKit
import Derived.Orders
import Derived.LoopN
import Derived.Laws.Cells
import Derived.Laws.CopyRow
import Derived.Below
import Derived.Laws.Tables
namespace Go.Proofs.YtmlhipckgmbpfaaGreat.Sy
open Go Go.RowKit
set_option linter.unusedVariables false

/-- a value, its places by the names of blocks -/
inductive AV where
  | lit (v : Value)
  | ptr (b o : Nat)
  | sl (b o n : Nat) (c : Option Nat) (s : Nat)
  | esl
  | agg (cs : List AV)
  | tup (cs : List AV)
  | fn (f : Fn) (first cap : List AV)
  /-- a slice that is read alone: its length, its elements' cells -/
  | view (n s : Nat) (cell : Nat → Nat → AV)
  /-- a place in such a slice: so many cells -/
  | vptr (m : Nat) (cell : Nat → AV)
  /-- a slice of the run's own, all of a block of rows from its start on -/
  | own (b n s : Nat)
  /-- a place in such a block -/
  | rptr (b i s o : Nat)

/-- a block's number in the heap, and how many cells it has -/
structure Rho where
  blk : Nat → Option (Nat × Nat)
  /-- is a block's name that of no block: nil -/
  nil : Nat → Bool
  /-- cells that nobody writes -/
  still : Nat → Nat → Option Value
  /-- those at the start -/
  base : Nat → Nat → Option Value
  /-- blocks that stood at the start, and may be written -/
  mine : Nat → Bool
instance : CoeFun Rho (fun _ => Nat → Option (Nat × Nat)) := ⟨Rho.blk⟩

mutual
def rel (ρ : Rho) : AV → Value → Prop
  | .lit v, u => u = v
  | .ptr b o, u => ∃ g tot, ρ b = some (g, tot) ∧ u = .pointer (some ⟨g, o, none⟩)
  | .sl b o n c s, u => ∃ g tot cap, ρ b = some (g, tot) ∧ u = .slice (some ⟨g, o, none⟩) n cap ∧ n ≤ cap ∧ cap ≤ maxLen ∧ (∀ k, c = some k → cap = k) ∧ o + cap * s ≤ tot
  | .esl, u => ∃ (ad : Addr) (cap : Nat), u = .slice (some ad) 0 cap ∧ cap ≤ maxLen
  | .agg cs, u => ∃ l : List Value, u = .agg l.toArray ∧ rels ρ cs l
  | .tup cs, u => ∃ l : List Value, u = .tuple l.toArray ∧ rels ρ cs l
  | .fn f a b, u => ∃ l m : List Value, u = .func f l.toArray m.toArray ∧ rels ρ a l ∧ rels ρ b m
  | .view n s cell, u => ∃ (a : Option Addr) (cap : Nat), u = .slice a n cap ∧ n ≤ cap ∧ cap ≤ maxLen ∧ (a = none → cap = 0) ∧ (0 < n → ∃ g o, a = some ⟨g, o, none⟩ ∧ ∀ i j, i < n → j < s → ∃ x, ρ.still g (o + i * s + j) = some x ∧ rel ρ (cell i j) x ∧ x.oneCell' = true)
  | .vptr m cell, u => ∃ g o, u = .pointer (some ⟨g, o, none⟩) ∧ ∀ j, j < m → ∃ x, ρ.still g (o + j) = some x ∧ rel ρ (cell j) x
  | .own b n s, u => (ρ.nil b = true ∧ n = 0 ∧ u = .slice none 0 0) ∨ (∃ g tot cap, ρ b = some (g, tot) ∧ u = .slice (some ⟨g, 0, none⟩) n cap ∧ n ≤ cap ∧ cap ≤ maxLen ∧ cap * s ≤ tot)
  | .rptr b i s o, u => ∃ g tot, ρ b = some (g, tot) ∧ u = .pointer (some ⟨g, i * s + o, none⟩)
def rels (ρ : Rho) : List AV → List Value → Prop
  | [], l => l = []
  | v :: vs, l => ∃ u us, l = u :: us ∧ rel ρ v u ∧ rels ρ vs us
end

structure Ext (ρ ρ' : Rho) : Prop where
  blk : ∀ b g, ρ b = some g → ρ' b = some g
  nil : ∀ b, ρ.nil b = true → ρ'.nil b = true
  still : ∀ g o v, ρ.still g o = some v → ρ'.still g o = some v
  base : ρ'.base = ρ.base
  mine : ρ'.mine = ρ.mine
theorem Ext.refl (ρ : Rho) : Ext ρ ρ := ⟨fun _ _ h => h, fun _ h => h, fun _ _ _ h => h, rfl, rfl⟩
theorem Ext.trans {a b c : Rho} (h : Ext a b) (h' : Ext b c) : Ext a c := ⟨fun x g hx => h'.blk x g (h.blk x g hx), fun x hx => h'.nil x (h.nil x hx), fun g o v hx => h'.still g o v (h.still g o v hx), h'.base.trans h.base, h'.mine.trans h.mine⟩

mutual
theorem rel.ext {ρ ρ' : Rho} (h : Ext ρ ρ') : ∀ {v : AV} {u : Value}, rel ρ v u → rel ρ' v u
  | .lit v, u, hr => by simpa [rel] using hr
  | .ptr b o, u, hr => by
    simp only [rel] at hr ⊢
    obtain ⟨g, tot, h1, h2⟩ := hr
    exact ⟨g, tot, h.blk _ _ h1, h2⟩
  | .sl b o n c s, u, hr => by
    simp only [rel] at hr ⊢
    obtain ⟨g, tot, cap, h1, h2⟩ := hr
    exact ⟨g, tot, cap, h.blk _ _ h1, h2⟩
  | .esl, u, hr => by simpa only [rel] using hr
  | .agg cs, u, hr => by
    simp only [rel] at hr ⊢
    obtain ⟨l, h1, h2⟩ := hr
    exact ⟨l, h1, rels.ext h h2⟩
  | .tup cs, u, hr => by
    simp only [rel] at hr ⊢
    obtain ⟨l, h1, h2⟩ := hr
    exact ⟨l, h1, rels.ext h h2⟩
  | .fn f a b, u, hr => by
    simp only [rel] at hr ⊢
    obtain ⟨l, m, h1, h2, h3⟩ := hr
    exact ⟨l, m, h1, rels.ext h h2, rels.ext h h3⟩
  | .view n s cell, u, hr => by
    simp only [rel] at hr ⊢
    obtain ⟨a, cap, h1, h2, h3, h4, h5⟩ := hr
    refine ⟨a, cap, h1, h2, h3, h4, fun hn => ?_⟩
    obtain ⟨g, o, h6, h7⟩ := h5 hn
    refine ⟨g, o, h6, fun i j hi hj => ?_⟩
    obtain ⟨x, h8, h9, h10⟩ := h7 i j hi hj
    exact ⟨x, h.still _ _ _ h8, rel.ext h h9, h10⟩
  | .vptr m cell, u, hr => by
    simp only [rel] at hr ⊢
    obtain ⟨g, o, h1, h2⟩ := hr
    refine ⟨g, o, h1, fun j hj => ?_⟩
    obtain ⟨x, h8, h9⟩ := h2 j hj
    exact ⟨x, h.still _ _ _ h8, rel.ext h h9⟩
  | .own b n s, u, hr => by
    simp only [rel] at hr ⊢
    rcases hr with ⟨h1, h2⟩ | ⟨g, tot, cap, h1, h2⟩
    · exact .inl ⟨h.nil _ h1, h2⟩
    · exact .inr ⟨g, tot, cap, h.blk _ _ h1, h2⟩
  | .rptr b i s o, u, hr => by
    simp only [rel] at hr ⊢
    obtain ⟨g, tot, h1, h2⟩ := hr
    exact ⟨g, tot, h.blk _ _ h1, h2⟩
theorem rels.ext {ρ ρ' : Rho} (h : Ext ρ ρ') : ∀ {v : List AV} {u : List Value}, rels ρ v u → rels ρ' v u
  | [], u, hr => by simpa [rels] using hr
  | v :: vs, u, hr => by
    simp only [rels] at hr ⊢
    obtain ⟨x, xs, h1, h2, h3⟩ := hr
    exact ⟨x, xs, h1, rel.ext h h2, rels.ext h h3⟩
end

/-- the same, but for what stood at the start -/
structure Ext0 (ρ ρ' : Rho) : Prop where
  blk : ∀ b g, ρ b = some g → ρ' b = some g
  nil : ∀ b, ρ.nil b = true → ρ'.nil b = true
  still : ∀ g o v, ρ.still g o = some v → ρ'.still g o = some v
mutual
theorem rel.ext0 {ρ ρ' : Rho} (h : Ext0 ρ ρ') : ∀ {v : AV} {u : Value}, rel ρ v u → rel ρ' v u
  | .lit v, u, hr => by simpa [rel] using hr
  | .ptr b o, u, hr => by
    simp only [rel] at hr ⊢
    obtain ⟨g, tot, h1, h2⟩ := hr
    exact ⟨g, tot, h.blk _ _ h1, h2⟩
  | .sl b o n c s, u, hr => by
    simp only [rel] at hr ⊢
    obtain ⟨g, tot, cap, h1, h2⟩ := hr
    exact ⟨g, tot, cap, h.blk _ _ h1, h2⟩
  | .esl, u, hr => by simpa only [rel] using hr
  | .agg cs, u, hr => by
    simp only [rel] at hr ⊢
    obtain ⟨l, h1, h2⟩ := hr
    exact ⟨l, h1, rels.ext0 h h2⟩
  | .tup cs, u, hr => by
    simp only [rel] at hr ⊢
    obtain ⟨l, h1, h2⟩ := hr
    exact ⟨l, h1, rels.ext0 h h2⟩
  | .fn f a b, u, hr => by
    simp only [rel] at hr ⊢
    obtain ⟨l, m, h1, h2, h3⟩ := hr
    exact ⟨l, m, h1, rels.ext0 h h2, rels.ext0 h h3⟩
  | .view n s cell, u, hr => by
    simp only [rel] at hr ⊢
    obtain ⟨a, cap, h1, h2, h3, h4, h5⟩ := hr
    refine ⟨a, cap, h1, h2, h3, h4, fun hn => ?_⟩
    obtain ⟨g, o, h6, h7⟩ := h5 hn
    refine ⟨g, o, h6, fun i j hi hj => ?_⟩
    obtain ⟨x, h8, h9, h10⟩ := h7 i j hi hj
    exact ⟨x, h.still _ _ _ h8, rel.ext0 h h9, h10⟩
  | .vptr m cell, u, hr => by
    simp only [rel] at hr ⊢
    obtain ⟨g, o, h1, h2⟩ := hr
    refine ⟨g, o, h1, fun j hj => ?_⟩
    obtain ⟨x, h8, h9⟩ := h2 j hj
    exact ⟨x, h.still _ _ _ h8, rel.ext0 h h9⟩
  | .own b n s, u, hr => by
    simp only [rel] at hr ⊢
    rcases hr with ⟨h1, h2⟩ | ⟨g, tot, cap, h1, h2⟩
    · exact .inl ⟨h.nil _ h1, h2⟩
    · exact .inr ⟨g, tot, cap, h.blk _ _ h1, h2⟩
  | .rptr b i s o, u, hr => by
    simp only [rel] at hr ⊢
    obtain ⟨g, tot, h1, h2⟩ := hr
    exact ⟨g, tot, h.blk _ _ h1, h2⟩
theorem rels.ext0 {ρ ρ' : Rho} (h : Ext0 ρ ρ') : ∀ {v : List AV} {u : List Value}, rels ρ v u → rels ρ' v u
  | [], u, hr => by simpa [rels] using hr
  | v :: vs, u, hr => by
    simp only [rels] at hr ⊢
    obtain ⟨x, xs, h1, h2, h3⟩ := hr
    exact ⟨x, xs, h1, rel.ext0 h h2, rels.ext0 h h3⟩
end

theorem rels.len {ρ : Rho} : ∀ {v : List AV} {u : List Value}, rels ρ v u → v.length = u.length
  | [], u, h => by simp only [rels] at h; simp [h]
  | v :: vs, u, h => by
    simp only [rels] at h
    obtain ⟨x, xs, rfl, _, h3⟩ := h
    simp [rels.len h3]
theorem rels.get {ρ : Rho} : ∀ {v : List AV} {u : List Value}, rels ρ v u → ∀ (i : Nat) (x : AV), v[i]? = some x → ∃ y, u[i]? = some y ∧ rel ρ x y
  | [], u, h, i, x, hx => by simp at hx
  | v :: vs, u, h, i, x, hx => by
    simp only [rels] at h
    obtain ⟨y, ys, rfl, h2, h3⟩ := h
    cases i with
    | zero => simp at hx; subst hx; exact ⟨y, rfl, h2⟩
    | succ i => simpa using rels.get h3 i x (by simpa using hx)
theorem rels.of {ρ : Rho} : ∀ {v : List AV} {u : List Value}, v.length = u.length → (∀ (i : Nat) (x : AV) (y : Value), v[i]? = some x → u[i]? = some y → rel ρ x y) → rels ρ v u
  | [], u, h, _ => by simp only [rels]; exact List.eq_nil_of_length_eq_zero (by simpa using h.symm)
  | v :: vs, [], h, _ => by simp at h
  | v :: vs, u :: us, h, hg => by
    simp only [rels]
    exact ⟨u, us, rfl, hg 0 v u rfl rfl, rels.of (by simpa using h) (fun i x y h1 h2 => hg (i + 1) x y (by simpa using h1) (by simpa using h2))⟩
theorem rels.app {ρ : Rho} {a c : List AV} {b d : List Value} (h : rels ρ a b) (h' : rels ρ c d) : rels ρ (a ++ c) (b ++ d) := by
  induction a generalizing b with
  | nil => simp only [rels] at h; subst h; simpa using h'
  | cons x xs ih =>
    simp only [rels] at h
    obtain ⟨y, ys, rfl, h2, h3⟩ := h
    simp only [List.cons_append, rels]
    exact ⟨y, ys ++ d, rfl, h2, ih h3⟩
theorem rels.drop {ρ : Rho} {a : List AV} {b : List Value} (h : rels ρ a b) (k : Nat) : rels ρ (a.drop k) (b.drop k) := by
  induction k generalizing a b with
  | zero => simpa using h
  | succ k ih =>
    cases a with
    | nil => simp only [rels] at h; subst h; simp [rels]
    | cons x xs =>
      simp only [rels] at h
      obtain ⟨y, ys, rfl, _, h3⟩ := h
      simpa using ih h3
theorem rels.take {ρ : Rho} {a : List AV} {b : List Value} (h : rels ρ a b) (k : Nat) : rels ρ (a.take k) (b.take k) := by
  induction k generalizing a b with
  | zero => simp [rels]
  | succ k ih =>
    cases a with
    | nil => simp only [rels] at h; subst h; simp [rels]
    | cons x xs =>
      simp only [rels] at h
      obtain ⟨y, ys, rfl, h2, h3⟩ := h
      simp only [List.take_succ_cons, rels]
      exact ⟨y, ys.take k, rfl, h2, ih h3⟩
theorem rels.lits {ρ : Rho} : ∀ (l : List Value), rels ρ (l.map .lit) l
  | [] => by simp [rels]
  | v :: vs => by simp only [List.map_cons, rels]; exact ⟨v, vs, rfl, by simp [rel], rels.lits vs⟩

mutual
def toVal : AV → Option Value
  | .lit v => some v
  | .agg cs => match toVals cs with | some l => some (.agg l.toArray) | none => none
  | .tup cs => match toVals cs with | some l => some (.tuple l.toArray) | none => none
  | .fn f a b => match toVals a, toVals b with | some l, some m => some (.func f l.toArray m.toArray) | _, _ => none
  | _ => none
def toVals : List AV → Option (List Value)
  | [] => some []
  | v :: vs => match toVal v, toVals vs with | some u, some us => some (u :: us) | _, _ => none
end
mutual
theorem toVal_eq {ρ : Rho} : ∀ {v : AV} {u u' : Value}, toVal v = some u → rel ρ v u' → u' = u
  | .lit v, u, u', h, hr => by simp only [toVal, Option.some.injEq] at h; simp only [rel] at hr; rw [hr, h]
  | .ptr b o, u, u', h, hr => by simp [toVal] at h
  | .sl b o n c s, u, u', h, hr => by simp [toVal] at h
  | .esl, u, u', h, hr => by simp [toVal] at h
  | .view .., u, u', h, hr => by simp [toVal] at h
  | .vptr .., u, u', h, hr => by simp [toVal] at h
  | .own .., u, u', h, hr => by simp [toVal] at h
  | .rptr .., u, u', h, hr => by simp [toVal] at h
  | .agg cs, u, u', h, hr => by
    simp only [toVal] at h
    simp only [rel] at hr
    obtain ⟨l, rfl, h2⟩ := hr
    cases hc : toVals cs with
    | none => simp [hc] at h
    | some m => simp [hc] at h; rw [← h, toVals_eq hc h2]
  | .tup cs, u, u', h, hr => by
    simp only [toVal] at h
    simp only [rel] at hr
    obtain ⟨l, rfl, h2⟩ := hr
    cases hc : toVals cs with
    | none => simp [hc] at h
    | some m => simp [hc] at h; rw [← h, toVals_eq hc h2]
  | .fn f a b, u, u', h, hr => by
    simp only [toVal] at h
    simp only [rel] at hr
    obtain ⟨l, m, rfl, h2, h3⟩ := hr
    cases ha : toVals a with
    | none => simp [ha] at h
    | some x =>
      cases hb : toVals b with
      | none => simp [ha, hb] at h
      | some y => simp [ha, hb] at h; rw [← h, toVals_eq ha h2, toVals_eq hb h3]
theorem toVals_eq {ρ : Rho} : ∀ {v : List AV} {u u' : List Value}, toVals v = some u → rels ρ v u' → u' = u
  | [], u, u', h, hr => by simp only [toVals, Option.some.injEq] at h; simp only [rels] at hr; rw [hr, h]
  | v :: vs, u, u', h, hr => by
    simp only [toVals] at h
    simp only [rels] at hr
    obtain ⟨x, xs, rfl, h2, h3⟩ := hr
    cases ha : toVal v with
    | none => simp [ha] at h
    | some y =>
      cases hb : toVals vs with
      | none => simp [ha, hb] at h
      | some ys => simp [ha, hb] at h; rw [← h, toVal_eq ha h2, toVals_eq hb h3]
end

/-- a value's cells -/
def cellsA : AV → List AV
  | .lit v => v.cells.toList.map .lit
  | .agg cs => cs
  | v => [v]
theorem rel.cells {ρ : Rho} {v : AV} {u : Value} (h : rel ρ v u) : rels ρ (cellsA v) u.cells.toList := by
  cases v with
  | lit v => simp only [rel] at h; subst h; exact rels.lits _
  | ptr b o => have h' := h; simp only [rel] at h; obtain ⟨g, _, _, rfl⟩ := h; simp only [cellsA, Value.cells, rels]; exact ⟨_, [], rfl, h', rfl⟩
  | sl b o n c s => have h' := h; simp only [rel] at h; obtain ⟨g, _, cap, _, rfl, _⟩ := h; simp only [cellsA, Value.cells, rels]; exact ⟨_, [], rfl, h', rfl⟩
  | esl => have h' := h; simp only [rel] at h; obtain ⟨ad, cap, rfl, _⟩ := h; simp only [cellsA, Value.cells, rels]; exact ⟨_, [], rfl, h', rfl⟩
  | agg cs => simp only [rel] at h; obtain ⟨l, rfl, h2⟩ := h; simpa [cellsA, Value.cells] using h2
  | tup cs => have h' := h; simp only [rel] at h; obtain ⟨l, rfl, h2⟩ := h; simp only [cellsA, Value.cells, rels]; exact ⟨_, [], rfl, h', rfl⟩
  | fn f a b => have h' := h; simp only [rel] at h; obtain ⟨l, m, rfl, h2⟩ := h; simp only [cellsA, Value.cells, rels]; exact ⟨_, [], rfl, h', rfl⟩
  | view n s c => have h' := h; simp only [rel] at h; obtain ⟨a, cap, rfl, _⟩ := h; simp only [cellsA, Value.cells, rels]; exact ⟨_, [], rfl, h', rfl⟩
  | vptr m c => have h' := h; simp only [rel] at h; obtain ⟨g, o, rfl, _⟩ := h; simp only [cellsA, Value.cells, rels]; exact ⟨_, [], rfl, h', rfl⟩
  | own b n s =>
    have h' := h
    simp only [rel] at h
    rcases h with ⟨_, _, rfl⟩ | ⟨g, _, cap, _, rfl, _⟩
    · simp only [cellsA, Value.cells, rels]; exact ⟨_, [], rfl, h', rfl⟩
    · simp only [cellsA, Value.cells, rels]; exact ⟨_, [], rfl, h', rfl⟩
  | rptr b i s o => have h' := h; simp only [rel] at h; obtain ⟨g, _, _, rfl⟩ := h; simp only [cellsA, Value.cells, rels]; exact ⟨_, [], rfl, h', rfl⟩
/-- a value of one cell -/
def oneA : AV → Bool
  | .lit v => v.oneCell'
  | .ptr .. | .sl .. | .esl | .fn .. | .view .. | .vptr .. | .own .. | .rptr .. => true
  | _ => false
theorem rel.one {ρ : Rho} {v : AV} {u : Value} (h : rel ρ v u) (h1 : oneA v = true) : u.oneCell' = true := by
  cases v with
  | lit v => simp only [rel] at h; subst h; exact h1
  | ptr b o => simp only [rel] at h; obtain ⟨g, _, _, rfl⟩ := h; rfl
  | sl b o n c s => simp only [rel] at h; obtain ⟨g, _, cap, _, rfl, _⟩ := h; rfl
  | esl => simp only [rel] at h; obtain ⟨ad, cap, rfl, _⟩ := h; rfl
  | agg cs => simp [oneA] at h1
  | tup cs => simp [oneA] at h1
  | fn f a b => simp only [rel] at h; obtain ⟨l, m, rfl, h2⟩ := h; rfl
  | view n s c => simp only [rel] at h; obtain ⟨a, cap, rfl, _⟩ := h; rfl
  | vptr m c => simp only [rel] at h; obtain ⟨g, o, rfl, _⟩ := h; rfl
  | own b n s => simp only [rel] at h; rcases h with ⟨_, _, rfl⟩ | ⟨g, _, cap, _, rfl, _⟩ <;> rfl
  | rptr b i s o => simp only [rel] at h; obtain ⟨g, _, _, rfl⟩ := h; rfl

/-! ### Lists, by their recursor: the kernel reckons so fastest -/
noncomputable def nth {α : Type} (l : List α) : Nat → Option α := List.rec (motive := fun _ => Nat → Option α) (fun _ => none) (fun x _ ih n => Nat.rec (motive := fun _ => Option α) (some x) (fun m _ => ih m) n) l
noncomputable def setN {α : Type} (l : List α) : Nat → α → List α := List.rec (motive := fun _ => Nat → α → List α) (fun _ _ => []) (fun x xs ih n v => Nat.rec (motive := fun _ => List α) (v :: xs) (fun m _ => x :: ih m v) n) l
theorem nth_eq {α : Type} : ∀ (l : List α) (n : Nat), nth l n = l[n]?
  | [], n => by simp [nth]
  | x :: xs, 0 => rfl
  | x :: xs, n + 1 => by rw [List.getElem?_cons_succ, ← nth_eq xs n]; rfl
theorem setN_eq {α : Type} : ∀ (l : List α) (n : Nat) (v : α), setN l n v = l.set n v
  | [], n, v => rfl
  | x :: xs, 0, v => rfl
  | x :: xs, n + 1, v => by rw [List.set_cons_succ, ← setN_eq xs n v]; rfl
noncomputable def obind {α β : Type} (x : Option α) (f : α → Option β) : Option β := Option.rec (motive := fun _ => Option β) none f x
theorem obind_some {α β : Type} {x : Option α} {f : α → Option β} {y : β} (h : obind x f = some y) : ∃ a, x = some a ∧ f a = some y := by
  cases x with
  | none => cases h
  | some a => exact ⟨a, rfl, h⟩
noncomputable def ojoin {α : Type} (x : Option (Option α)) : Option α := Option.rec (motive := fun _ => Option α) none (fun y => y) x
theorem ojoin_some {α : Type} {x : Option (Option α)} {y : α} (h : ojoin x = some y) : x = some (some y) := by
  cases x with
  | none => cases h
  | some a => cases a with
    | none => cases h
    | some a => exact congrArg (fun z => some z) h
/-! ### Memory -/
/-- rows: so many, of so many cells -/
structure Rw where
  n : Nat
  s : Nat
  cell : Nat → Nat → AV
structure Blk where
  cells : List AV
  elem : TypeId
  rows : Option Rw
/-- the next name; how often a block that stood has been written; the blocks, the last one first -/
structure Mem where
  top : Nat
  stamp : Nat
  bs : List (Option Blk)
noncomputable def Mem.get (M : Mem) (b : Nat) : Option Blk := Bool.rec (motive := fun _ => Option Blk) none (ojoin (nth M.bs (M.top - 1 - b))) (Nat.blt b M.top)
theorem Mem.get_def (M : Mem) (b : Nat) : M.get b = if b < M.top then (match M.bs[M.top - 1 - b]? with | some (some B) => some B | _ => none) else none := by
  unfold Mem.get
  rw [nth_eq]
  by_cases h : b < M.top
  · rw [if_pos h, show Nat.blt b M.top = true by simpa [Nat.blt_eq] using h]
    cases M.bs[M.top - 1 - b]? with
    | none => rfl
    | some x => cases x <;> rfl
  · rw [if_neg h, show Nat.blt b M.top = false by cases hh : Nat.blt b M.top with | false => rfl | true => exact absurd (by simpa [Nat.blt_eq] using hh) h]
def Mem.push (M : Mem) (B : Blk) : Mem := ⟨M.top + 1, M.stamp, some B :: M.bs⟩
noncomputable def Mem.put (M : Mem) (b : Nat) (B : Option Blk) : Mem := ⟨M.top, M.stamp + 1, setN M.bs (M.top - 1 - b) B⟩
theorem Mem.put_def (M : Mem) (b : Nat) (B : Option Blk) : M.put b B = ⟨M.top, M.stamp + 1, M.bs.set (M.top - 1 - b) B⟩ := by unfold Mem.put; rw [setN_eq]
theorem Mem.get_push_new (M : Mem) (B : Blk) : (M.push B).get M.top = some B := by simp [Mem.get_def, Mem.push]
theorem Mem.get_push_old (M : Mem) (B : Blk) {b : Nat} (h : b < M.top) : (M.push B).get b = M.get b := by
  simp only [Mem.get_def, Mem.push]
  simp only [show b < M.top + 1 by omega, h, if_true]
  rw [show M.top + 1 - 1 - b = (M.top - 1 - b) + 1 by omega]
  simp
theorem Mem.get_push {M : Mem} {B B' : Blk} {b : Nat} (h : (M.push B).get b = some B') : (b = M.top ∧ B' = B) ∨ (b < M.top ∧ M.get b = some B') := by
  by_cases hb : b < M.top
  · exact .inr ⟨hb, by rw [← Mem.get_push_old M B hb]; exact h⟩
  · by_cases he : b = M.top
    · subst he; rw [Mem.get_push_new] at h; simp at h; exact .inl ⟨rfl, h.symm⟩
    · exfalso
      simp only [Mem.get_def, Mem.push] at h
      simp only [show ¬ b < M.top + 1 by omega, if_false] at h
      cases h
theorem Mem.get_lt {M : Mem} {b : Nat} {B : Blk} (h : M.get b = some B) : b < M.top := by
  rw [Mem.get_def] at h
  split at h
  · assumption
  · cases h
theorem Mem.get_put {M : Mem} {b b' : Nat} {B : Option Blk} {B' : Blk} (hb : b < M.top) (h : (M.put b B).get b' = some B') : (b' = b ∧ B = some B') ∨ (b' ≠ b ∧ M.get b' = some B') := by
  have hlt := Mem.get_lt h
  simp only [Mem.put] at hlt
  rw [Mem.put_def, Mem.get_def] at h
  simp only [hlt, if_true, List.getElem?_set] at h
  by_cases e : b' = b
  · subst e
    left
    refine ⟨rfl, ?_⟩
    simp only [if_true] at h
    split at h
    · rename_i heq
      split at heq
      · simp at heq h; rw [heq, h]
      · cases heq
    · cases h
  · right
    refine ⟨e, ?_⟩
    rw [if_neg (by omega)] at h
    rw [Mem.get_def]
    simp only [hlt, if_true]
    exact h

/-- memory has grown; where its stamp is the same, what stood stands -/
structure Grow (M M' : Mem) : Prop where
  top : M.top ≤ M'.top
  stamp : M.stamp ≤ M'.stamp
  same : M'.stamp = M.stamp → ∀ b, b < M.top → M'.get b = M.get b
theorem Grow.refl (M : Mem) : Grow M M := ⟨Nat.le_refl _, Nat.le_refl _, fun _ _ _ => rfl⟩
theorem Grow.trans {A B C : Mem} (h : Grow A B) (h' : Grow B C) : Grow A C :=
  ⟨Nat.le_trans h.top h'.top, Nat.le_trans h.stamp h'.stamp, fun e b hb => by
    have h1 := h.stamp; have h2 := h'.stamp
    rw [h'.same (by omega) b (Nat.lt_of_lt_of_le hb h.top), h.same (by omega) b hb]⟩
theorem Grow.push (M : Mem) (B : Blk) : Grow M (M.push B) := ⟨Nat.le_succ _, Nat.le_refl _, fun _ b hb => Mem.get_push_old M B hb⟩
theorem Grow.put (M : Mem) (b : Nat) (B : Option Blk) : Grow M (M.put b B) := ⟨Nat.le_refl _, Nat.le_succ _, fun e => by simp [Mem.put] at e⟩

/-- a world that has grown: of what stood, only what is ours has changed -/
structure Keep (mine : Nat → Bool) (w0 w : World) : Prop where
  os : w.os = w0.os
  tape : w.tape = w0.tape
  output : w.output = w0.output
  size : w0.heap.size ≤ w.heap.size
  block : ∀ k, k < w0.heap.size → mine k = false → w.heap[k]? = w0.heap[k]?
theorem Keep.refl (mine : Nat → Bool) (w : World) : Keep mine w w := ⟨rfl, rfl, rfl, Nat.le_refl _, fun _ _ _ => rfl⟩
theorem Keep.alloc {mine : Nat → Bool} {w0 w : World} (h : Keep mine w0 w) (o : Obj) : Keep mine w0 (w.alloc o) :=
  ⟨h.os, h.tape, h.output, Nat.le_trans h.size (by simp), fun k hk hm => by rw [heap_alloc_old w _ (Nat.lt_of_lt_of_le hk h.size)]; exact h.block k hk hm⟩
theorem Keep.below {w0 w : World} (h : Keep (fun _ => false) w0 w) : Below w0.heap.size w0 w := ⟨h.os, h.tape, h.output, h.size, fun k hk => h.block k hk rfl⟩
theorem Keep.setRow {mine : Nat → Bool} {w0 w : World} {g : Nat} (h : Keep mine w0 w) (hg : w0.heap.size ≤ g ∨ mine g = true) (cs : Array Value) : Keep mine w0 (w.setRow g cs) :=
  ⟨h.os, h.tape, h.output, by simp only [World.setRow, Array.size_modify]; exact h.size, fun k hk hm => by
    have hne : k ≠ g := fun e => by
      subst e
      rcases hg with hg | hg
      · omega
      · rw [hm] at hg; cases hg
    rw [setRow_other w g k cs hne]; exact h.block k hk hm⟩

/-- what a memory says of a world; 'w0': the world when the call began -/
structure WR (w0 : World) (ρ : Rho) (M : Mem) (w : World) : Prop where
  keep : Keep ρ.mine w0 w
  dom : ∀ b g, ρ b = some g → b < M.top
  nild : ∀ b, ρ.nil b = true → b < M.top ∧ ρ b = none
  blk : ∀ b B g tot, M.get b = some B → ρ b = some (g, tot) → (w0.heap.size ≤ g ∨ ρ.mine g = true) ∧ ∃ cur, w.heap[g]? = some (.cells cur B.elem (0, 0)) ∧ cur.size = tot ∧ (∀ (i : Nat) (v : AV), B.cells[i]? = some v → ∃ u, cur[i]? = some u ∧ rel ρ v u) ∧
    ∀ R, B.rows = some R → ∀ i j, i < R.n → j < R.s → ∃ u, cur[i * R.s + j]? = some u ∧ rel ρ (R.cell i j) u ∧ u.oneCell' = true
  has : ∀ b B, M.get b = some B → (∃ g tot, ρ b = some (g, tot)) ∨ (ρ.nil b = true ∧ B.cells = [] ∧ ∃ R, B.rows = some R ∧ R.n = 0)
  inj : ∀ b b' B B' g t t', M.get b = some B → M.get b' = some B' → ρ b = some (g, t) → ρ b' = some (g, t') → b = b'
  still : ∀ g o v, ρ.still g o = some v → w.cell? ⟨g, o, none⟩ = some v
  first : ∀ g o v, g < w0.heap.size → ρ.mine g = false → ρ.still g o = some v → ρ.base g o = some v
  apart : ∀ b B g t, M.get b = some B → ρ b = some (g, t) → ∀ o, ρ.still g o = none

/-- the names at the start -/
def rho0 (w : World) : Rho := ⟨fun _ => none, fun _ => false, fun g o => if g < w.heap.size then w.cell? ⟨g, o, none⟩ else none, fun g o => if g < w.heap.size then w.cell? ⟨g, o, none⟩ else none, fun _ => false⟩
theorem WR.start (w : World) : WR w (rho0 w) ⟨0, 0, []⟩ w :=
  ⟨Keep.refl _ _, fun _ _ h => by simp [rho0] at h, fun _ h => by simp [rho0] at h, fun b B _ _ h => by simp [Mem.get_def] at h, fun b B h => by simp [Mem.get_def] at h, fun b b' B B' g t t' h => by simp [Mem.get_def] at h,
    fun g o v h => by
      by_cases hg : g < w.heap.size
      · simpa [rho0, hg] using h
      · simp [rho0, hg] at h,
    fun g o v _ _ h => h, fun b B g t h => by simp [Mem.get_def] at h⟩

/-! ### Frames -/
abbrev Fr := List (Option AV)
structure FR (ρ : Rho) (F : Fr) (a : Act) : Prop where
  len : F.length = a.tmps.size
  val : ∀ t v, F[t]? = some (some v) → rel ρ v (a.tmps.getD t undef)
  defers : a.defers = []
theorem FR.ext {ρ ρ' : Rho} {F : Fr} {a : Act} (h : FR ρ F a) (he : Ext ρ ρ') : FR ρ' F a := ⟨h.len, fun t v hv => (h.val t v hv).ext he, h.defers⟩
noncomputable def putF (F : Fr) (d : Option Tmp) (v : Option AV) : Fr := Option.rec (motive := fun _ => Fr) F (fun t => setN F t v) d
theorem putF_none (F : Fr) (v : Option AV) : putF F none v = F := rfl
theorem putF_some (F : Fr) (t : Tmp) (v : Option AV) : putF F (some t) v = F.set t v := setN_eq F t v
theorem FR.put {ρ : Rho} {F : Fr} {a : Act} (h : FR ρ F a) (d : Option Tmp) {v : AV} {u : Value} (hv : rel ρ v u) : FR ρ (putF F d (some v)) (a.put d u) := by
  cases d with
  | none => exact h
  | some t =>
    refine ⟨by simp [putF_some, Act.put, h.len], fun t' v' hv' => ?_, h.defers⟩
    simp only [putF_some, List.getElem?_set] at hv'
    simp only [Act.put, Array.getD_eq_getD_getElem?, Array.getElem?_setIfInBounds]
    by_cases e : t = t'
    · subst e
      simp only [if_true] at hv' ⊢
      split at hv'
      · rename_i hlt
        simp at hv'
        subst hv'
        rw [if_pos (by rw [← h.len]; exact hlt)]
        exact hv
      · cases hv'
    · rw [if_neg e] at hv'
      rw [if_neg e, ← Array.getD_eq_getD_getElem?]
      exact h.val t' v' hv'

noncomputable def evX (F : Fr) (x : Operand) : Option AV := Operand.rec (motive := fun _ => Option AV) (fun t => ojoin (nth F t)) (fun v => some (.lit v)) (fun _ => none) (fun f => some (.fn (.func f) [] [])) x
theorem evX_tmp (F : Fr) (t : Tmp) : evX F (.tmp t) = match F[t]? with | some (some v) => some v | _ => none := by
  show ojoin (nth F t) = _
  rw [nth_eq]
  cases F[t]? with
  | none => rfl
  | some x => cases x <;> rfl
theorem evX_const (F : Fr) (v : Value) : evX F (.const v) = some (.lit v) := rfl
theorem evX_func (F : Fr) (f : FuncId) : evX F (.func f) = some (.fn (.func f) [] []) := rfl
theorem evX_global (F : Fr) (g : Nat) : evX F (.global g) = none := rfl
theorem evX_sound {ρ : Rho} {F : Fr} {a : Act} (h : FR ρ F a) {x : Operand} {v : AV} (hx : evX F x = some v) : rel ρ v (a.eval x) := by
  cases x with
  | tmp t =>
    rw [evX_tmp] at hx
    split at hx
    · rename_i heq
      simp at hx; subst hx
      exact h.val _ _ heq
    · cases hx
  | const u => simp only [evX_const, Option.some.injEq] at hx; subst hx; simp [rel, Act.eval]
  | global g => simp [evX_global] at hx
  | func f => simp only [evX_func, Option.some.injEq] at hx; subst hx; simp [rel, rels, Act.eval]

/-! ### Operations whose operands have no places -/
def pureRun (P : Program) {α : Type} : Sem α → Option α
  | .pure a => some a
  | .program k => pureRun P (k P)
  | .mark _ k => pureRun P k
  | _ => none
theorem pureRun_sound {P : Program} {α : Type} : ∀ (s : Sem α) (v : α), pureRun P s = some v → ∀ w, s.run P w = .ok v w := by
  intro s
  induction s with
  | pure a => intro v h w; simp only [pureRun, Option.some.injEq] at h; subst h; rfl
  | program k ih => intro v h w; simp only [pureRun] at h; exact ih P v h w
  | mark m k ih => intro v h w; simp only [pureRun] at h; exact ih v h w
  | _ => intro v h; simp [pureRun] at h

noncomputable def litX (F : Fr) (x : Operand) : Option Value := obind (evX F x) toVal
theorem litX_def (F : Fr) (x : Operand) : litX F x = match evX F x with | some v => toVal v | none => none := by unfold litX; cases evX F x <;> rfl
def noSel (o : Oper) : Bool := match o.op with | .select .. => false | _ => true
noncomputable def evPure (P : Program) (F : Fr) (o : Oper) : Option AV :=
  if noSel o && o.op.operands.toList.all fun x => (litX F x).isSome then
    match pureRun P (execOp (fun x => (litX F x).getD undef) o) with
    | some (.value v) => some (.lit v)
    | _ => none
  else none
theorem evPure_sound {P : Program} {ρ : Rho} {F : Fr} {a : Act} (h : FR ρ F a) {o : Oper} {v : AV} (he : evPure P F o = some v) :
    ∃ u, rel ρ v u ∧ ∀ w, (execOp a.eval o).run P w = .ok (.value u) w := by
  unfold evPure at he
  split at he
  · rename_i hc
    rw [Bool.and_eq_true, List.all_eq_true] at hc
    have hs : ∀ cs b, o.op ≠ .select cs b := fun cs b e => by have := hc.1; simp [noSel, e] at this
    have hcongr : execOp a.eval o = execOp (fun x => (litX F x).getD undef) o := execOp_congr o hs fun x hx => by
      have h1 := hc.2 x (by simpa using hx)
      rw [litX_def] at h1 ⊢
      cases hv : evX F x with
      | none => simp [hv] at h1
      | some y =>
        simp only [hv] at h1 ⊢
        obtain ⟨u, hu⟩ := Option.isSome_iff_exists.1 h1
        rw [hu]
        exact toVal_eq hu (evX_sound h hv)
    split at he
    · rename_i u hr
      simp at he; subst he
      exact ⟨u, by simp [rel], fun w => by rw [hcongr]; exact pureRun_sound _ _ hr w⟩
    · cases he
  · cases he

end Go.Proofs.YtmlhipckgmbpfaaGreat.Sy
