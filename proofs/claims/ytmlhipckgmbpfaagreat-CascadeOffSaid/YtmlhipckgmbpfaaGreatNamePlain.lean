/-
  Plain laws of names and words (layer 4): bytes with which a name begins, goes on; how far a name goes.
-/
namespace Go.Proofs.YtmlhipckgmbpfaaGreat
namespace Pl
set_option linter.unusedVariables false

def begB (c : Int) : Bool := decide (97 ≤ c) && decide (c ≤ 122) || decide (65 ≤ c) && decide (c ≤ 90) || decide (c = 95) || decide (128 ≤ c)
def goesB (c : Int) : Bool := begB c || decide (48 ≤ c) && decide (c ≤ 57) || decide (c = 45)
def wordB (c : Int) : Bool := decide (32 ≤ c) && !decide (c = 34)

/-- how many bytes with which a name goes on come first -/
def runL : List UInt8 → Nat
  | [] => 0
  | c :: l => if goesB c.toNat then runL l + 1 else 0

theorem runL_le : ∀ l, runL l ≤ l.length
  | [] => Nat.le_refl _
  | c :: l => by have := runL_le l; simp only [runL, List.length_cons]; split <;> omega

theorem runL_all : ∀ l, (runL l = l.length) ↔ l.all (fun c => goesB c.toNat) = true
  | [] => by simp [runL]
  | c :: l => by
    have := runL_all l
    have hle := runL_le l
    simp only [runL, List.all_cons, List.length_cons]
    by_cases h : goesB c.toNat = true
    · rw [if_pos h, h, Bool.true_and, ← this]; omega
    · rw [if_neg h]; simp [h]

/-- does a name begin at a place? -/
def startsL (l : List UInt8) : Bool :=
  match l with
  | [] => false
  | [c] => !decide ((c.toNat : Int) = 45) && begB c.toNat
  | c :: d :: _ => if (c.toNat : Int) = 45 then begB d.toNat || decide ((d.toNat : Int) = 45) else begB c.toNat

def nameL (l : List UInt8) : Bool := startsL l && l.all (fun c => goesB c.toNat) && decide (l.length ≤ 32)
def textL (l : List UInt8) : Bool := l.all (fun c => wordB c.toNat) && decide (l.length ≤ 256)

theorem all_step {α : Type} (f : α → Bool) (l : List α) (k : Nat) (hk : k < l.length) (h : (l.take k).all f = true) :
    (f l[k] = true → (l.take (k + 1)).all f = true) ∧ (f l[k] = false → l.all f = false) := by
  have e : l.take (k + 1) = l.take k ++ [l[k]] := List.take_succ_eq_append_getElem hk
  constructor
  · intro hf; rw [e, List.all_append, h]; simp [hf]
  · intro hf
    have : l.all f = (l.take (k + 1) ++ l.drop (k + 1)).all f := by rw [List.take_append_drop]
    rw [this, List.all_append, e, List.all_append]; simp [hf]

theorem drop_step {α : Type} (l : List α) (k : Nat) (hk : k < l.length) : l.drop k = l[k] :: l.drop (k + 1) := List.drop_eq_getElem_cons hk

end Pl
end Go.Proofs.YtmlhipckgmbpfaaGreat
namespace Go.Proofs.YtmlhipckgmbpfaaGreat
namespace Pl
/-- the place of the first that fits, counted on from n; -1: none -/
def idxF {α : Type} (g : α → Bool) : List α → Nat → Int
  | [], _ => -1
  | x :: xs, n => if g x then n else idxF g xs (n + 1)
theorem idxF_any {α : Type} (g : α → Bool) : ∀ (xs : List α) (n : Nat), decide (0 ≤ idxF g xs n) = xs.any g
  | [], n => by simp [idxF]
  | x :: xs, n => by
    have e : idxF g (x :: xs) n = if g x then (n : Int) else idxF g xs (n + 1) := rfl
    have ih := idxF_any g xs (n + 1)
    by_cases h : g x = true
    · rw [if_pos h] at e; simp only [e, List.any_cons, h]; simp
    · rw [if_neg h] at e; simp only [e, ih, List.any_cons]; simp [h]
theorem idxF_step {α : Type} (g : α → Bool) (xs : List α) (j : Nat) (hj : j < xs.length) : idxF g (xs.drop j) j = if g xs[j] then (j : Int) else idxF g (xs.drop (j + 1)) (j + 1) := by
  rw [List.drop_eq_getElem_cons hj]; rfl
end Pl
end Go.Proofs.YtmlhipckgmbpfaaGreat
