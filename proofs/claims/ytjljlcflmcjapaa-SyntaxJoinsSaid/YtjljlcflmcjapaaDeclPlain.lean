/-
  Declarations, in plain Lean: pieces between semicolons, trimmed, and what is read out of a piece.
-/
import Derived.Test.YtjljlcflmcjapaaSyV
import Derived.Test.YtjljlcflmcjapaaMatchW
namespace Go.Proofs.Ytjljlcflmcjapaa
open Go Go.RowKit Pl
set_option linter.unusedVariables false
set_option linter.unusedSimpArgs false

def tok0 : TokV := ⟨0, ⟨#[]⟩, 0⟩
def tokAt (l : List TokV) (k : Nat) : TokV := l.getD k tok0
theorem tokAt_eq {l : List TokV} {k : Nat} (h : k < l.length) : tokAt l k = l[k] := by
  unfold tokAt; rw [List.getD_eq_getElem?_getD, List.getElem?_eq_getElem h]; rfl
/-- where what stands at a place ends -/
def mt (l : List TokV) (k : Nat) : Nat := (mtc (kindsT l) k).toNat
theorem mtc_nat (l : List TokV) (k : Nat) : 0 ≤ mtc (kindsT l) k ∧ (k < l.length → (k : Int) ≤ mtc (kindsT l) k ∧ mtc (kindsT l) k ≤ l.length) := by
  have hKL := kindsT_len l
  unfold mtc
  split
  · rename_i h
    split
    · omega
    · have := runs_le (kindsT l) _ ((k : Int).toNat + 1) [clo ((kindsT l)[(k : Int).toNat]'(by omega))] (Nat.le_refl _)
      simp only [Int.toNat_natCast] at this ⊢
      omega
  · omega
theorem mt_int (l : List TokV) (k : Nat) : mtc (kindsT l) k = (mt l k : Int) ∧ (k < l.length → k ≤ mt l k ∧ mt l k ≤ l.length) := by
  have h := mtc_nat l k
  unfold mt
  omega
theorem mt_le {l : List TokV} {k : Nat} (h : k < l.length) : k ≤ mt l k ∧ mt l k ≤ l.length := (mt_int l k).2 h
/-- the next place at the top -/
def nxt (l : List TokV) (k : Nat) : Nat := min (mt l k + 1) l.length
theorem nxt_gt (l : List TokV) : ∀ k, k < l.length → k < nxt l k := fun k h => by have := mt_le h; unfold nxt; omega
theorem nxt_le (l : List TokV) : ∀ k, k < l.length → nxt l k ≤ l.length := fun k h => by unfold nxt; omega
/-- the first place at the top, from one on, with such a token, or the end -/
def tops (p : TokV → Bool) (l : List TokV) (k : Nat) : Nat := Sy.hops (fun j => p (tokAt l j)) (nxt l) l.length k
theorem tops_step (p : TokV → Bool) (l : List TokV) (k : Nat) : tops p l k = if k < l.length ∧ p (tokAt l k) = false then tops p l (nxt l k) else k := Sy.hops_step (nxt_gt l) k
theorem tops_le (p : TokV → Bool) (l : List TokV) (k : Nat) (h : k ≤ l.length) : k ≤ tops p l k ∧ tops p l k ≤ l.length := Sy.hops_le (nxt_gt l) (nxt_le l) _ k (Nat.le_refl _) h

def spB (t : TokV) : Bool := Sy.eqI t.kind 20
def semiB (t : TokV) : Bool := Sy.eqI t.kind 11
def loudB (t : TokV) : Bool := Sy.eqI t.kind 19 && Sy.bytesEq t.text.data.toList [33]
def badB (t : TokV) : Bool := Sy.eqI t.kind 6

/-! ### Trimmed -/
def trim (l : List TokV) : List TokV := ((l.dropWhile spB).reverse.dropWhile spB).reverse
theorem trim_nil : trim [] = [] := rfl
theorem trim_cons {a : TokV} (l : List TokV) (h : spB a = true) : trim (a :: l) = trim l := by unfold trim; rw [List.dropWhile_cons, if_pos h]
theorem dropWhile_snoc {a : TokV} (h : spB a = true) : ∀ l : List TokV, ((l ++ [a]).dropWhile spB = [] ∧ l.dropWhile spB = []) ∨ (l ++ [a]).dropWhile spB = l.dropWhile spB ++ [a]
  | [] => .inl ⟨by simp [List.dropWhile_cons, h], rfl⟩
  | b :: l => by
    by_cases hb : spB b = true
    · simp only [List.cons_append, List.dropWhile_cons, hb, if_true]
      exact dropWhile_snoc h l
    · simp only [List.cons_append, List.dropWhile_cons, hb, if_false]
      exact .inr rfl
theorem trim_snoc {a : TokV} (l : List TokV) (h : spB a = true) : trim (l ++ [a]) = trim l := by
  unfold trim
  rcases dropWhile_snoc h l with ⟨h1, h2⟩ | h1
  · rw [h1, h2]
  · rw [h1, List.reverse_append, List.reverse_singleton, List.singleton_append, List.dropWhile_cons, if_pos h]
theorem trim_id (l : List TokV) (hne : l ≠ []) (h1 : spB (tokAt l 0) = false) (h2 : spB (tokAt l (l.length - 1)) = false) : trim l = l := by
  unfold trim
  have e1 : l.dropWhile spB = l := by
    cases l with
    | nil => rfl
    | cons a m => rw [List.dropWhile_cons, if_neg (by rw [show spB a = false from h1]; simp)]
  rw [e1]
  have e2 : l.reverse.dropWhile spB = l.reverse := by
    cases hr : l.reverse with
    | nil => rfl
    | cons a m =>
      have hl : l = m.reverse ++ [a] := by rw [← List.reverse_reverse l, hr]; simp
      have ha : tokAt l (l.length - 1) = a := by rw [hl]; simp [tokAt]
      rw [ha] at h2
      rw [List.dropWhile_cons, if_neg (by rw [h2]; simp)]
  rw [e2, List.reverse_reverse]
/-- what is between spaces -/
theorem trim_pre : ∀ (k : Nat) (l : List TokV), k ≤ l.length → (∀ j, j < k → spB (tokAt l j) = true) → trim (l.drop k) = trim l
  | 0, l, _, _ => rfl
  | k + 1, [], h, _ => absurd h (by simp)
  | k + 1, a :: l, h, hs => by
    have h0 : spB a = true := hs 0 (by omega)
    rw [List.drop_succ_cons, trim_cons l h0]
    exact trim_pre k l (by simpa using h) fun j hj => hs (j + 1) (by omega)
theorem trim_post (l : List TokV) : ∀ (k : Nat), k ≤ l.length → (∀ j, l.length - k ≤ j → j < l.length → spB (tokAt l j) = true) → trim (l.take (l.length - k)) = trim l := by
  intro k
  induction k with
  | zero => intro _ _; rw [Nat.sub_zero, List.take_length]
  | succ k ih =>
    intro hk hs
    have h1 := ih (by omega) fun j h1 h2 => hs j (by omega) h2
    have h2 : l.take (l.length - k) = l.take (l.length - (k + 1)) ++ [l[l.length - (k + 1)]'(by omega)] := by
      have := List.take_succ_eq_append_getElem (l := l) (i := l.length - (k + 1)) (by omega)
      rw [show l.length - (k + 1) + 1 = l.length - k by omega] at this
      exact this
    rw [h2] at h1
    rw [← h1, trim_snoc]
    have := hs (l.length - (k + 1)) (by omega) (by omega)
    rw [tokAt_eq (by omega)] at this
    exact this
theorem tokAt_take {l : List TokV} {n k : Nat} (h : k < n) (h' : n ≤ l.length) : tokAt (l.take n) k = tokAt l k := by
  rw [tokAt_eq (by rw [List.length_take]; omega), tokAt_eq (by omega), List.getElem_take]
theorem tokAt_drop (l : List TokV) (n k : Nat) : tokAt (l.drop n) k = tokAt l (n + k) := by
  unfold tokAt
  rw [List.getD_eq_getElem?_getD, List.getD_eq_getElem?_getD, List.getElem?_drop]
theorem trim_of (l : List TokV) (i j : Nat) (h1 : i < j) (h2 : j ≤ l.length) (hi : ∀ k, k < i → spB (tokAt l k) = true) (hi' : spB (tokAt l i) = false) (hj : ∀ k, j ≤ k → k < l.length → spB (tokAt l k) = true) (hj' : spB (tokAt l (j - 1)) = false) :
    trim l = (l.drop i).take (j - i) := by
  rw [← trim_pre i l (by omega) hi]
  have := trim_post (l.drop i) (l.length - j) (by rw [List.length_drop]; omega) fun k q1 q2 => by
    rw [List.length_drop] at q1 q2
    rw [tokAt_drop]
    exact hj _ (by omega) (by omega)
  rw [List.length_drop, show l.length - i - (l.length - j) = j - i by omega] at this
  rw [← this]
  refine trim_id _ (fun e => ?_) ?_ ?_
  · have := congrArg List.length e
    rw [List.length_take, List.length_drop, List.length_nil] at this
    omega
  · rw [tokAt_take (by omega) (by rw [List.length_drop]; omega), tokAt_drop]; exact hi'
  · rw [List.length_take, List.length_drop, show min (j - i) (l.length - i) = j - i by omega, tokAt_take (by omega) (by rw [List.length_drop]; omega), tokAt_drop, show i + (j - i - 1) = j - 1 by omega]
    exact hj'
theorem trim_all (l : List TokV) (h : ∀ k, k < l.length → spB (tokAt l k) = true) : trim l = [] := by
  rw [← trim_pre l.length l (Nat.le_refl _) h, List.drop_length]; rfl
theorem trim_len (l : List TokV) : (trim l).length ≤ l.length := by
  unfold trim
  rw [List.length_reverse]
  have h1 := (List.dropWhile_sublist spB (l := (l.dropWhile spB).reverse)).length_le
  have h2 := (List.dropWhile_sublist spB (l := l)).length_le
  rw [List.length_reverse] at h1
  omega

/-! ### Pieces -/
def piecesF (p : TokV → Bool) : Nat → List TokV → List (List TokV)
  | 0, _ => []
  | n + 1, l => l.take (tops p l 0) :: (if tops p l 0 = l.length then [] else piecesF p n (l.drop (tops p l 0 + 1)))
def pieces (p : TokV → Bool) (l : List TokV) : List (List TokV) := piecesF p (l.length + 1) l
theorem piecesF_more (p : TokV → Bool) : ∀ (n m : Nat) (l : List TokV), l.length < n → l.length < m → piecesF p n l = piecesF p m l
  | 0, _, _, h, _ => absurd h (by omega)
  | _, 0, _, _, h => absurd h (by omega)
  | n + 1, m + 1, l, h1, h2 => by
    simp only [piecesF]
    split
    · rfl
    · have h3 := tops_le p l 0 (Nat.zero_le _)
      rw [piecesF_more p n m (l.drop (tops p l 0 + 1)) (by rw [List.length_drop]; omega) (by rw [List.length_drop]; omega)]
theorem pieces_step (p : TokV → Bool) (l : List TokV) : pieces p l = l.take (tops p l 0) :: (if tops p l 0 = l.length then [] else pieces p (l.drop (tops p l 0 + 1))) := by
  show piecesF p (l.length + 1) l = _
  simp only [piecesF]
  split
  · rfl
  · have h3 := tops_le p l 0 (Nat.zero_le _)
    unfold pieces
    rw [piecesF_more p l.length ((l.drop (tops p l 0 + 1)).length + 1) _ (by rw [List.length_drop]; omega) (by omega)]

/-- the first token that fits, from one on -/
def fstT (p : TokV → Bool) (l : List TokV) (k : Nat) : Nat := Sy.hops (fun j => p (tokAt l j)) (fun j => j + 1) l.length k
/-! ### Declarations -/
structure DeclV where
  name : ByteArray
  value : List TokV
  imp : Bool
/-- "important" -/
def impW : List UInt8 := [105, 109, 112, 111, 114, 116, 97, 110, 116]
def lastT (l : List TokV) : TokV := tokAt l (l.length - 1)
/-- a value without its last mark; had it one? -/
def impT (v : List TokV) : List TokV × Bool :=
  if v.length = 0 ∨ Sy.eqI (lastT v).kind 1 = false ∨ Sy.bytesEq (lastT v).text.data.toList impW = false then (v, false)
  else if (trim (v.take (v.length - 1))).length = 0 ∨ loudB (lastT (trim (v.take (v.length - 1)))) = false then (v, false)
  else (trim ((trim (v.take (v.length - 1))).take ((trim (v.take (v.length - 1))).length - 1)), true)
theorem impT_len (v : List TokV) : (impT v).1.length ≤ v.length := by
  unfold impT
  split
  · exact Nat.le_refl _
  · split
    · exact Nat.le_refl _
    · refine Nat.le_trans (trim_len _) ?_
      rw [List.length_take]
      have := trim_len (v.take (v.length - 1))
      rw [List.length_take] at this
      omega
def brokenT (v : List TokV) : Bool := decide (fstT badB v 0 < v.length) || decide (tops loudB v 0 < v.length)
/-- of trimmed tokens: the first place from one on that is no space -/
def behind (l : List TokV) : Nat := Sy.hops (fun j => !spB (tokAt l j)) (fun j => j + 1) l.length 1
def valueT (l : List TokV) : List TokV × Bool := impT (trim (l.drop (behind l + 1)))
def declL (l : List TokV) : Option DeclV :=
  if l.length = 0 ∨ Sy.eqI (tokAt l 0).kind 1 = false then none
  else if l.length ≤ behind l ∨ Sy.eqI (tokAt l (behind l)).kind 10 = false then none
  else if (valueT l).1.length = 0 ∨ brokenT (valueT l).1 = true then none
  else some ⟨(tokAt l 0).text, (valueT l).1, (valueT l).2⟩
def declT (piece : List TokV) : Option DeclV := declL (trim piece)
def declsT (l : List TokV) : List DeclV := (pieces semiB l).filterMap declT
end Go.Proofs.Ytjljlcflmcjapaa
