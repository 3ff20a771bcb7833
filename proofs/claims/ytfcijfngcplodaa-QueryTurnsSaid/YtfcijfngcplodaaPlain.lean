/-
  Plain functions and laws, no program in sight: numbers (layer 1), trees as lists of parents (layer 4).
-/
namespace Go.Proofs.Ytfcijfngcplodaa
namespace Pl
set_option linter.unusedVariables false

/-- the nearest number that there is -/
def hold (x : Int) : Int := if 1073741824 < x then 1073741824 else if x < -1073741824 then -1073741824 else x

theorem hold_bd (x : Int) : -1073741824 ≤ hold x ∧ hold x ≤ 1073741824 := by
  unfold hold; split <;> (try split) <;> omega

theorem hold_id {x : Int} (h : -1073741824 ≤ x) (h' : x ≤ 1073741824) : hold x = x := by
  unfold hold; rw [if_neg (by omega), if_neg (by omega)]

theorem hold_hold (x : Int) : hold (hold x) = hold x := hold_id (hold_bd x).1 (hold_bd x).2

theorem hold_minmax (x : Int) : min (max x (-1073741824)) 1073741824 = hold x := by
  unfold hold; omega

theorem prod_bd {a b : Int} (ha : -1073741824 ≤ a ∧ a ≤ 1073741824) (hb : -1073741824 ≤ b ∧ b ≤ 1073741824) :
    -1152921504606846976 ≤ a * b ∧ a * b ≤ 1152921504606846976 := by
  have h1 : a.natAbs ≤ 1073741824 := by omega
  have h2 : b.natAbs ≤ 1073741824 := by omega
  have h3 : (a * b).natAbs ≤ 1073741824 * 1073741824 := by rw [Int.natAbs_mul]; exact Nat.mul_le_mul h1 h2
  omega

/-- a quotient, the greatest whole number that is not above -/
def fl (p d : Int) : Int := p.fdiv d

theorem fl_bd {p d : Int} (hd : d ≠ 0) (hp : -1152921504606846976 ≤ p ∧ p ≤ 1152921504606846976) :
    -1152921504606846976 ≤ fl p d ∧ fl p d ≤ 1152921504606846976 := by
  unfold fl
  have hm : (1 : Int) ≤ d ∨ d ≤ -1 := by omega
  rcases hm with h | h
  · rw [Int.fdiv_eq_ediv_of_nonneg _ (by omega)]
    have a1 := Int.ediv_mul_le p (show d ≠ 0 by omega)
    have a2 := Int.lt_ediv_add_one_mul_self p (show 0 < d by omega)
    constructor
    · by_cases hq : 0 ≤ p / d
      · omega
      · have : (p / d + 1) * d ≤ (p / d + 1) * 1 := Int.mul_le_mul_of_nonpos_left (by omega) (by omega)
        omega
    · by_cases hq : 0 < p / d
      · have : (p / d) * 1 ≤ (p / d) * d := Int.mul_le_mul_of_nonneg_left (by omega) (by omega)
        omega
      · omega
  · have e : p.fdiv d = (-p).fdiv (-d) := by rw [Int.neg_fdiv_neg]
    rw [e, Int.fdiv_eq_ediv_of_nonneg _ (by omega)]
    have a1 := Int.ediv_mul_le (-p) (show -d ≠ 0 by omega)
    have a2 := Int.lt_ediv_add_one_mul_self (-p) (show 0 < -d by omega)
    constructor
    · by_cases hq : 0 ≤ (-p) / (-d)
      · omega
      · have : ((-p) / (-d) + 1) * (-d) ≤ ((-p) / (-d) + 1) * 1 := Int.mul_le_mul_of_nonpos_left (by omega) (by omega)
        omega
    · by_cases hq : 0 < (-p) / (-d)
      · have : ((-p) / (-d)) * 1 ≤ ((-p) / (-d)) * (-d) := Int.mul_le_mul_of_nonneg_left (by omega) (by omega)
        omega
      · omega

theorem fl_dvd {p d : Int} (h : p.tmod d = 0) : p.tdiv d = fl p d := by
  unfold fl; rw [Int.fdiv_eq_tdiv, if_pos (Int.dvd_of_tmod_eq_zero h)]; omega

theorem fl_same {p d : Int} (hd : d ≠ 0) (h : ¬ p.tmod d = 0) (hs : (p < 0 ∧ d < 0) ∨ (0 ≤ p ∧ 0 ≤ d)) : p.tdiv d = fl p d := by
  unfold fl; rw [Int.fdiv_eq_tdiv, if_neg (fun e => h (Int.tmod_eq_zero_of_dvd e))]
  rcases hs with ⟨h1, h2⟩ | ⟨h1, h2⟩
  · rw [if_neg (by omega), if_neg (by omega), Int.sign_eq_neg_one_of_neg h2]; omega
  · rw [if_pos h1, if_pos h2]; omega

theorem fl_diff {p d : Int} (hd : d ≠ 0) (h : ¬ p.tmod d = 0) (hs : (p < 0 ∧ 0 ≤ d) ∨ (0 ≤ p ∧ d < 0)) : p.tdiv d - 1 = fl p d := by
  unfold fl; rw [Int.fdiv_eq_tdiv, if_neg (fun e => h (Int.tmod_eq_zero_of_dvd e))]
  rcases hs with ⟨h1, h2⟩ | ⟨h1, h2⟩
  · rw [if_neg (by omega), if_pos h2, Int.sign_eq_one_of_pos (by omega)]
  · rw [if_pos h1, if_neg (by omega)]

theorem fl_pos {p d : Int} (hd : 0 < d) : fl p d = p / d := by
  unfold fl; rw [Int.fdiv_eq_ediv_of_nonneg _ (by omega)]

theorem fl_neg (p d : Int) : fl (-p) (-d) = fl p d := by unfold fl; rw [Int.neg_fdiv_neg]

theorem fl_up {p d : Int} (hd : 0 < d) : -((d - 1 - p) / d) = fl p d := by
  rw [fl_pos hd]
  have h1 := Int.emod_nonneg p (show d ≠ 0 by omega)
  have h2 := Int.emod_lt_of_pos p hd
  have h3 := Int.mul_ediv_add_emod p d
  have e : d - 1 - p = (d - 1 - p % d) + d * (-(p / d)) := by
    rw [Int.mul_neg]; omega
  rw [e, Int.add_mul_ediv_left _ _ (by omega), Int.ediv_eq_zero_of_lt (by omega) (by omega)]
  omega

theorem tdiv_bd {p d : Int} (hd : d ≠ 0) (hp : -1152921504606846976 ≤ p ∧ p ≤ 1152921504606846976) :
    -1152921504606846976 ≤ p.tdiv d ∧ p.tdiv d ≤ 1152921504606846976 := by
  have h : (p.tdiv d).natAbs ≤ p.natAbs := by rw [Int.natAbs_tdiv]; exact Nat.div_le_self _ _
  omega

def partN (a n d : Int) : Int := if d = 0 then 0 else hold (fl (hold a * hold n) (hold d))

end Pl
end Go.Proofs.Ytfcijfngcplodaa
namespace Go.Proofs.Ytfcijfngcplodaa
namespace Pl

/-- what a length is worth: kind, number, unit, em, bases -/
def meas (k n d font w h : Int) : Int :=
  if k = 2 then
    if d = 1 then partN n 64 1000
    else if d = 2 then partN font n 1000
    else if d = 3 ∨ d = 5 then partN (hold w) n 100000
    else if d = 4 ∨ d = 6 then partN (hold h) n 100000
    else if d = 7 then partN (if hold h < hold w then hold h else hold w) n 100000
    else if d = 8 then partN (if hold h < hold w then hold w else hold h) n 100000
    else 0
  else 0

end Pl
end Go.Proofs.Ytfcijfngcplodaa
