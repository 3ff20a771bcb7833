/-
  Layer 7: weights, the reference's, and how they are held against each other.
-/
import Derived.Test.YtmlhipckgmbpfaaGreatSelW
import Derived.Test.YtmlhipckgmbpfaaGreatSyM
namespace Go.Proofs.YtmlhipckgmbpfaaGreat
open Go Go.RowKit Sy
set_option linter.unusedVariables false
set_option linter.unusedSimpArgs false
/-- how two numbers stand -/
def cmpI (a b : Int) : Int := if a < b then -1 else if b < a then 1 else 0
/-sy cmp1_t
fun (a b : Int) (d : D) => reckV [] [] 400 30 37 [int a, int b] M0 d
-/
theorem Sy.cmp1_t (a b : Int) : CallTo Tryz.prog 37 [int a, int b] M0 fun v _ => v = int (cmpI a b) :=
  toV [] [] 400 30 (.br (.br .done .done) (.br .done (.br .done (.br .done .done)))) (.fork (!(eqI a a)) (.fork (!(eqI b b)) (.leaf (int (0 : Int))) (.leaf (int (-1 : Int)))) (.fork (!(eqI b b)) (.leaf (int (1 : Int))) (.fork (!(leI b a)) (.leaf (int (-1 : Int))) (.fork (!(leI a b)) (.leaf (int (1 : Int))) (.leaf (int (0 : Int))))))) (by kernel_rfl) (by
    repeat' (first
      | refine fork_ok (fun _ => ?_) (fun _ => ?_)
      | refine need_so ⟨rfl, by (first | assumption | trivial | (try simp only [eqI_t, eqI_f, leI_t, leI_f, inR_t, inR_f, isSo_t, isSo_f, eqI_d, leI_d, decide_eq_true_eq, decide_eq_false_iff_not, Bool.not_eq_true', Bool.not_eq_false', Bool.false_eq_true, Bool.and_eq_true, Bool.or_eq_true, Bool.not_not, iff_false, false_iff, iff_true, true_iff] at *) <;> first | omega | grind)⟩ ?_
      | refine need_so (by (first | assumption | trivial | (try simp only [eqI_t, eqI_f, leI_t, leI_f, inR_t, inR_f, isSo_t, isSo_f, eqI_d, leI_d, decide_eq_true_eq, decide_eq_false_iff_not, Bool.not_eq_true', Bool.not_eq_false', Bool.false_eq_true, Bool.and_eq_true, Bool.or_eq_true, Bool.not_not, iff_false, false_iff, iff_true, true_iff] at *) <;> first | omega | grind)) ?_
      | refine need_t (by (first | assumption | trivial | (try simp only [eqI_t, eqI_f, leI_t, leI_f, inR_t, inR_f, isSo_t, isSo_f, eqI_d, leI_d, decide_eq_true_eq, decide_eq_false_iff_not, Bool.not_eq_true', Bool.not_eq_false', Bool.false_eq_true, Bool.and_eq_true, Bool.or_eq_true, Bool.not_not, iff_false, false_iff, iff_true, true_iff] at *) <;> first | omega | grind)) ?_)
    all_goals (first | refine leaf_boo ?_ | refine leaf_int ?_)
    all_goals (unfold cmpI; try simp only [eqI_t, eqI_f, leI_t, leI_f, inR_t, inR_f, isSo_t, isSo_f, eqI_d, leI_d, decide_eq_true_eq, decide_eq_false_iff_not, Bool.not_eq_true', Bool.not_eq_false', Bool.false_eq_true, Bool.and_eq_true, Bool.or_eq_true, Bool.not_not, iff_false, false_iff, iff_true, true_iff] at *)
    all_goals (first | omega | grind))
noncomputable abbrev Sy.cCmp : Con Tryz.prog := int2 37 (fun a b => int (cmpI a b)) (fun _ _ => trivial) cmp1_t
/-- the first that is not nought -/
def orI (a b c : Int) : Int := if a = 0 then (if b = 0 then c else b) else a
abbrev Sy.v3 (a b c : Int) : AV := .view 3 1 (fun i _ => int ([a, b, c].getD i 0))
/-sy or_t
fun (a b c : Int) (d : D) => reckV [] [] 400 30 36 [v3 a b c] M0 d
-/
theorem Sy.or_t (a b c : Int) : CallTo Tryz.prog 36 [v3 a b c] M0 fun v _ => v = int (orI a b c) :=
  toV [] [] 400 30 (.auto 1 (.br .done (.auto 1 (.br .done (.auto 1 (.br .done (.auto 0 .done))))))) (.fork (!(eqI a (0 : Int))) (.leaf (int a)) (.fork (!(eqI b (0 : Int))) (.leaf (int b)) (.fork (!(eqI c (0 : Int))) (.leaf (int c)) (.leaf (int (0 : Int)))))) (by kernel_rfl) (by
    repeat' (first
      | refine fork_ok (fun _ => ?_) (fun _ => ?_)
      | refine need_so ⟨rfl, by (first | assumption | trivial | (try simp only [eqI_t, eqI_f, leI_t, leI_f, inR_t, inR_f, isSo_t, isSo_f, eqI_d, leI_d, decide_eq_true_eq, decide_eq_false_iff_not, Bool.not_eq_true', Bool.not_eq_false', Bool.false_eq_true, Bool.and_eq_true, Bool.or_eq_true, Bool.not_not, iff_false, false_iff, iff_true, true_iff] at *) <;> first | omega | grind)⟩ ?_
      | refine need_so (by (first | assumption | trivial | (try simp only [eqI_t, eqI_f, leI_t, leI_f, inR_t, inR_f, isSo_t, isSo_f, eqI_d, leI_d, decide_eq_true_eq, decide_eq_false_iff_not, Bool.not_eq_true', Bool.not_eq_false', Bool.false_eq_true, Bool.and_eq_true, Bool.or_eq_true, Bool.not_not, iff_false, false_iff, iff_true, true_iff] at *) <;> first | omega | grind)) ?_
      | refine need_t (by (first | assumption | trivial | (try simp only [eqI_t, eqI_f, leI_t, leI_f, inR_t, inR_f, isSo_t, isSo_f, eqI_d, leI_d, decide_eq_true_eq, decide_eq_false_iff_not, Bool.not_eq_true', Bool.not_eq_false', Bool.false_eq_true, Bool.and_eq_true, Bool.or_eq_true, Bool.not_not, iff_false, false_iff, iff_true, true_iff] at *) <;> first | omega | grind)) ?_)
    all_goals (first | refine leaf_boo ?_ | refine leaf_int ?_)
    all_goals (unfold orI; try simp only [eqI_t, eqI_f, leI_t, leI_f, inR_t, inR_f, isSo_t, isSo_f, eqI_d, leI_d, decide_eq_true_eq, decide_eq_false_iff_not, Bool.not_eq_true', Bool.not_eq_false', Bool.false_eq_true, Bool.and_eq_true, Bool.or_eq_true, Bool.not_not, iff_false, false_iff, iff_true, true_iff] at *)
    all_goals (first | omega | grind))
noncomputable abbrev Sy.cOr : Con Tryz.prog := atM 36 (fun args M => match args with | [.sl b _ _ _ _] => (match M.get b with | some B => (match intsA B.cells with | some [x, y, z] => some (x, y, z) | _ => none) | none => none) | _ => none) (fun x => [v3 x.1 x.2.1 x.2.2]) (fun x => int (orI x.1 x.2.1 x.2.2)) (fun _ => True) fun x _ => ⟨⟨_, rfl⟩, or_t x.1 x.2.1 x.2.2⟩
/-- how two weights stand -/
def cmp3 (a b c x y z : Int) : Int := orI (cmpI a x) (cmpI b y) (cmpI c z)
/-sy cmp_t
fun (a b c x y z : Int) (d : D) => reckV [cCmp, cOr] [] 400 30 25 [.agg [int a, int b, int c], .agg [int x, int y, int z]] M0 d
-/
theorem Sy.cmp_t (a b c x y z : Int) : CallTo Tryz.prog 25 [.agg [int a, int b, int c], .agg [int x, int y, int z]] M0 fun v _ => v = int (cmp3 a b c x y z) :=
  toV [cCmp, cOr] [] 400 30 (.br .done (.yes .done)) (.fork ((eqI a x) && ((eqI b y) && ((eqI c z) && true))) (.leaf (int (0 : Int))) (.need (@isSo (@And (@Conv (@Mem.mk (((0 + 1) + 1) + 1) 0 [(some (@Blk.mk ((int (@cmpI a x)) :: ((int (@cmpI b y)) :: ((int (@cmpI c z)) :: (@List.drop _ (2 + ([(int (@cmpI c z))]).length) ((int (@cmpI a x)) :: ((int (@cmpI b y)) :: (@List.drop _ (1 + ([(int (@cmpI b y))]).length) [(int (@cmpI a x)), (@AV.lit (@List.get _ (@Array.toList _ (@Array.mk _ [(@Value.int IntKind.i64 (0 : Int))])) (@Fin.mk _ 0 (@Nat.le_of_ble_eq_true _ _ (@Eq.refl _ true))))), (@AV.lit (@List.get _ (@Array.toList _ (@Array.mk _ [(@Value.int IntKind.i64 (0 : Int))])) (@Fin.mk _ 0 (@Nat.le_of_ble_eq_true _ _ (@Eq.refl _ true)))))]))))))) 3 none)), (some (@Blk.mk [(int x), (int y), (int z)] 27 none)), (some (@Blk.mk [(int a), (int b), (int c)] 27 none))]) [(@AV.sl ((0 + 1) + 1) 0 3 (some 3) 1)] [(@AV.view 3 1 (fun x713191 => (fun x145235 => (int ([(@cmpI a x), (@cmpI b y), (@cmpI c z)].getD x713191 (0 : Int))))))]) True)) (.leaf (int (@orI (@cmpI a x) (@cmpI b y) (@cmpI c z)))))) (by kernel_rfl) (by
    refine fork_ok (fun h => ?_) (fun h => need_so ⟨?_, trivial⟩ rfl)
    · refine leaf_int ?_
      simp only [Bool.and_eq_true, eqI_t] at h
      obtain ⟨rfl, rfl, rfl, _⟩ := h
      unfold cmp3 orI cmpI
      simp
    · refine Conv.cons (Conv1.sl rfl fun i j hi hj => ?_) (Conv.nil _)
      have hj0 : j = 0 := by omega
      subst hj0
      have : i = 0 ∨ i = 1 ∨ i = 2 := by omega
      rcases this with rfl | rfl | rfl
      · exact ⟨_, rfl, trivial, rfl, rfl⟩
      · exact ⟨_, rfl, trivial, rfl, rfl⟩
      · exact ⟨_, rfl, trivial, rfl, rfl⟩)
noncomputable abbrev Sy.cCompare : Con Tryz.prog := atX 25 (fun args => match args with | [.agg [.lit (.int .i64 a), .lit (.int .i64 b), .lit (.int .i64 c)], .agg [.lit (.int .i64 x), .lit (.int .i64 y), .lit (.int .i64 z)]] => some (a, b, c, x, y, z) | _ => none) (fun u => [.agg [int u.1, int u.2.1, int u.2.2.1], .agg [int u.2.2.2.1, int u.2.2.2.2.1, int u.2.2.2.2.2]]) (fun u => int (cmp3 u.1 u.2.1 u.2.2.1 u.2.2.2.1 u.2.2.2.2.1 u.2.2.2.2.2)) (fun _ => True) fun u _ => ⟨⟨⟨⟨trivial, trivial, trivial, trivial⟩, ⟨trivial, trivial, trivial, trivial⟩, trivial⟩, trivial⟩, cmp_t _ _ _ _ _ _⟩
/-sy cmpr_t
fun (a b c x y z : Int) (d : D) => reckV [] [] 400 30 19 [.agg [int a, int b, int c], .agg [int x, int y, int z]] M0 d
-/
theorem cmp3_r (a b c x y z : Int) : cmp3 a b c x y z = if a < x then -1 else if x < a then 1 else if b < y then -1 else if y < b then 1 else if c < z then -1 else if z < c then 1 else 0 := by
  unfold cmp3 orI cmpI
  repeat' split
  all_goals omega
theorem cmp3_neg (a b c x y z : Int) : cmp3 x y z a b c = - cmp3 a b c x y z := by
  unfold cmp3 orI cmpI
  repeat' split
  all_goals omega
theorem cmp3_in (a b c x y z : Int) : -1 ≤ cmp3 a b c x y z ∧ cmp3 a b c x y z ≤ 1 := by
  unfold cmp3 orI cmpI
  repeat' split
  all_goals omega
theorem Sy.cmpr_t (a b c x y z : Int) : CallTo Tryz.prog 19 [.agg [int a, int b, int c], .agg [int x, int y, int z]] M0 fun v _ => v = int (cmp3 a b c x y z) :=
  toV [] [] 400 30 (.auto 0 (.br .done (.br .done (.auto 0 (.br .done (.br .done (.auto 0 (.br .done (.br .done (.auto 0 .done)))))))))) (.fork (!(leI x a)) (.leaf (int (-1 : Int))) (.fork (!(leI a x)) (.leaf (int (1 : Int))) (.fork (!(leI y b)) (.leaf (int (-1 : Int))) (.fork (!(leI b y)) (.leaf (int (1 : Int))) (.fork (!(leI z c)) (.leaf (int (-1 : Int))) (.fork (!(leI c z)) (.leaf (int (1 : Int))) (.leaf (int (0 : Int))))))))) (by kernel_rfl) (by
    rw [cmp3_r]
    repeat' refine fork_ok (fun _ => ?_) (fun _ => ?_)
    all_goals refine leaf_int ?_
    all_goals simp only [Bool.not_eq_true', Bool.not_eq_false', leI_t, leI_f] at *
    all_goals grind)
noncomputable abbrev Sy.cCompareR : Con Tryz.prog := atX 19 (fun args => match args with | [.agg [.lit (.int .i64 a), .lit (.int .i64 b), .lit (.int .i64 c)], .agg [.lit (.int .i64 x), .lit (.int .i64 y), .lit (.int .i64 z)]] => some (a, b, c, x, y, z) | _ => none) (fun u => [.agg [int u.1, int u.2.1, int u.2.2.1], .agg [int u.2.2.2.1, int u.2.2.2.2.1, int u.2.2.2.2.2]]) (fun u => int (cmp3 u.1 u.2.1 u.2.2.1 u.2.2.2.1 u.2.2.2.2.1 u.2.2.2.2.2)) (fun _ => True) fun u _ => ⟨⟨⟨⟨trivial, trivial, trivial, trivial⟩, ⟨trivial, trivial, trivial, trivial⟩, trivial⟩, trivial⟩, cmpr_t _ _ _ _ _ _⟩
/-sy pw_t
fun (p : PartV) (d : D) => reckV [] [] 400 30 28 [.agg [partA p 0, partA p 1, partA p 2, partA p 3, partA p 4, partA p 5]] M0 d
-/
theorem nat_and_pow (k i : Nat) : k &&& 2 ^ i = if k / 2 ^ i % 2 = 1 then 2 ^ i else 0 := by
  apply Nat.eq_of_testBit_eq
  intro j
  rw [Nat.testBit_and, Nat.testBit_two_pow]
  have h1 := Nat.testBit_eq_decide_div_mod_eq (x := k) (i := i)
  by_cases hb : k / 2 ^ i % 2 = 1
  · rw [if_pos hb, Nat.testBit_two_pow]
    by_cases hij : i = j
    · subst hij; rw [h1]; simp [hb]
    · simp [hij]
  · rw [if_neg hb]
    by_cases hij : i = j
    · subst hij; rw [h1]; simp [hb]
    · simp [hij]
def landI (m b : Int) : Nat := (BitVec.ofInt 64 m &&& BitVec.ofInt 64 b).toNat
theorem bitI_land (n b : Int) : bitI n b = !leI (IntKind.i64.wrap (landI (if n < 0 then 0 else n) b)) 0 := rfl
theorem and_bit (k i : Nat) (hk : k < 9223372036854775808) (hi : i < 64) : landI (k : Int) ((2 ^ i : Nat) : Int) = if k / 2 ^ i % 2 = 1 then 2 ^ i else 0 := by
  unfold landI
  rw [BitVec.ofInt_natCast, BitVec.ofInt_natCast, BitVec.toNat_and, BitVec.toNat_ofNat, BitVec.toNat_ofNat, Nat.mod_eq_of_lt (show k < 2 ^ 64 by omega), Nat.mod_eq_of_lt (Nat.pow_lt_pow_right (by omega) hi), nat_and_pow]
theorem wrap_in {r : Int} (h : -9223372036854775808 ≤ r ∧ r ≤ 9223372036854775807) : IntKind.i64.wrap r = r := by
  rw [← w64_eq]; exact w64_in h
theorem has_bit (n : Int) (hn : n ≤ 9223372036854775807) (i : Nat) (hi : i < 3) : bitI n ((2 ^ i : Nat) : Int) = (leI 0 n && eqI (Int.tmod (IntKind.i64.wrap (Int.tdiv n ((2 ^ i : Nat) : Int))) 2) 1) := by
  rw [bitI_land]
  have hp : 2 ^ i = 1 ∨ 2 ^ i = 2 ∨ 2 ^ i = 4 := by
    have : i = 0 ∨ i = 1 ∨ i = 2 := by omega
    rcases this with rfl | rfl | rfl <;> simp
  by_cases h0 : n < 0
  · rw [if_pos h0]
    have e : leI 0 n = false := by rw [leI_f]; omega
    rw [e, Bool.false_and]
    have := and_bit 0 i (by omega) (by omega)
    rw [show ((0 : Nat) : Int) = 0 from rfl] at this
    rw [this, Nat.zero_div]
    rw [if_neg (by decide), wrap_in (by omega), Bool.not_eq_false', leI_t]; omega
  · rw [if_neg h0]
    obtain ⟨k, rfl⟩ := Int.eq_ofNat_of_zero_le (by omega : 0 ≤ n)
    have e : leI 0 ((k : Nat) : Int) = true := by rw [leI_t]; omega
    rw [e, Bool.true_and]
    have := and_bit k i (by omega) (by omega)
    rw [this]
    have e2 : Int.tdiv (k : Int) ((2 ^ i : Nat) : Int) = ((k / 2 ^ i : Nat) : Int) := by
      rw [← Int.ofNat_tdiv]
    have hle : k / 2 ^ i ≤ k := Nat.div_le_self _ _
    rw [e2]
    generalize k / 2 ^ i = q at hle ⊢
    rw [wrap_in (r := ((q : Nat) : Int)) (by omega)]
    have e3 : Int.tmod ((q : Nat) : Int) 2 = ((q % 2 : Nat) : Int) := rfl
    rw [e3]
    by_cases hb : q % 2 = 1
    · rw [if_pos hb, hb, wrap_in (by omega)]
      rw [Bool.eq_iff_iff, Bool.not_eq_true', leI_f, eqI_t]
      omega
    · rw [if_neg hb, wrap_in (by omega)]
      rw [Bool.eq_iff_iff, Bool.not_eq_true', leI_f, eqI_t]
      omega
theorem has_1 (n : Int) (hn : n ≤ 9223372036854775807) : bitI n 1 = (leI 0 n && eqI (Int.tmod (IntKind.i64.wrap (Int.tdiv n 1)) 2) 1) := has_bit n hn 0 (by omega)
theorem has_2 (n : Int) (hn : n ≤ 9223372036854775807) : bitI n 2 = (leI 0 n && eqI (Int.tmod (IntKind.i64.wrap (Int.tdiv n 2)) 2) 1) := has_bit n hn 1 (by omega)
theorem has_4 (n : Int) (hn : n ≤ 9223372036854775807) : bitI n 4 = (leI 0 n && eqI (Int.tmod (IntKind.i64.wrap (Int.tdiv n 4)) 2) 1) := has_bit n hn 2 (by omega)
/-- what a part weighs -/
noncomputable def pwI (p : PartV) : Int := w64 (w64 ((p.cls.length : Int) + (p.tests.length : Int)) + onesI p.states)
theorem agg3 {a b c x y z : Int} (h1 : a = x) (h2 : b = y) (h3 : c = z) : (AV.agg [int a, int b, int c]) = .agg [int x, int y, int z] := by rw [h1, h2, h3]
theorem Sy.pw_t (p : PartV) (hn : p.states ≤ 9223372036854775807) : CallTo Tryz.prog 28 [.agg [partA p 0, partA p 1, partA p 2, partA p 3, partA p 4, partA p 5]] M0 fun v _ => v = .agg [int (toldI p.id), int (pwI p), int (toldI p.tag)] :=
  toV [] [] 400 30 (.br (.br (.auto 0 (.br (.auto 4 (.br (.auto 0 (.yes (.auto 4 (.br (.auto 0 (.yes (.auto 4 (.br (.auto 0 .done) (.auto 0 .done))))) (.auto 0 (.yes (.auto 4 (.br (.auto 0 .done) (.auto 0 .done))))))))) (.auto 0 (.yes (.auto 4 (.br (.auto 0 (.yes (.auto 4 (.br (.auto 0 .done) (.auto 0 .done))))) (.auto 0 (.yes (.auto 4 (.br (.auto 0 .done) (.auto 0 .done))))))))))) (.auto 6 (.no (.auto 6 (.no (.auto 6 .done))))))) (.auto 0 (.br (.auto 4 (.br (.auto 0 (.yes (.auto 4 (.br (.auto 0 (.yes (.auto 4 (.br (.auto 0 .done) (.auto 0 .done))))) (.auto 0 (.yes (.auto 4 (.br (.auto 0 .done) (.auto 0 .done))))))))) (.auto 0 (.yes (.auto 4 (.br (.auto 0 (.yes (.auto 4 (.br (.auto 0 .done) (.auto 0 .done))))) (.auto 0 (.yes (.auto 4 (.br (.auto 0 .done) (.auto 0 .done))))))))))) (.auto 6 (.no (.auto 6 (.no (.auto 6 .done)))))))) (.br (.auto 0 (.br (.auto 4 (.br (.auto 0 (.yes (.auto 4 (.br (.auto 0 (.yes (.auto 4 (.br (.auto 0 .done) (.auto 0 .done))))) (.auto 0 (.yes (.auto 4 (.br (.auto 0 .done) (.auto 0 .done))))))))) (.auto 0 (.yes (.auto 4 (.br (.auto 0 (.yes (.auto 4 (.br (.auto 0 .done) (.auto 0 .done))))) (.auto 0 (.yes (.auto 4 (.br (.auto 0 .done) (.auto 0 .done))))))))))) (.auto 6 (.no (.auto 6 (.no (.auto 6 .done))))))) (.auto 0 (.br (.auto 4 (.br (.auto 0 (.yes (.auto 4 (.br (.auto 0 (.yes (.auto 4 (.br (.auto 0 .done) (.auto 0 .done))))) (.auto 0 (.yes (.auto 4 (.br (.auto 0 .done) (.auto 0 .done))))))))) (.auto 0 (.yes (.auto 4 (.br (.auto 0 (.yes (.auto 4 (.br (.auto 0 .done) (.auto 0 .done))))) (.auto 0 (.yes (.auto 4 (.br (.auto 0 .done) (.auto 0 .done))))))))))) (.auto 6 (.no (.auto 6 (.no (.auto 6 .done))))))))) (.fork (!(@bytesEq (@Array.toList _ (@ByteArray.data (p).id)) (@Array.toList _ (@ByteArray.data (@ByteArray.mk (@Array.mk _ [])))))) (.fork (!(@bytesEq (@Array.toList _ (@ByteArray.data (p).tag)) (@Array.toList _ (@ByteArray.data (@ByteArray.mk (@Array.mk _ [])))))) (.fork (leI (0 : Int) (p).states) (.fork (eqI (@Int.tmod (IntKind.i64.wrap (@Int.tdiv (p).states (1 : Int))) (2 : Int)) (1 : Int)) (.need (leI (0 : Int) (p).states) (.fork (eqI (@Int.tmod (IntKind.i64.wrap (@Int.tdiv (p).states (2 : Int))) (2 : Int)) (1 : Int)) (.need (leI (0 : Int) (p).states) (.fork (eqI (@Int.tmod (IntKind.i64.wrap (@Int.tdiv (p).states (4 : Int))) (2 : Int)) (1 : Int)) (.leaf (@AV.agg ((int (1 : Int)) :: (@List.take _ 2 ((int (w64 ((w64 ((w64 ((w64 (((((p).cls).length : Nat) : Int) + ((((p).tests).length : Nat) : Int))) + (1 : Int))) + (1 : Int))) + (1 : Int)))) :: [(int (1 : Int))]))))) (.leaf (@AV.agg ((int (1 : Int)) :: (@List.take _ 2 ((int (w64 ((w64 ((w64 (((((p).cls).length : Nat) : Int) + ((((p).tests).length : Nat) : Int))) + (1 : Int))) + (1 : Int)))) :: [(int (1 : Int))]))))))) (.need (leI (0 : Int) (p).states) (.fork (eqI (@Int.tmod (IntKind.i64.wrap (@Int.tdiv (p).states (4 : Int))) (2 : Int)) (1 : Int)) (.leaf (@AV.agg ((int (1 : Int)) :: (@List.take _ 2 ((int (w64 ((w64 ((w64 (((((p).cls).length : Nat) : Int) + ((((p).tests).length : Nat) : Int))) + (1 : Int))) + (1 : Int)))) :: [(int (1 : Int))]))))) (.leaf (@AV.agg ((int (1 : Int)) :: (@List.take _ 2 ((int (w64 ((w64 (((((p).cls).length : Nat) : Int) + ((((p).tests).length : Nat) : Int))) + (1 : Int)))) :: [(int (1 : Int))]))))))))) (.need (leI (0 : Int) (p).states) (.fork (eqI (@Int.tmod (IntKind.i64.wrap (@Int.tdiv (p).states (2 : Int))) (2 : Int)) (1 : Int)) (.need (leI (0 : Int) (p).states) (.fork (eqI (@Int.tmod (IntKind.i64.wrap (@Int.tdiv (p).states (4 : Int))) (2 : Int)) (1 : Int)) (.leaf (@AV.agg ((int (1 : Int)) :: (@List.take _ 2 ((int (w64 ((w64 ((w64 (((((p).cls).length : Nat) : Int) + ((((p).tests).length : Nat) : Int))) + (1 : Int))) + (1 : Int)))) :: [(int (1 : Int))]))))) (.leaf (@AV.agg ((int (1 : Int)) :: (@List.take _ 2 ((int (w64 ((w64 (((((p).cls).length : Nat) : Int) + ((((p).tests).length : Nat) : Int))) + (1 : Int)))) :: [(int (1 : Int))]))))))) (.need (leI (0 : Int) (p).states) (.fork (eqI (@Int.tmod (IntKind.i64.wrap (@Int.tdiv (p).states (4 : Int))) (2 : Int)) (1 : Int)) (.leaf (@AV.agg ((int (1 : Int)) :: (@List.take _ 2 ((int (w64 ((w64 (((((p).cls).length : Nat) : Int) + ((((p).tests).length : Nat) : Int))) + (1 : Int)))) :: [(int (1 : Int))]))))) (.leaf (@AV.agg ((int (1 : Int)) :: (@List.take _ 2 [(int (w64 (((((p).cls).length : Nat) : Int) + ((((p).tests).length : Nat) : Int)))), (int (1 : Int))]))))))))) (.need (!(leI (0 : Int) (p).states)) (.need (!(leI (0 : Int) (p).states)) (.leaf (@AV.agg ((int (1 : Int)) :: (@List.take _ 2 [(int (w64 (((((p).cls).length : Nat) : Int) + ((((p).tests).length : Nat) : Int)))), (int (1 : Int))]))))))) (.fork (leI (0 : Int) (p).states) (.fork (eqI (@Int.tmod (IntKind.i64.wrap (@Int.tdiv (p).states (1 : Int))) (2 : Int)) (1 : Int)) (.need (leI (0 : Int) (p).states) (.fork (eqI (@Int.tmod (IntKind.i64.wrap (@Int.tdiv (p).states (2 : Int))) (2 : Int)) (1 : Int)) (.need (leI (0 : Int) (p).states) (.fork (eqI (@Int.tmod (IntKind.i64.wrap (@Int.tdiv (p).states (4 : Int))) (2 : Int)) (1 : Int)) (.leaf (@AV.agg ((int (1 : Int)) :: (@List.take _ 2 ((int (w64 ((w64 ((w64 ((w64 (((((p).cls).length : Nat) : Int) + ((((p).tests).length : Nat) : Int))) + (1 : Int))) + (1 : Int))) + (1 : Int)))) :: [(int (0 : Int))]))))) (.leaf (@AV.agg ((int (1 : Int)) :: (@List.take _ 2 ((int (w64 ((w64 ((w64 (((((p).cls).length : Nat) : Int) + ((((p).tests).length : Nat) : Int))) + (1 : Int))) + (1 : Int)))) :: [(int (0 : Int))]))))))) (.need (leI (0 : Int) (p).states) (.fork (eqI (@Int.tmod (IntKind.i64.wrap (@Int.tdiv (p).states (4 : Int))) (2 : Int)) (1 : Int)) (.leaf (@AV.agg ((int (1 : Int)) :: (@List.take _ 2 ((int (w64 ((w64 ((w64 (((((p).cls).length : Nat) : Int) + ((((p).tests).length : Nat) : Int))) + (1 : Int))) + (1 : Int)))) :: [(int (0 : Int))]))))) (.leaf (@AV.agg ((int (1 : Int)) :: (@List.take _ 2 ((int (w64 ((w64 (((((p).cls).length : Nat) : Int) + ((((p).tests).length : Nat) : Int))) + (1 : Int)))) :: [(int (0 : Int))]))))))))) (.need (leI (0 : Int) (p).states) (.fork (eqI (@Int.tmod (IntKind.i64.wrap (@Int.tdiv (p).states (2 : Int))) (2 : Int)) (1 : Int)) (.need (leI (0 : Int) (p).states) (.fork (eqI (@Int.tmod (IntKind.i64.wrap (@Int.tdiv (p).states (4 : Int))) (2 : Int)) (1 : Int)) (.leaf (@AV.agg ((int (1 : Int)) :: (@List.take _ 2 ((int (w64 ((w64 ((w64 (((((p).cls).length : Nat) : Int) + ((((p).tests).length : Nat) : Int))) + (1 : Int))) + (1 : Int)))) :: [(int (0 : Int))]))))) (.leaf (@AV.agg ((int (1 : Int)) :: (@List.take _ 2 ((int (w64 ((w64 (((((p).cls).length : Nat) : Int) + ((((p).tests).length : Nat) : Int))) + (1 : Int)))) :: [(int (0 : Int))]))))))) (.need (leI (0 : Int) (p).states) (.fork (eqI (@Int.tmod (IntKind.i64.wrap (@Int.tdiv (p).states (4 : Int))) (2 : Int)) (1 : Int)) (.leaf (@AV.agg ((int (1 : Int)) :: (@List.take _ 2 ((int (w64 ((w64 (((((p).cls).length : Nat) : Int) + ((((p).tests).length : Nat) : Int))) + (1 : Int)))) :: [(int (0 : Int))]))))) (.leaf (@AV.agg ((int (1 : Int)) :: (@List.take _ 2 [(int (w64 (((((p).cls).length : Nat) : Int) + ((((p).tests).length : Nat) : Int)))), (int (0 : Int))]))))))))) (.need (!(leI (0 : Int) (p).states)) (.need (!(leI (0 : Int) (p).states)) (.leaf (@AV.agg ((int (1 : Int)) :: (@List.take _ 2 [(int (w64 (((((p).cls).length : Nat) : Int) + ((((p).tests).length : Nat) : Int)))), (int (0 : Int))])))))))) (.fork (!(@bytesEq (@Array.toList _ (@ByteArray.data (p).tag)) (@Array.toList _ (@ByteArray.data (@ByteArray.mk (@Array.mk _ [])))))) (.fork (leI (0 : Int) (p).states) (.fork (eqI (@Int.tmod (IntKind.i64.wrap (@Int.tdiv (p).states (1 : Int))) (2 : Int)) (1 : Int)) (.need (leI (0 : Int) (p).states) (.fork (eqI (@Int.tmod (IntKind.i64.wrap (@Int.tdiv (p).states (2 : Int))) (2 : Int)) (1 : Int)) (.need (leI (0 : Int) (p).states) (.fork (eqI (@Int.tmod (IntKind.i64.wrap (@Int.tdiv (p).states (4 : Int))) (2 : Int)) (1 : Int)) (.leaf (@AV.agg ((int (0 : Int)) :: (@List.take _ 2 ((int (w64 ((w64 ((w64 ((w64 (((((p).cls).length : Nat) : Int) + ((((p).tests).length : Nat) : Int))) + (1 : Int))) + (1 : Int))) + (1 : Int)))) :: [(int (1 : Int))]))))) (.leaf (@AV.agg ((int (0 : Int)) :: (@List.take _ 2 ((int (w64 ((w64 ((w64 (((((p).cls).length : Nat) : Int) + ((((p).tests).length : Nat) : Int))) + (1 : Int))) + (1 : Int)))) :: [(int (1 : Int))]))))))) (.need (leI (0 : Int) (p).states) (.fork (eqI (@Int.tmod (IntKind.i64.wrap (@Int.tdiv (p).states (4 : Int))) (2 : Int)) (1 : Int)) (.leaf (@AV.agg ((int (0 : Int)) :: (@List.take _ 2 ((int (w64 ((w64 ((w64 (((((p).cls).length : Nat) : Int) + ((((p).tests).length : Nat) : Int))) + (1 : Int))) + (1 : Int)))) :: [(int (1 : Int))]))))) (.leaf (@AV.agg ((int (0 : Int)) :: (@List.take _ 2 ((int (w64 ((w64 (((((p).cls).length : Nat) : Int) + ((((p).tests).length : Nat) : Int))) + (1 : Int)))) :: [(int (1 : Int))]))))))))) (.need (leI (0 : Int) (p).states) (.fork (eqI (@Int.tmod (IntKind.i64.wrap (@Int.tdiv (p).states (2 : Int))) (2 : Int)) (1 : Int)) (.need (leI (0 : Int) (p).states) (.fork (eqI (@Int.tmod (IntKind.i64.wrap (@Int.tdiv (p).states (4 : Int))) (2 : Int)) (1 : Int)) (.leaf (@AV.agg ((int (0 : Int)) :: (@List.take _ 2 ((int (w64 ((w64 ((w64 (((((p).cls).length : Nat) : Int) + ((((p).tests).length : Nat) : Int))) + (1 : Int))) + (1 : Int)))) :: [(int (1 : Int))]))))) (.leaf (@AV.agg ((int (0 : Int)) :: (@List.take _ 2 ((int (w64 ((w64 (((((p).cls).length : Nat) : Int) + ((((p).tests).length : Nat) : Int))) + (1 : Int)))) :: [(int (1 : Int))]))))))) (.need (leI (0 : Int) (p).states) (.fork (eqI (@Int.tmod (IntKind.i64.wrap (@Int.tdiv (p).states (4 : Int))) (2 : Int)) (1 : Int)) (.leaf (@AV.agg ((int (0 : Int)) :: (@List.take _ 2 ((int (w64 ((w64 (((((p).cls).length : Nat) : Int) + ((((p).tests).length : Nat) : Int))) + (1 : Int)))) :: [(int (1 : Int))]))))) (.leaf (@AV.agg ((int (0 : Int)) :: (@List.take _ 2 [(int (w64 (((((p).cls).length : Nat) : Int) + ((((p).tests).length : Nat) : Int)))), (int (1 : Int))]))))))))) (.need (!(leI (0 : Int) (p).states)) (.need (!(leI (0 : Int) (p).states)) (.leaf (@AV.agg ((int (0 : Int)) :: (@List.take _ 2 [(int (w64 (((((p).cls).length : Nat) : Int) + ((((p).tests).length : Nat) : Int)))), (int (1 : Int))]))))))) (.fork (leI (0 : Int) (p).states) (.fork (eqI (@Int.tmod (IntKind.i64.wrap (@Int.tdiv (p).states (1 : Int))) (2 : Int)) (1 : Int)) (.need (leI (0 : Int) (p).states) (.fork (eqI (@Int.tmod (IntKind.i64.wrap (@Int.tdiv (p).states (2 : Int))) (2 : Int)) (1 : Int)) (.need (leI (0 : Int) (p).states) (.fork (eqI (@Int.tmod (IntKind.i64.wrap (@Int.tdiv (p).states (4 : Int))) (2 : Int)) (1 : Int)) (.leaf (@AV.agg ((int (0 : Int)) :: (@List.take _ 2 ((int (w64 ((w64 ((w64 ((w64 (((((p).cls).length : Nat) : Int) + ((((p).tests).length : Nat) : Int))) + (1 : Int))) + (1 : Int))) + (1 : Int)))) :: [(int (0 : Int))]))))) (.leaf (@AV.agg ((int (0 : Int)) :: (@List.take _ 2 ((int (w64 ((w64 ((w64 (((((p).cls).length : Nat) : Int) + ((((p).tests).length : Nat) : Int))) + (1 : Int))) + (1 : Int)))) :: [(int (0 : Int))]))))))) (.need (leI (0 : Int) (p).states) (.fork (eqI (@Int.tmod (IntKind.i64.wrap (@Int.tdiv (p).states (4 : Int))) (2 : Int)) (1 : Int)) (.leaf (@AV.agg ((int (0 : Int)) :: (@List.take _ 2 ((int (w64 ((w64 ((w64 (((((p).cls).length : Nat) : Int) + ((((p).tests).length : Nat) : Int))) + (1 : Int))) + (1 : Int)))) :: [(int (0 : Int))]))))) (.leaf (@AV.agg ((int (0 : Int)) :: (@List.take _ 2 ((int (w64 ((w64 (((((p).cls).length : Nat) : Int) + ((((p).tests).length : Nat) : Int))) + (1 : Int)))) :: [(int (0 : Int))]))))))))) (.need (leI (0 : Int) (p).states) (.fork (eqI (@Int.tmod (IntKind.i64.wrap (@Int.tdiv (p).states (2 : Int))) (2 : Int)) (1 : Int)) (.need (leI (0 : Int) (p).states) (.fork (eqI (@Int.tmod (IntKind.i64.wrap (@Int.tdiv (p).states (4 : Int))) (2 : Int)) (1 : Int)) (.leaf (@AV.agg ((int (0 : Int)) :: (@List.take _ 2 ((int (w64 ((w64 ((w64 (((((p).cls).length : Nat) : Int) + ((((p).tests).length : Nat) : Int))) + (1 : Int))) + (1 : Int)))) :: [(int (0 : Int))]))))) (.leaf (@AV.agg ((int (0 : Int)) :: (@List.take _ 2 ((int (w64 ((w64 (((((p).cls).length : Nat) : Int) + ((((p).tests).length : Nat) : Int))) + (1 : Int)))) :: [(int (0 : Int))]))))))) (.need (leI (0 : Int) (p).states) (.fork (eqI (@Int.tmod (IntKind.i64.wrap (@Int.tdiv (p).states (4 : Int))) (2 : Int)) (1 : Int)) (.leaf (@AV.agg ((int (0 : Int)) :: (@List.take _ 2 ((int (w64 ((w64 (((((p).cls).length : Nat) : Int) + ((((p).tests).length : Nat) : Int))) + (1 : Int)))) :: [(int (0 : Int))]))))) (.leaf (@AV.agg ((int (0 : Int)) :: (@List.take _ 2 [(int (w64 (((((p).cls).length : Nat) : Int) + ((((p).tests).length : Nat) : Int)))), (int (0 : Int))]))))))))) (.need (!(leI (0 : Int) (p).states)) (.need (!(leI (0 : Int) (p).states)) (.leaf (@AV.agg ((int (0 : Int)) :: (@List.take _ 2 [(int (w64 (((((p).cls).length : Nat) : Int) + ((((p).tests).length : Nat) : Int)))), (int (0 : Int))]))))))))) (by kernel_rfl) (by
    have e : ([] : List UInt8) = (ByteArray.mk #[]).data.toList := rfl
    unfold toldI pwI onesI
    rw [e, has_1 _ hn, has_2 _ hn, has_4 _ hn]
    repeat' (first
      | refine fork_ok (fun _ => ?_) (fun _ => ?_)
      | refine need_t (by assumption) ?_
      | refine need_t (by simp only [*]; rfl) ?_)
    all_goals simp only [Bool.not_eq_true', Bool.not_eq_false'] at *
    all_goals refine agg3 ?_ ?_ ?_
    all_goals simp only [*, if_true, if_false, Bool.false_eq_true, Bool.and_true, Bool.and_false, Bool.true_and, Bool.false_and, one, w64_add]
    all_goals first | done | (congr 1; done) | (congr 1; omega))
noncomputable abbrev Sy.cPw (p : PartV) : Con Tryz.prog := at1 28 [.agg [partA p 0, partA p 1, partA p 2, partA p 3, partA p 4, partA p 5]] (.agg [int (toldI p.id), int (pwI p), int (toldI p.tag)]) (p.states ≤ 9223372036854775807) fun h => ⟨⟨⟨⟨trivial, trivial, trivial, viewOf_free strCells ⟨#[]⟩ 1 _, viewOf_free TestV.cells testNone 3 _, trivial, trivial⟩, trivial⟩, ⟨trivial, trivial, trivial, trivial⟩⟩, pw_t p h⟩
/-sy wr_p
fun (xs : List PartV) (d : D) => probeV SyTool.probe [] 400 30 20 [.agg [pview xs]] M0 d
-/
namespace Sy
abbrev wrM (xs : List PartV) (a b c : Int) (s : Nat) : Mem := ⟨3, s, [some ⟨[int a, int b, int c], 27, none⟩, some ⟨[int 0, int 0, int 0], 27, none⟩, some ⟨[pview xs], 45, none⟩]⟩
abbrev wrF (k : Int) : Fr := [none, some ((@AV.ptr 0 0)), some ((@AV.ptr (0 + 1) 0)), some ((@AV.ptr ((0 + 1) + 1) 0)), some (int k), none, none, none, none, none, none, none, none, none, none, none, none, none, none, none, none, none, none, none, none, none, none, none, none, none, none, none, none, none, none, none, none]
end Sy
/-sy wr_r
fun (xs : List PartV) (a b c k : Int) (d : D) => reckL [cPw (xs.getD k.toNat partNone)] [] 400 30 20 4 [false, true, true, true, true, false, false, false, false, false, false, false, false, false, false, false, false, false, false, false, false, false, false, false, false, false, false, false, false, false, false, false, false, false, false, false, false] (wrF k) (wrM xs a b c 0) d
-/
theorem Sy.wrF_lt (k : Int) : LtF 3 (wrF k) := by
  simp only [LtF]
  exact ⟨show 0 < 3 by omega, show 1 < 3 by omega, show 2 < 3 by omega, trivial, trivial⟩
theorem Sy.wrB_lt (xs : List PartV) (a b c : Int) : LtB 3 (wrM xs a b c 0).bs :=
  ⟨⟨⟨trivial, trivial, trivial, trivial⟩, rfl⟩, ⟨⟨trivial, trivial, trivial, trivial⟩, rfl⟩, ⟨⟨Free.lt (pview_free xs), trivial⟩, rfl⟩, trivial⟩
theorem Sy.wr_loop (xs : List PartV) (hx : xs.length ≤ 17592186044416) (hn : ∀ p ∈ xs, p.states ≤ 9223372036854775807) : ∀ (r pre : List PartV) (a b c k : Int), xs = pre ++ r → k = pre.length →
    LoopTo Tryz.prog (theBody Tryz.prog 20 4) (r.length + 1) (wrF k) (wrM xs a b c 0) fun ex F M => ex = .exit 0 ∧ (∃ j, F = wrF j) ∧ M = wrM xs (wAll r (a, b, c)).1 (wAll r (a, b, c)).2.1 (wAll r (a, b, c)).2.2 0 := by
  intro r
  induction r with
  | nil =>
    intro pre a b c k hxs hk
    have hl : xs.length = pre.length := by rw [hxs]; simp
    refine roundCut plain mixed [cPw (xs.getD k.toNat partNone)] [] 400 30 20 4 Tryz.func20 rfl (by kernel_rfl) [false, true, true, true, true, false, false, false, false, false, false, false, false, false, false, false, false, false, false, false, false, false, false, false, false, false, false, false, false, false, false, false, false, false, false, false, false] (.br (.yes (.yes .done)) .done) (.fork (!(leI (((xs).length : Nat) : Int) k)) (.need (@inR k (xs).length) (.need (@isSo (@And ([(@AV.agg [(@pcell xs (k).toNat 0), (@pcell xs (k).toNat 1), (@pcell xs (k).toNat 2), (@pcell xs (k).toNat 3), (@pcell xs (k).toNat 4), (@pcell xs (k).toNat 5)])] = [(@AV.agg [(int ((xs.getD (k).toNat partNone)).comb), (@AV.lit (@Value.string ((xs.getD (k).toNat partNone)).tag)), (@AV.lit (@Value.string ((xs.getD (k).toNat partNone)).id)), (@AV.view (((xs.getD (k).toNat partNone)).cls).length 1 (fun x916063 => (fun x388230 => (@AV.lit ([(@Value.string (((xs.getD (k).toNat partNone)).cls.getD x916063 (@ByteArray.mk (@Array.mk _ []))))].getD x388230 (@Value.tuple (@Array.mk _ []))))))), (@AV.view (((xs.getD (k).toNat partNone)).tests).length 3 (fun x941498 => (fun x326253 => (@AV.lit ([(@Value.string ((((xs.getD (k).toNat partNone)).tests.getD x941498 testNone)).name), (@Value.bool ((((xs.getD (k).toNat partNone)).tests.getD x941498 testNone)).equal), (@Value.string ((((xs.getD (k).toNat partNone)).tests.getD x941498 testNone)).value)].getD x326253 (@Value.tuple (@Array.mk _ []))))))), (int ((xs.getD (k).toNat partNone)).states)])]) (((xs.getD (k).toNat partNone)).states ≤ (9223372036854775807 : Int)))) (.leaf (Ex.norm, ([none, (some (@AV.ptr 0 0)), (some (@AV.ptr 1 0)), (some (@AV.ptr 2 0)), (some (int (w64 (k + (1 : Int))))), none, none, none, none, none, none, none, none, none, none, none, none, none, none, none, none, none, none, none, none, none, none, none, none, none, none, none, none, none, none, none, none], (@Mem.mk (3 + 1) ((0 + 1) + 1) [(some (@Blk.mk [(int (@toldI ((xs.getD (k).toNat partNone)).id)), (int (@pwI (xs.getD (k).toNat partNone))), (int (@toldI ((xs.getD (k).toNat partNone)).tag))] 27 none)), (some (@Blk.mk ((int (w64 (a + (@toldI ((xs.getD (k).toNat partNone)).id)))) :: ((int (w64 (b + (@pwI (xs.getD (k).toNat partNone))))) :: ((int (w64 (c + (@toldI ((xs.getD (k).toNat partNone)).tag)))) :: []))) 27 none)), (some (@Blk.mk [(int (0 : Int)), (int (0 : Int)), (int (0 : Int))] 27 none)), (some (@Blk.mk [(@AV.view (xs).length 6 (@pcell xs))] 45 none))])))))) (.leaf ((@Ex.exit 0), ([none, (some (@AV.ptr 0 0)), (some (@AV.ptr 1 0)), (some (@AV.ptr 2 0)), (some (int k)), none, none, none, none, none, none, none, none, none, none, none, none, none, none, none, none, none, none, none, none, none, none, none, none, none, none, none, none, none, none, none, none], (@Mem.mk 3 0 [(some (@Blk.mk [(int a), (int b), (int c)] 27 none)), (some (@Blk.mk [(int (0 : Int)), (int (0 : Int)), (int (0 : Int))] 27 none)), (some (@Blk.mk [(@AV.view (xs).length 6 (@pcell xs))] 45 none))]))))) (by kernel_rfl) ?_
    refine fork_ok (fun h => ?_) (fun h => ⟨Nat.le_refl 3, wrF_lt k, wrB_lt xs a b c, rfl, ⟨k, rfl⟩, rfl⟩)
    simp only [Bool.not_eq_true', Bool.not_eq_false', leI_t, leI_f, eqI_t, eqI_f, inR_t, inR_f, isSo_t, isSo_f] at h
    omega
  | cons p r ih =>
    intro pre a b c k hxs hk
    have hl : xs.length = pre.length + r.length + 1 := by rw [hxs]; simp; omega
    have hg : xs.getD k.toNat partNone = p := by rw [hxs]; exact getD_at _ _ _ _ _ hk
    have hp : p ∈ xs := by rw [hxs]; simp
    refine roundCut plain mixed [cPw (xs.getD k.toNat partNone)] [] 400 30 20 4 Tryz.func20 rfl (by kernel_rfl) [false, true, true, true, true, false, false, false, false, false, false, false, false, false, false, false, false, false, false, false, false, false, false, false, false, false, false, false, false, false, false, false, false, false, false, false, false] (.br (.yes (.yes .done)) .done) (.fork (!(leI (((xs).length : Nat) : Int) k)) (.need (@inR k (xs).length) (.need (@isSo (@And ([(@AV.agg [(@pcell xs (k).toNat 0), (@pcell xs (k).toNat 1), (@pcell xs (k).toNat 2), (@pcell xs (k).toNat 3), (@pcell xs (k).toNat 4), (@pcell xs (k).toNat 5)])] = [(@AV.agg [(int ((xs.getD (k).toNat partNone)).comb), (@AV.lit (@Value.string ((xs.getD (k).toNat partNone)).tag)), (@AV.lit (@Value.string ((xs.getD (k).toNat partNone)).id)), (@AV.view (((xs.getD (k).toNat partNone)).cls).length 1 (fun x916063 => (fun x388230 => (@AV.lit ([(@Value.string (((xs.getD (k).toNat partNone)).cls.getD x916063 (@ByteArray.mk (@Array.mk _ []))))].getD x388230 (@Value.tuple (@Array.mk _ []))))))), (@AV.view (((xs.getD (k).toNat partNone)).tests).length 3 (fun x941498 => (fun x326253 => (@AV.lit ([(@Value.string ((((xs.getD (k).toNat partNone)).tests.getD x941498 testNone)).name), (@Value.bool ((((xs.getD (k).toNat partNone)).tests.getD x941498 testNone)).equal), (@Value.string ((((xs.getD (k).toNat partNone)).tests.getD x941498 testNone)).value)].getD x326253 (@Value.tuple (@Array.mk _ []))))))), (int ((xs.getD (k).toNat partNone)).states)])]) (((xs.getD (k).toNat partNone)).states ≤ (9223372036854775807 : Int)))) (.leaf (Ex.norm, ([none, (some (@AV.ptr 0 0)), (some (@AV.ptr 1 0)), (some (@AV.ptr 2 0)), (some (int (w64 (k + (1 : Int))))), none, none, none, none, none, none, none, none, none, none, none, none, none, none, none, none, none, none, none, none, none, none, none, none, none, none, none, none, none, none, none, none], (@Mem.mk (3 + 1) ((0 + 1) + 1) [(some (@Blk.mk [(int (@toldI ((xs.getD (k).toNat partNone)).id)), (int (@pwI (xs.getD (k).toNat partNone))), (int (@toldI ((xs.getD (k).toNat partNone)).tag))] 27 none)), (some (@Blk.mk ((int (w64 (a + (@toldI ((xs.getD (k).toNat partNone)).id)))) :: ((int (w64 (b + (@pwI (xs.getD (k).toNat partNone))))) :: ((int (w64 (c + (@toldI ((xs.getD (k).toNat partNone)).tag)))) :: []))) 27 none)), (some (@Blk.mk [(int (0 : Int)), (int (0 : Int)), (int (0 : Int))] 27 none)), (some (@Blk.mk [(@AV.view (xs).length 6 (@pcell xs))] 45 none))])))))) (.leaf ((@Ex.exit 0), ([none, (some (@AV.ptr 0 0)), (some (@AV.ptr 1 0)), (some (@AV.ptr 2 0)), (some (int k)), none, none, none, none, none, none, none, none, none, none, none, none, none, none, none, none, none, none, none, none, none, none, none, none, none, none, none, none, none, none, none, none], (@Mem.mk 3 0 [(some (@Blk.mk [(int a), (int b), (int c)] 27 none)), (some (@Blk.mk [(int (0 : Int)), (int (0 : Int)), (int (0 : Int))] 27 none)), (some (@Blk.mk [(@AV.view (xs).length 6 (@pcell xs))] 45 none))]))))) (by kernel_rfl) ?_
    have hr : inR k xs.length = true := by rw [inR_t]; omega
    refine fork_ok (fun h => need_t hr (need_so ⟨rfl, by rw [hg]; exact hn p hp⟩ ⟨show 3 ≤ 3 + 1 by omega, ?_, ?_, ?_⟩)) (fun h => ?_)
    · rw [w64_in (r := k + 1) (by omega)]
      exact wrF_lt (k + 1)
    · exact wrB_lt xs _ _ _
    · rw [w64_in (r := k + 1) (by omega), hg]
      exact (ih (pre ++ [p]) (pw (a, b, c) p).1 (pw (a, b, c) p).2.1 (pw (a, b, c) p).2.2 (k + 1) (by rw [hxs]; simp) (by simp; omega))
    · simp only [Bool.not_eq_true', Bool.not_eq_false', leI_t, leI_f, eqI_t, eqI_f, inR_t, inR_f, isSo_t, isSo_f] at h
      omega
namespace Sy
noncomputable abbrev wrLp (xs : List PartV) : Lp Tryz.prog where
  f := 20
  key := 4
  S := formS (fun F M => slotI F 4) (fun k => wrF k) (fun _ => wrM xs 0 0 0 1) (fun k => (xs.length ≤ 17592186044416 ∧ ∀ p ∈ xs, p.states ≤ 9223372036854775807) ∧ k = 0) (fun k => .leaf (.exit 0, [none, some ((@AV.ptr 0 0)), some ((@AV.ptr (0 + 1) 0)), some ((@AV.ptr ((0 + 1) + 1) 0)), none, none, none, none, none, none, none, none, none, none, none, none, none, none, none, none, none, none, none, none, none, none, none, none, none, none, none, none, none, none, none, none, none], wrM xs (wAll xs (0, 0, 0)).1 (wAll xs (0, 0, 0)).2.1 (wAll xs (0, 0, 0)).2.2 0)) [false, true, true, true, true, false, false, false, false, false, false, false, false, false, false, false, false, false, false, false, false, false, false, false, false, false, false, false, false, false, false, false, false, false, false, false, false]
  one := by kernel_rfl
  ok := formS_ok fun k ⟨h1, h2⟩ => by
    subst h2
    refine ⟨xs.length + 1, ?_⟩
    have h6 := Sy.wr_loop xs h1.1 h1.2 xs [] 0 0 0 0 rfl rfl
    have h7 : LoopTo Tryz.prog (theBody Tryz.prog 20 4) (xs.length + 1) (wrF 0) (wrM xs 0 0 0 1) _ := LoopTo.stamp (M := wrM xs 0 0 0 1) 0 h6
    refine (h7.out [false, true, true, true, false, false, false, false, false, false, false, false, false, false, false, false, false, false, false, false, false, false, false, false, false, false, false, false, false, false, false, false, false, false, false, false, false]).mono fun ex F M hg => ?_
    obtain ⟨F0, ⟨rfl, ⟨j, rfl⟩, hM⟩, rfl⟩ := hg
    rw [hM]; rfl
end Sy
/-sy wtr_t
fun (xs : List PartV) (d : D) => reckV [] [wrLp xs] 400 30 20 [.agg [pview xs]] M0 d
-/
def StatesOk (xs : List PartV) : Prop := xs.length ≤ 17592186044416 ∧ ∀ p ∈ xs, p.states ≤ 9223372036854775807
theorem Sy.wtr_t (xs : List PartV) (hx : StatesOk xs) : CallTo Tryz.prog 20 [.agg [pview xs]] M0 fun v _ => v = .agg [int (wAll xs (0, 0, 0)).1, int (wAll xs (0, 0, 0)).2.1, int (wAll xs (0, 0, 0)).2.2] :=
  toV [] [wrLp xs] 400 30 .done (.need (@isSo (@And ((none :: [(some (@AV.ptr 0 0)), (some (@AV.ptr (0 + 1) 0)), (some (@AV.ptr ((0 + 1) + 1) 0)), (some (int (0 : Int))), none, none, none, none, none, none, none, none, none, none, none, none, none, none, none, none, none, none, none, none, none, none, none, none, none, none, none, none, none, none, none, none]) = [none, (some (@AV.ptr 0 0)), (some (@AV.ptr 1 0)), (some (@AV.ptr 2 0)), (some (int (0 : Int))), none, none, none, none, none, none, none, none, none, none, none, none, none, none, none, none, none, none, none, none, none, none, none, none, none, none, none, none, none, none, none, none]) ((@Mem.mk (((0 + 1) + 1) + 1) (0 + 1) [(some (@Blk.mk [(int (0 : Int)), (int (0 : Int)), (int (0 : Int))] 27 none)), (some (@Blk.mk [(int (0 : Int)), (int (0 : Int)), (int (0 : Int))] 27 none)), (some (@Blk.mk [(@AV.view (xs).length 6 (@pcell xs))] 45 none))]) = (@Mem.mk 3 1 [(some (@Blk.mk [(int (0 : Int)), (int (0 : Int)), (int (0 : Int))] 27 none)), (some (@Blk.mk [(int (0 : Int)), (int (0 : Int)), (int (0 : Int))] 27 none)), (some (@Blk.mk [(@AV.view (xs).length 6 (@pcell xs))] 45 none))])))) (.need (@isSo (@And (@And ((xs).length ≤ 17592186044416) (∀ (p : PartV), p ∈ xs → p.states ≤ 9223372036854775807)) ((0 : Int) = (0 : Int)))) (.leaf (@AV.agg [(int ((@wAll xs ((0 : Int), ((0 : Int), (0 : Int))))).fst), (int (((@wAll xs ((0 : Int), ((0 : Int), (0 : Int))))).snd).fst), (int (((@wAll xs ((0 : Int), ((0 : Int), (0 : Int))))).snd).snd)])))) (by kernel_rfl) (need_so ⟨rfl, rfl⟩ (need_so ⟨hx, rfl⟩ rfl))
noncomputable abbrev Sy.cWeightR (xs : List PartV) : Con Tryz.prog := at1 20 [.agg [pview xs]] (.agg [int (wAll xs (0, 0, 0)).1, int (wAll xs (0, 0, 0)).2.1, int (wAll xs (0, 0, 0)).2.2]) (StatesOk xs) fun h => ⟨⟨⟨⟨pview_free xs, trivial⟩, trivial⟩, ⟨trivial, trivial, trivial, trivial⟩⟩, wtr_t xs h⟩
end Go.Proofs.YtmlhipckgmbpfaaGreat
