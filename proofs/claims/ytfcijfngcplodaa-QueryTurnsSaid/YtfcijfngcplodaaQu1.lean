/-
  Queries' nodes: whether they may be, and how many nodes stand beneath them; the program's functions and the reference's.
-/
import Derived.Test.YtfcijfngcplodaaSyUse
import Derived.Test.YtfcijfngcplodaaFix
namespace Go.Proofs.Ytfcijfngcplodaa
open Go Go.RowKit Pl Sy
set_option linter.unusedVariables false
set_option linter.unusedSimpArgs false

structure QNodeV where
  kind : Int
  count : Int
  feat : Int
  lo : Int
  ln : Int
  ld : Int
  ho : Int
  hn : Int
  hd : Int
def QNodeV.cells (q : QNodeV) : List Value := [.int .i64 q.kind, .int .i64 q.count, .int .i64 q.feat, .int .i64 q.lo, .int .i64 q.ln, .int .i64 q.ld, .int .i64 q.ho, .int .i64 q.hn, .int .i64 q.hd]
def QNodeV.zero : QNodeV := ⟨0, 0, 0, 0, 0, 0, 0, 0, 0⟩
instance : Inhabited QNodeV := ⟨QNodeV.zero⟩
abbrev Sy.qa (k c f lo ln ld ho hn hd : Int) : AV := .agg [int k, int c, int f, int lo, int ln, int ld, int ho, int hn, int hd]

noncomputable abbrev Sy.cHoldP : Con Try.prog := int1 82 (fun x => int (hold x)) (fun _ => trivial) fun x => old (us := [.int .i64 x]) (hold_p x)
noncomputable abbrev Sy.cHoldR : Con Try.prog := int1 68 (fun x => int (hold x)) (fun _ => trivial) fun x => old (us := [.int .i64 x]) (hold_r x)

/-- is a bound none? -/
def bz (o n d : Int) : Bool := o == 0 && n == 0 && d == 0
/-- may a bound's value be, of a feature? -/
def valOk (f o n d : Int) : Bool := decide ((f = 5 ∧ 1 ≤ n ∧ n ≤ 1073741824 ∧ 1 ≤ d ∧ d ≤ 1073741824) ∨ (f ≠ 5 ∧ f = 6 ∧ o = 3 ∧ (n = 1 ∨ n = 2) ∧ d = 0) ∨ (f ≠ 5 ∧ f ≠ 6 ∧ n = hold n ∧ d = 0))

/-sy value_q
fun (f o n e : Int) (d : D) => reckV [cHoldP] [] 400 30 73 [int f, .agg [int o, int n, int e]] M0 d
-/
theorem Sy.value_q (f o n e : Int) : CallTo Try.prog 73 [int f, .agg [int o, int n, int e]] M0 fun v _ => v = boo (valOk f o n e) :=
  toV [cHoldP] [] 400 30 (.br (.br (.auto 2 (.br (.auto 2 (.br (.auto 2 .done) (.auto 2 .done))) (.auto 6 .done))) (.auto 10 .done)) (.br (.br (.auto 2 (.br (.auto 4 (.br (.auto 2 .done) (.auto 2 .done))) (.auto 8 .done))) (.auto 11 .done)) (.br (.auto 2 .done) (.auto 2 .done)))) (.fork (eqI f (5 : Int)) (.fork (leI (1 : Int) n) (.fork (leI n (1073741824 : Int)) (.fork (leI (1 : Int) e) (.leaf (boo (leI e (1073741824 : Int)))) (.leaf (boo false))) (.leaf (boo false))) (.leaf (boo false))) (.fork (eqI f (6 : Int)) (.fork (eqI o (3 : Int)) (.fork (!(eqI n (1 : Int))) (.fork (eqI n (2 : Int)) (.leaf (boo (eqI e (0 : Int)))) (.leaf (boo false))) (.leaf (boo (eqI e (0 : Int))))) (.leaf (boo false))) (.fork (eqI n (@Pl.hold n)) (.leaf (boo (eqI e (0 : Int)))) (.leaf (boo false))))) (by kernel_rfl) (by
    unfold valOk
    simp only [Tr.Ok, eqI_t, eqI_f, leI_t, leI_f, eqI_d, leI_d, boo_iff, int_iff, decide_eq_true_eq, decide_eq_false_iff_not, Bool.not_eq_true', Bool.not_eq_false', Bool.false_eq_true, Bool.and_eq_true, Bool.or_eq_true, iff_false, false_iff, iff_true, true_iff]
    repeat' (first | (intro _) | apply And.intro)
    all_goals (first | omega | grind))
noncomputable abbrev Sy.cValue : Con Try.prog := ints4 73 [0, 4] (fun f o n e => boo (valOk f o n e)) (fun _ _ _ _ => trivial) Sy.value_q

/-sy fits_q
fun (k c f lo ln ld ho hn hd : Int) (d : D) => reckV [cValue] [] 400 30 59 [qa k c f lo ln ld ho hn hd] M0 d
-/
/-- may a feature's bounds be? -/
def fitsV (f lo ln ld ho hn hd : Int) : Bool :=
  decide ((ho = 0 ∧ hn = 0 ∧ hd = 0 ∧ lo = 0 ∧ ln = 0 ∧ ld = 0) ∨ (¬ (ho = 0 ∧ hn = 0 ∧ hd = 0) ∧ 1 ≤ ho ∧ ho ≤ 5 ∧ valOk f ho hn hd = true ∧
    ((lo = 0 ∧ ln = 0 ∧ ld = 0) ∨ ((((lo = 1 ∨ lo = 2) ∧ (ho = 1 ∨ ho = 2)) ∨ ((lo = 4 ∨ lo = 5) ∧ (ho = 4 ∨ ho = 5))) ∧ f ≠ 6 ∧ valOk f lo ln ld = true))))
theorem Sy.fits_q (k c f lo ln ld ho hn hd : Int) : CallTo Try.prog 59 [qa k c f lo ln ld ho hn hd] M0 fun v _ => v = boo (fitsV f lo ln ld ho hn hd) :=
  toV [cValue] [] 400 30 (.br .done (.br (.auto 3 (.br (.auto 5 (.br .done (.br .done (.br (.auto 1 (.br (.auto 2 (.br (.auto 2 (.br (.auto 2 (.br (.auto 2 (.br (.auto 2 (.br (.auto 4 (.br (.auto 2 (.br (.auto 4 .done) (.auto 4 .done))) (.auto 8 .done))) (.auto 8 (.br (.auto 4 .done) (.auto 4 .done))))) (.auto 15 .done))) (.auto 6 (.br (.auto 4 (.br (.auto 2 (.br (.auto 4 .done) (.auto 4 .done))) (.auto 8 .done))) (.auto 8 (.br (.auto 4 .done) (.auto 4 .done))))))) (.auto 13 (.br (.auto 4 .done) (.auto 4 .done))))) (.auto 17 (.br (.auto 4 .done) (.auto 4 .done))))) (.auto 7 (.br (.auto 2 (.br (.auto 2 (.br (.auto 4 (.br (.auto 2 (.br (.auto 4 .done) (.auto 4 .done))) (.auto 8 .done))) (.auto 8 (.br (.auto 4 .done) (.auto 4 .done))))) (.auto 15 .done))) (.auto 6 (.br (.auto 4 (.br (.auto 2 (.br (.auto 4 .done) (.auto 4 .done))) (.auto 8 .done))) (.auto 8 (.br (.auto 4 .done) (.auto 4 .done))))))))) (.auto 5 (.br (.auto 2 (.br (.auto 2 (.br (.auto 2 (.br (.auto 2 (.br (.auto 4 (.br (.auto 2 (.br (.auto 4 .done) (.auto 4 .done))) (.auto 8 .done))) (.auto 8 (.br (.auto 4 .done) (.auto 4 .done))))) (.auto 15 .done))) (.auto 6 (.br (.auto 4 (.br (.auto 2 (.br (.auto 4 .done) (.auto 4 .done))) (.auto 8 .done))) (.auto 8 (.br (.auto 4 .done) (.auto 4 .done))))))) (.auto 13 (.br (.auto 4 .done) (.auto 4 .done))))) (.auto 17 (.br (.auto 4 .done) (.auto 4 .done))))))))) (.auto 6 .done))) (.auto 11 .done))) (.fork ((eqI ho (0 : Int)) && ((eqI hn (0 : Int)) && ((eqI hd (0 : Int)) && true))) (.leaf (boo ((eqI lo (0 : Int)) && ((eqI ln (0 : Int)) && ((eqI ld (0 : Int)) && true))))) (.fork (!(!(leI (1 : Int) ho))) (.fork (!(!(leI ho (5 : Int)))) (.fork (!(@valOk f ho hn hd)) (.leaf (boo false)) (.fork ((eqI lo (0 : Int)) && ((eqI ln (0 : Int)) && ((eqI ld (0 : Int)) && true))) (.leaf (boo true)) (.fork (!(eqI lo (1 : Int))) (.fork (eqI lo (2 : Int)) (.fork (!(eqI ho (1 : Int))) (.fork (!(eqI ho (2 : Int))) (.fork (!(eqI lo (4 : Int))) (.fork (eqI lo (5 : Int)) (.fork (!(eqI ho (4 : Int))) (.fork (eqI ho (5 : Int)) (.fork (!(eqI f (6 : Int))) (.leaf (boo (@valOk f lo ln ld))) (.leaf (boo false))) (.leaf (boo false))) (.fork (!(eqI f (6 : Int))) (.leaf (boo (@valOk f lo ln ld))) (.leaf (boo false)))) (.leaf (boo false))) (.fork (!(eqI ho (4 : Int))) (.fork (eqI ho (5 : Int)) (.fork (!(eqI f (6 : Int))) (.leaf (boo (@valOk f lo ln ld))) (.leaf (boo false))) (.leaf (boo false))) (.fork (!(eqI f (6 : Int))) (.leaf (boo (@valOk f lo ln ld))) (.leaf (boo false))))) (.fork (!(eqI f (6 : Int))) (.leaf (boo (@valOk f lo ln ld))) (.leaf (boo false)))) (.fork (!(eqI f (6 : Int))) (.leaf (boo (@valOk f lo ln ld))) (.leaf (boo false)))) (.fork (!(eqI lo (4 : Int))) (.fork (eqI lo (5 : Int)) (.fork (!(eqI ho (4 : Int))) (.fork (eqI ho (5 : Int)) (.fork (!(eqI f (6 : Int))) (.leaf (boo (@valOk f lo ln ld))) (.leaf (boo false))) (.leaf (boo false))) (.fork (!(eqI f (6 : Int))) (.leaf (boo (@valOk f lo ln ld))) (.leaf (boo false)))) (.leaf (boo false))) (.fork (!(eqI ho (4 : Int))) (.fork (eqI ho (5 : Int)) (.fork (!(eqI f (6 : Int))) (.leaf (boo (@valOk f lo ln ld))) (.leaf (boo false))) (.leaf (boo false))) (.fork (!(eqI f (6 : Int))) (.leaf (boo (@valOk f lo ln ld))) (.leaf (boo false)))))) (.fork (!(eqI ho (1 : Int))) (.fork (!(eqI ho (2 : Int))) (.fork (!(eqI lo (4 : Int))) (.fork (eqI lo (5 : Int)) (.fork (!(eqI ho (4 : Int))) (.fork (eqI ho (5 : Int)) (.fork (!(eqI f (6 : Int))) (.leaf (boo (@valOk f lo ln ld))) (.leaf (boo false))) (.leaf (boo false))) (.fork (!(eqI f (6 : Int))) (.leaf (boo (@valOk f lo ln ld))) (.leaf (boo false)))) (.leaf (boo false))) (.fork (!(eqI ho (4 : Int))) (.fork (eqI ho (5 : Int)) (.fork (!(eqI f (6 : Int))) (.leaf (boo (@valOk f lo ln ld))) (.leaf (boo false))) (.leaf (boo false))) (.fork (!(eqI f (6 : Int))) (.leaf (boo (@valOk f lo ln ld))) (.leaf (boo false))))) (.fork (!(eqI f (6 : Int))) (.leaf (boo (@valOk f lo ln ld))) (.leaf (boo false)))) (.fork (!(eqI f (6 : Int))) (.leaf (boo (@valOk f lo ln ld))) (.leaf (boo false))))))) (.leaf (boo false))) (.leaf (boo false)))) (by kernel_rfl) (by
    unfold fitsV
    simp only [Tr.Ok, eqI_t, eqI_f, leI_t, leI_f, eqI_d, leI_d, boo_iff, int_iff, decide_eq_true_eq, decide_eq_false_iff_not, Bool.not_eq_true', Bool.not_eq_false', Bool.false_eq_true, Bool.and_eq_true, Bool.or_eq_true, iff_false, false_iff, iff_true, true_iff]
    repeat' (first | (intro _) | apply And.intro)
    all_goals (first | omega | grind))
noncomputable abbrev Sy.cFits : Con Try.prog := ints9 59 [10] (fun k c f lo ln ld ho hn hd => boo (fitsV f lo ln ld ho hn hd)) (fun _ _ _ _ _ _ _ _ _ => trivial) Sy.fits_q

/-sy right_q
fun (k c f lo ln ld ho hn hd : Int) (d : D) => reckV [cFits] [] 400 30 34 [qa k c f lo ln ld ho hn hd] M0 d
-/
def rightV (k c f lo ln ld ho hn hd : Int) : Bool :=
  decide ((k = 4 ∧ c = 0 ∧ 1 ≤ f ∧ f ≤ 6 ∧ fitsV f lo ln ld ho hn hd = true) ∨ (k ≠ 4 ∧ f = 0 ∧ lo = 0 ∧ ln = 0 ∧ ld = 0 ∧ ho = 0 ∧ hn = 0 ∧ hd = 0 ∧ ((k = 3 ∧ c = 1) ∨ ((k = 1 ∨ k = 2) ∧ 2 ≤ c))))
theorem Sy.right_q (k c f lo ln ld ho hn hd : Int) : CallTo Try.prog 34 [qa k c f lo ln ld ho hn hd] M0 fun v _ => v = boo (rightV k c f lo ln ld ho hn hd) :=
  toV [cFits] [] 400 30 (.br (.br (.auto 2 (.br (.auto 2 (.br (.auto 1 .done) (.auto 1 .done))) (.auto 5 .done))) (.auto 9 .done)) (.br (.auto 3 (.br (.auto 3 (.br .done (.br .done (.br (.auto 2 (.br (.auto 2 .done) (.auto 2 .done))) (.auto 6 .done))))) (.auto 4 .done))) (.auto 9 .done))) (.fork (eqI k (4 : Int)) (.fork (eqI c (0 : Int)) (.fork (leI (1 : Int) f) (.fork (leI f (6 : Int)) (.leaf (boo (@fitsV f lo ln ld ho hn hd))) (.leaf (boo false))) (.leaf (boo false))) (.leaf (boo false))) (.fork (!(!(eqI f (0 : Int)))) (.fork (!(!((eqI lo (0 : Int)) && ((eqI ln (0 : Int)) && ((eqI ld (0 : Int)) && true))))) (.fork (!((eqI ho (0 : Int)) && ((eqI hn (0 : Int)) && ((eqI hd (0 : Int)) && true)))) (.leaf (boo false)) (.fork (eqI k (3 : Int)) (.leaf (boo (eqI c (1 : Int)))) (.fork (!(eqI k (1 : Int))) (.fork (eqI k (2 : Int)) (.leaf (boo (leI (2 : Int) c))) (.leaf (boo false))) (.leaf (boo (leI (2 : Int) c)))))) (.leaf (boo false))) (.leaf (boo false)))) (by kernel_rfl) (by
    unfold rightV
    simp only [Tr.Ok, eqI_t, eqI_f, leI_t, leI_f, eqI_d, leI_d, boo_iff, int_iff, decide_eq_true_eq, decide_eq_false_iff_not, Bool.not_eq_true', Bool.not_eq_false', Bool.false_eq_true, Bool.and_eq_true, Bool.or_eq_true, iff_false, false_iff, iff_true, true_iff]
    repeat' (first | (intro _) | apply And.intro)
    all_goals (first | omega | grind))
noncomputable abbrev Sy.cRight1 : Con Try.prog := ints9 34 [10] (fun k c f lo ln ld ho hn hd => boo (rightV k c f lo ln ld ho hn hd)) (fun _ _ _ _ _ _ _ _ _ => trivial) Sy.right_q

/-sy has_q
fun (k c f lo ln ld ho hn hd : Int) (d : D) => reckV [] [] 400 30 57 [qa k c f lo ln ld ho hn hd] M0 d
-/
end Go.Proofs.Ytfcijfngcplodaa
