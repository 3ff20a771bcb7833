/-
  Truths of one feature: the program's, and the reference's.
-/
import Derived.Test.YtjljlcflmcjapaaQu6
namespace Go.Proofs.Ytjljlcflmcjapaa
open Go Go.RowKit Pl Sy
set_option linter.unusedVariables false
set_option linter.unusedSimpArgs false

/-sy not_t
fun (a : Int) (d : D) => reckV [] [] 400 30 15 [int a] M0 d
-/
/-sy and_t
fun (a b : Int) (d : D) => reckV [] [] 400 30 17 [int a, int b] M0 d
-/
/-sy or_t
fun (a b : Int) (d : D) => reckV [] [] 400 30 19 [int a, int b] M0 d
-/
theorem Sy.not_t (a : Int) : CallTo Try.prog 15 [int a] M0 fun v _ => v = int (tN a) :=
  toV [] [] 400 30 (.br (.auto 1 (.br (.no (.yes .done)) (.auto 1 .done))) (.auto 2 (.yes .done))) (.fork (!(eqI a (0 : Int))) (.fork (eqI a (1 : Int)) (.need (!(eqI a (0 : Int))) (.need (eqI a (1 : Int)) (.leaf (int (0 : Int))))) (.leaf (int (2 : Int)))) (.need (eqI a (0 : Int)) (.leaf (int (1 : Int))))) (by kernel_rfl) (by
    repeat' (first
      | refine fork_ok (fun _ => ?_) (fun _ => ?_)
      | refine need_so ⟨rfl, by (first | assumption | trivial | (try simp only [eqI_t, eqI_f, leI_t, leI_f, inR_t, inR_f, isSo_t, isSo_f, eqI_d, leI_d, decide_eq_true_eq, decide_eq_false_iff_not, Bool.not_eq_true', Bool.not_eq_false', Bool.false_eq_true, Bool.and_eq_true, Bool.or_eq_true, Bool.not_not, iff_false, false_iff, iff_true, true_iff] at *) <;> first | omega | grind)⟩ ?_
      | refine need_so (by (first | assumption | trivial | (try simp only [eqI_t, eqI_f, leI_t, leI_f, inR_t, inR_f, isSo_t, isSo_f, eqI_d, leI_d, decide_eq_true_eq, decide_eq_false_iff_not, Bool.not_eq_true', Bool.not_eq_false', Bool.false_eq_true, Bool.and_eq_true, Bool.or_eq_true, Bool.not_not, iff_false, false_iff, iff_true, true_iff] at *) <;> first | omega | grind)) ?_
      | refine need_t (by (first | assumption | trivial | (try simp only [eqI_t, eqI_f, leI_t, leI_f, inR_t, inR_f, isSo_t, isSo_f, eqI_d, leI_d, decide_eq_true_eq, decide_eq_false_iff_not, Bool.not_eq_true', Bool.not_eq_false', Bool.false_eq_true, Bool.and_eq_true, Bool.or_eq_true, Bool.not_not, iff_false, false_iff, iff_true, true_iff] at *) <;> first | omega | grind)) ?_)
    all_goals (first | refine leaf_boo ?_ | refine leaf_int ?_)
    all_goals (unfold tN; try simp only [eqI_t, eqI_f, leI_t, leI_f, inR_t, inR_f, isSo_t, isSo_f, eqI_d, leI_d, decide_eq_true_eq, decide_eq_false_iff_not, Bool.not_eq_true', Bool.not_eq_false', Bool.false_eq_true, Bool.and_eq_true, Bool.or_eq_true, Bool.not_not, iff_false, false_iff, iff_true, true_iff] at *)
    all_goals (first | omega | grind))
theorem Sy.and_t (a b : Int) : CallTo Try.prog 17 [int a, int b] M0 fun v _ => v = int (tA a b) :=
  toV [] [] 400 30 (.br (.auto 1 (.br (.br (.auto 1 (.br (.yes (.auto 2 (.no (.br .done .done)))) (.yes (.auto 3 (.br .done .done))))) (.auto 2 (.yes (.auto 2 (.yes .done))))) (.br (.auto 1 (.br (.auto 3 (.no (.br .done .done))) (.auto 5 .done))) (.auto 6 (.yes .done))))) (.auto 2 (.br (.auto 1 (.br (.no (.auto 3 .done)) (.no (.auto 3 .done)))) (.auto 2 (.no (.auto 3 .done)))))) (.fork (!(eqI a (0 : Int))) (.fork (eqI a (1 : Int)) (.fork (!(eqI b (0 : Int))) (.fork (eqI b (1 : Int)) (.need (!(eqI a (0 : Int))) (.need (!(eqI b (0 : Int))) (.fork (eqI a b) (.leaf (int a)) (.leaf (int (2 : Int)))))) (.need (!(eqI a (0 : Int))) (.fork (eqI a (2 : Int)) (.leaf (int a)) (.leaf (int (2 : Int)))))) (.need (!(eqI a (0 : Int))) (.need (eqI b (0 : Int)) (.leaf (int (0 : Int)))))) (.fork (!(eqI b (0 : Int))) (.fork (eqI b (1 : Int)) (.need (!(eqI b (0 : Int))) (.fork (eqI (2 : Int) b) (.leaf (int (2 : Int))) (.leaf (int (2 : Int))))) (.leaf (int (2 : Int)))) (.need (eqI b (0 : Int)) (.leaf (int (0 : Int)))))) (.fork (!(eqI b (0 : Int))) (.fork (eqI b (1 : Int)) (.need (!(!(eqI a (0 : Int)))) (.leaf (int (0 : Int)))) (.need (!(!(eqI a (0 : Int)))) (.leaf (int (0 : Int))))) (.need (!(!(eqI a (0 : Int)))) (.leaf (int (0 : Int)))))) (by kernel_rfl) (by
    repeat' (first
      | refine fork_ok (fun _ => ?_) (fun _ => ?_)
      | refine need_so ⟨rfl, by (first | assumption | trivial | (try simp only [eqI_t, eqI_f, leI_t, leI_f, inR_t, inR_f, isSo_t, isSo_f, eqI_d, leI_d, decide_eq_true_eq, decide_eq_false_iff_not, Bool.not_eq_true', Bool.not_eq_false', Bool.false_eq_true, Bool.and_eq_true, Bool.or_eq_true, Bool.not_not, iff_false, false_iff, iff_true, true_iff] at *) <;> first | omega | grind)⟩ ?_
      | refine need_so (by (first | assumption | trivial | (try simp only [eqI_t, eqI_f, leI_t, leI_f, inR_t, inR_f, isSo_t, isSo_f, eqI_d, leI_d, decide_eq_true_eq, decide_eq_false_iff_not, Bool.not_eq_true', Bool.not_eq_false', Bool.false_eq_true, Bool.and_eq_true, Bool.or_eq_true, Bool.not_not, iff_false, false_iff, iff_true, true_iff] at *) <;> first | omega | grind)) ?_
      | refine need_t (by (first | assumption | trivial | (try simp only [eqI_t, eqI_f, leI_t, leI_f, inR_t, inR_f, isSo_t, isSo_f, eqI_d, leI_d, decide_eq_true_eq, decide_eq_false_iff_not, Bool.not_eq_true', Bool.not_eq_false', Bool.false_eq_true, Bool.and_eq_true, Bool.or_eq_true, Bool.not_not, iff_false, false_iff, iff_true, true_iff] at *) <;> first | omega | grind)) ?_)
    all_goals (first | refine leaf_boo ?_ | refine leaf_int ?_)
    all_goals (unfold tA; try simp only [eqI_t, eqI_f, leI_t, leI_f, inR_t, inR_f, isSo_t, isSo_f, eqI_d, leI_d, decide_eq_true_eq, decide_eq_false_iff_not, Bool.not_eq_true', Bool.not_eq_false', Bool.false_eq_true, Bool.and_eq_true, Bool.or_eq_true, Bool.not_not, iff_false, false_iff, iff_true, true_iff] at *)
    all_goals (first | omega | grind))
theorem Sy.or_t (a b : Int) : CallTo Try.prog 19 [int a, int b] M0 fun v _ => v = int (tO a b) :=
  toV [] [] 400 30 (.br (.auto 1 (.br (.br (.auto 1 (.br (.no (.auto 3 .done)) (.no (.auto 3 .done)))) (.auto 2 (.no (.auto 3 .done)))) (.br (.auto 1 (.br (.auto 3 (.yes .done)) (.auto 5 .done))) (.auto 6 (.br .done (.br .done .done)))))) (.auto 2 (.br (.auto 1 (.br (.br (.auto 2 (.yes .done)) (.auto 3 .done)) (.br (.auto 3 (.br .done .done)) (.auto 3 .done)))) (.auto 2 (.br (.auto 2 (.br .done (.br .done .done))) (.auto 3 .done)))))) (.fork (!(eqI a (0 : Int))) (.fork (eqI a (1 : Int)) (.fork (!(eqI b (0 : Int))) (.fork (eqI b (1 : Int)) (.need (!(!(eqI a (1 : Int)))) (.leaf (int (1 : Int)))) (.need (!(!(eqI a (1 : Int)))) (.leaf (int (1 : Int))))) (.need (!(!(eqI a (1 : Int)))) (.leaf (int (1 : Int))))) (.fork (!(eqI b (0 : Int))) (.fork (eqI b (1 : Int)) (.need (eqI b (1 : Int)) (.leaf (int (1 : Int)))) (.leaf (int (2 : Int)))) (.fork (eqI b (1 : Int)) (.leaf (int (1 : Int))) (.fork (eqI (2 : Int) b) (.leaf (int (2 : Int))) (.leaf (int (2 : Int))))))) (.fork (!(eqI b (0 : Int))) (.fork (eqI b (1 : Int)) (.fork (!(eqI a (1 : Int))) (.need (eqI b (1 : Int)) (.leaf (int (1 : Int)))) (.leaf (int (1 : Int)))) (.fork (!(eqI a (1 : Int))) (.fork (eqI a (2 : Int)) (.leaf (int a)) (.leaf (int (2 : Int)))) (.leaf (int (1 : Int))))) (.fork (!(eqI a (1 : Int))) (.fork (eqI b (1 : Int)) (.leaf (int (1 : Int))) (.fork (eqI a b) (.leaf (int a)) (.leaf (int (2 : Int))))) (.leaf (int (1 : Int)))))) (by kernel_rfl) (by
    repeat' (first
      | refine fork_ok (fun _ => ?_) (fun _ => ?_)
      | refine need_so ⟨rfl, by (first | assumption | trivial | (try simp only [eqI_t, eqI_f, leI_t, leI_f, inR_t, inR_f, isSo_t, isSo_f, eqI_d, leI_d, decide_eq_true_eq, decide_eq_false_iff_not, Bool.not_eq_true', Bool.not_eq_false', Bool.false_eq_true, Bool.and_eq_true, Bool.or_eq_true, Bool.not_not, iff_false, false_iff, iff_true, true_iff] at *) <;> first | omega | grind)⟩ ?_
      | refine need_so (by (first | assumption | trivial | (try simp only [eqI_t, eqI_f, leI_t, leI_f, inR_t, inR_f, isSo_t, isSo_f, eqI_d, leI_d, decide_eq_true_eq, decide_eq_false_iff_not, Bool.not_eq_true', Bool.not_eq_false', Bool.false_eq_true, Bool.and_eq_true, Bool.or_eq_true, Bool.not_not, iff_false, false_iff, iff_true, true_iff] at *) <;> first | omega | grind)) ?_
      | refine need_t (by (first | assumption | trivial | (try simp only [eqI_t, eqI_f, leI_t, leI_f, inR_t, inR_f, isSo_t, isSo_f, eqI_d, leI_d, decide_eq_true_eq, decide_eq_false_iff_not, Bool.not_eq_true', Bool.not_eq_false', Bool.false_eq_true, Bool.and_eq_true, Bool.or_eq_true, Bool.not_not, iff_false, false_iff, iff_true, true_iff] at *) <;> first | omega | grind)) ?_)
    all_goals (first | refine leaf_boo ?_ | refine leaf_int ?_)
    all_goals (unfold tO; try simp only [eqI_t, eqI_f, leI_t, leI_f, inR_t, inR_f, isSo_t, isSo_f, eqI_d, leI_d, decide_eq_true_eq, decide_eq_false_iff_not, Bool.not_eq_true', Bool.not_eq_false', Bool.false_eq_true, Bool.and_eq_true, Bool.or_eq_true, Bool.not_not, iff_false, false_iff, iff_true, true_iff] at *)
    all_goals (first | omega | grind))
noncomputable abbrev Sy.cNot : Con Try.prog := int1 15 (fun a => int (tN a)) (fun _ => trivial) Sy.not_t
noncomputable abbrev Sy.cAnd : Con Try.prog := int2 17 (fun a b => int (tA a b)) (fun _ _ => trivial) Sy.and_t
noncomputable abbrev Sy.cOr : Con Try.prog := int2 19 (fun a b => int (tO a b)) (fun _ _ => trivial) Sy.or_t

/-sy holds_t
fun (c op : Int) (d : D) => reckV [] [] 400 30 117 [int c, int op] M0 d
-/
/-- does a comparison hold? -/
def holdsV (c op : Int) : Bool := decide (if op = 1 then c < 0 else if op = 2 then c ≤ 0 else if op = 4 then 0 ≤ c else if op = 5 then 0 < c else c = 0)
theorem Sy.holds_t (c op : Int) : CallTo Try.prog 117 [int c, int op] M0 fun v _ => v = boo (holdsV c op) :=
  toV [] [] 400 30 (.br (.br (.auto 1 .done) (.auto 1 .done)) (.br (.auto 2 .done) (.br (.br (.auto 1 .done) (.auto 1 .done)) (.br (.auto 2 .done) .done)))) (.fork (eqI op (2 : Int)) (.fork (!(eqI c (0 : Int))) (.leaf (boo (!(leI (0 : Int) c)))) (.leaf (boo true))) (.fork (eqI op (1 : Int)) (.leaf (boo (!(leI (0 : Int) c)))) (.fork (eqI op (4 : Int)) (.fork (!(eqI c (0 : Int))) (.leaf (boo (!(leI c (0 : Int))))) (.leaf (boo true))) (.fork (eqI op (5 : Int)) (.leaf (boo (!(leI c (0 : Int))))) (.leaf (boo (eqI c (0 : Int)))))))) (by kernel_rfl) (by
    repeat' (first
      | refine fork_ok (fun _ => ?_) (fun _ => ?_)
      | refine need_so ⟨rfl, by (first | assumption | trivial | (try simp only [eqI_t, eqI_f, leI_t, leI_f, inR_t, inR_f, isSo_t, isSo_f, eqI_d, leI_d, decide_eq_true_eq, decide_eq_false_iff_not, Bool.not_eq_true', Bool.not_eq_false', Bool.false_eq_true, Bool.and_eq_true, Bool.or_eq_true, Bool.not_not, iff_false, false_iff, iff_true, true_iff] at *) <;> first | omega | grind)⟩ ?_
      | refine need_so (by (first | assumption | trivial | (try simp only [eqI_t, eqI_f, leI_t, leI_f, inR_t, inR_f, isSo_t, isSo_f, eqI_d, leI_d, decide_eq_true_eq, decide_eq_false_iff_not, Bool.not_eq_true', Bool.not_eq_false', Bool.false_eq_true, Bool.and_eq_true, Bool.or_eq_true, Bool.not_not, iff_false, false_iff, iff_true, true_iff] at *) <;> first | omega | grind)) ?_
      | refine need_t (by (first | assumption | trivial | (try simp only [eqI_t, eqI_f, leI_t, leI_f, inR_t, inR_f, isSo_t, isSo_f, eqI_d, leI_d, decide_eq_true_eq, decide_eq_false_iff_not, Bool.not_eq_true', Bool.not_eq_false', Bool.false_eq_true, Bool.and_eq_true, Bool.or_eq_true, Bool.not_not, iff_false, false_iff, iff_true, true_iff] at *) <;> first | omega | grind)) ?_)
    all_goals (first | refine leaf_boo ?_ | refine leaf_int ?_)
    all_goals (unfold holdsV; try simp only [eqI_t, eqI_f, leI_t, leI_f, inR_t, inR_f, isSo_t, isSo_f, eqI_d, leI_d, decide_eq_true_eq, decide_eq_false_iff_not, Bool.not_eq_true', Bool.not_eq_false', Bool.false_eq_true, Bool.and_eq_true, Bool.or_eq_true, Bool.not_not, iff_false, false_iff, iff_true, true_iff] at *)
    all_goals (first | omega | grind))
noncomputable abbrev Sy.cHolds : Con Try.prog := int2 117 (fun a b => boo (holdsV a b)) (fun _ _ => trivial) Sy.holds_t
/-sy cmp_t
fun (x y : Int) (d : D) => reckV [] [] 400 30 148 [int x, int y] M0 d
-/
def cmpI (x y : Int) : Int := if x < y then -1 else if y < x then 1 else 0
theorem Sy.cmp_t (x y : Int) : CallTo Try.prog 148 [int x, int y] M0 fun v _ => v = int (cmpI x y) :=
  toV [] [] 400 30 (.br (.br .done .done) (.br .done (.br .done (.br .done .done)))) (.fork (!(eqI x x)) (.fork (!(eqI y y)) (.leaf (int (0 : Int))) (.leaf (int (-1 : Int)))) (.fork (!(eqI y y)) (.leaf (int (1 : Int))) (.fork (!(leI y x)) (.leaf (int (-1 : Int))) (.fork (!(leI x y)) (.leaf (int (1 : Int))) (.leaf (int (0 : Int))))))) (by kernel_rfl) (by
    repeat' (first
      | refine fork_ok (fun _ => ?_) (fun _ => ?_)
      | refine need_so ⟨rfl, by (first | assumption | trivial | (try simp only [eqI_t, eqI_f, leI_t, leI_f, inR_t, inR_f, isSo_t, isSo_f, eqI_d, leI_d, decide_eq_true_eq, decide_eq_false_iff_not, Bool.not_eq_true', Bool.not_eq_false', Bool.false_eq_true, Bool.and_eq_true, Bool.or_eq_true, Bool.not_not, iff_false, false_iff, iff_true, true_iff] at *) <;> first | omega | grind)⟩ ?_
      | refine need_so (by (first | assumption | trivial | (try simp only [eqI_t, eqI_f, leI_t, leI_f, inR_t, inR_f, isSo_t, isSo_f, eqI_d, leI_d, decide_eq_true_eq, decide_eq_false_iff_not, Bool.not_eq_true', Bool.not_eq_false', Bool.false_eq_true, Bool.and_eq_true, Bool.or_eq_true, Bool.not_not, iff_false, false_iff, iff_true, true_iff] at *) <;> first | omega | grind)) ?_
      | refine need_t (by (first | assumption | trivial | (try simp only [eqI_t, eqI_f, leI_t, leI_f, inR_t, inR_f, isSo_t, isSo_f, eqI_d, leI_d, decide_eq_true_eq, decide_eq_false_iff_not, Bool.not_eq_true', Bool.not_eq_false', Bool.false_eq_true, Bool.and_eq_true, Bool.or_eq_true, Bool.not_not, iff_false, false_iff, iff_true, true_iff] at *) <;> first | omega | grind)) ?_)
    all_goals (first | refine leaf_boo ?_ | refine leaf_int ?_)
    all_goals (unfold cmpI; try simp only [eqI_t, eqI_f, leI_t, leI_f, inR_t, inR_f, isSo_t, isSo_f, eqI_d, leI_d, decide_eq_true_eq, decide_eq_false_iff_not, Bool.not_eq_true', Bool.not_eq_false', Bool.false_eq_true, Bool.and_eq_true, Bool.or_eq_true, Bool.not_not, iff_false, false_iff, iff_true, true_iff] at *)
    all_goals (first | omega | grind))
noncomputable abbrev Sy.cCmp : Con Try.prog := int2 148 (fun a b => int (cmpI a b)) (fun _ _ => trivial) Sy.cmp_t

/-- who is asked -/
abbrev Sy.askB (s : ByteArray) (xs : List QNodeV) (ty : Int) (en : ByteArray) (w h : Int) : List AV := [.lit (.string s), qview xs, int ty, .lit (.string en), int w, int h]
abbrev Sy.asker (s : ByteArray) (xs : List QNodeV) (ty : Int) (en : ByteArray) (w h : Int) : AV := .vptr 6 (fun j => (askB s xs ty en w h).getD j (.lit undef))
theorem Sy.asker_free (s : ByteArray) (xs : List QNodeV) (ty : Int) (en : ByteArray) (w h : Int) : Free (asker s xs ty en w h) := fun j => by
  match j with
  | 0 => exact trivial
  | 1 => exact viewOf_free QNodeV.cells QNodeV.zero 9 xs
  | 2 => exact trivial
  | 3 => exact trivial
  | 4 => exact trivial
  | 5 => exact trivial
  | j + 6 => exact trivial
/-sy size_t
fun (s : ByteArray) (xs : List QNodeV) (ty : Int) (en : ByteArray) (w h f : Int) (d : D) => reckV [cHoldP, cPx] [] 400 30 147 [asker s xs ty en w h, int f] M0 d
-/
def sizeI (w h f : Int) : Int := if f = 1 ∨ f = 3 then hold w else hold h
theorem Sy.size_t (s : ByteArray) (xs : List QNodeV) (ty : Int) (en : ByteArray) (w h f : Int) : CallTo Try.prog 147 [asker s xs ty en w h, int f] M0 fun v _ => v = int (sizeI w h f) :=
  toV [cHoldP, cPx] [] 400 30 (.br (.auto 1 (.br .done .done)) (.auto 2 .done)) (.fork (!(eqI f (1 : Int))) (.fork (eqI f (3 : Int)) (.leaf (int (@Pl.hold w))) (.leaf (int (@Pl.hold h)))) (.leaf (int (@Pl.hold w)))) (by kernel_rfl) (by
    repeat' (first
      | refine fork_ok (fun _ => ?_) (fun _ => ?_)
      | refine need_so ⟨rfl, by (first | assumption | trivial | (try simp only [eqI_t, eqI_f, leI_t, leI_f, inR_t, inR_f, isSo_t, isSo_f, eqI_d, leI_d, decide_eq_true_eq, decide_eq_false_iff_not, Bool.not_eq_true', Bool.not_eq_false', Bool.false_eq_true, Bool.and_eq_true, Bool.or_eq_true, Bool.not_not, iff_false, false_iff, iff_true, true_iff] at *) <;> first | omega | grind)⟩ ?_
      | refine need_so (by (first | assumption | trivial | (try simp only [eqI_t, eqI_f, leI_t, leI_f, inR_t, inR_f, isSo_t, isSo_f, eqI_d, leI_d, decide_eq_true_eq, decide_eq_false_iff_not, Bool.not_eq_true', Bool.not_eq_false', Bool.false_eq_true, Bool.and_eq_true, Bool.or_eq_true, Bool.not_not, iff_false, false_iff, iff_true, true_iff] at *) <;> first | omega | grind)) ?_
      | refine need_t (by (first | assumption | trivial | (try simp only [eqI_t, eqI_f, leI_t, leI_f, inR_t, inR_f, isSo_t, isSo_f, eqI_d, leI_d, decide_eq_true_eq, decide_eq_false_iff_not, Bool.not_eq_true', Bool.not_eq_false', Bool.false_eq_true, Bool.and_eq_true, Bool.or_eq_true, Bool.not_not, iff_false, false_iff, iff_true, true_iff] at *) <;> first | omega | grind)) ?_)
    all_goals (first | refine leaf_boo ?_ | refine leaf_int ?_)
    all_goals (unfold sizeI; try simp only [eqI_t, eqI_f, leI_t, leI_f, inR_t, inR_f, isSo_t, isSo_f, eqI_d, leI_d, decide_eq_true_eq, decide_eq_false_iff_not, Bool.not_eq_true', Bool.not_eq_false', Bool.false_eq_true, Bool.and_eq_true, Bool.or_eq_true, Bool.not_not, iff_false, false_iff, iff_true, true_iff] at *)
    all_goals (first | omega | grind))
section
variable (s : ByteArray) (xs : List QNodeV) (ty : Int) (en : ByteArray) (w h : Int)
noncomputable abbrev Sy.cSize : Con Try.prog := atX 147 (fun args => match args with | [_, .lit (.int .i64 f)] => some f | _ => none) (fun f => [asker s xs ty en w h, int f]) (fun f => int (sizeI w h f)) (fun _ => True) fun f _ => ⟨⟨⟨asker_free s xs ty en w h, trivial, trivial⟩, trivial⟩, size_t s xs ty en w h f⟩
end
/-sy compare_t
fun (s : ByteArray) (xs : List QNodeV) (ty : Int) (en : ByteArray) (w h f o n e : Int) (d : D) => reckV [cHoldP, cPx, cCmp, cSize s xs ty en w h] [] 400 30 118 [asker s xs ty en w h, int f, .agg [int o, int n, int e]] M0 d
-/
noncomputable def cmpB (w h f n e : Int) : Int := if f = 5 then cmpI (w64 (hold w * e)) (w64 (n * hold h)) else cmpI (sizeI w h f) (partN n 64 1000)
theorem Sy.compare_t (s : ByteArray) (xs : List QNodeV) (ty : Int) (en : ByteArray) (w h f o n e : Int) : CallTo Try.prog 118 [asker s xs ty en w h, int f, .agg [int o, int n, int e]] M0 fun v _ => v = int (cmpB w h f n e) :=
  toV [cHoldP, cPx, cCmp, cSize s xs ty en w h] [] 400 30 (.br .done (.yes .done)) (.fork (eqI f (5 : Int)) (.leaf (int (@cmpI (w64 ((@Pl.hold w) * e)) (w64 (n * (@Pl.hold h)))))) (.need (@isSo (@And ([(@AV.vptr 6 (fun x658433 => ([(@AV.lit (@Value.string s)), (@qview xs), (int ty), (@AV.lit (@Value.string en)), (int w), (int h)].getD x658433 (@AV.lit (@Value.tuple (@Array.mk _ [])))))), (int f)] = [(@AV.vptr 6 (fun x639756 => ([(@AV.lit (@Value.string s)), (@qview xs), (int ty), (@AV.lit (@Value.string en)), (int w), (int h)].getD x639756 (@AV.lit (@Value.tuple (@Array.mk _ [])))))), (int f)]) True)) (.leaf (int (@cmpI (@sizeI w h f) (@Pl.partN n (64 : Int) (1000 : Int))))))) (by kernel_rfl) (by
    repeat' (first
      | refine fork_ok (fun _ => ?_) (fun _ => ?_)
      | refine need_so ⟨rfl, by (first | assumption | trivial | (try simp only [eqI_t, eqI_f, leI_t, leI_f, inR_t, inR_f, isSo_t, isSo_f, eqI_d, leI_d, decide_eq_true_eq, decide_eq_false_iff_not, Bool.not_eq_true', Bool.not_eq_false', Bool.false_eq_true, Bool.and_eq_true, Bool.or_eq_true, Bool.not_not, iff_false, false_iff, iff_true, true_iff] at *) <;> first | omega | grind)⟩ ?_
      | refine need_so (by (first | assumption | trivial | (try simp only [eqI_t, eqI_f, leI_t, leI_f, inR_t, inR_f, isSo_t, isSo_f, eqI_d, leI_d, decide_eq_true_eq, decide_eq_false_iff_not, Bool.not_eq_true', Bool.not_eq_false', Bool.false_eq_true, Bool.and_eq_true, Bool.or_eq_true, Bool.not_not, iff_false, false_iff, iff_true, true_iff] at *) <;> first | omega | grind)) ?_
      | refine need_t (by (first | assumption | trivial | (try simp only [eqI_t, eqI_f, leI_t, leI_f, inR_t, inR_f, isSo_t, isSo_f, eqI_d, leI_d, decide_eq_true_eq, decide_eq_false_iff_not, Bool.not_eq_true', Bool.not_eq_false', Bool.false_eq_true, Bool.and_eq_true, Bool.or_eq_true, Bool.not_not, iff_false, false_iff, iff_true, true_iff] at *) <;> first | omega | grind)) ?_)
    all_goals (first | refine leaf_boo ?_ | refine leaf_int ?_)
    all_goals (unfold cmpB; try simp only [eqI_t, eqI_f, leI_t, leI_f, inR_t, inR_f, isSo_t, isSo_f, eqI_d, leI_d, decide_eq_true_eq, decide_eq_false_iff_not, Bool.not_eq_true', Bool.not_eq_false', Bool.false_eq_true, Bool.and_eq_true, Bool.or_eq_true, Bool.not_not, iff_false, false_iff, iff_true, true_iff] at *)
    all_goals (first | omega | grind))
/-sy plain_t
fun (s : ByteArray) (xs : List QNodeV) (ty : Int) (en : ByteArray) (w h f : Int) (d : D) => reckV [cHoldP, cPx] [] 400 30 115 [asker s xs ty en w h, int f] M0 d
-/
def plainB (w h f : Int) : Bool := decide (if f = 5 then hold w ≠ 0 ∧ hold h ≠ 0 else f = 6 ∨ sizeI w h f ≠ 0)
theorem Sy.plain_t (s : ByteArray) (xs : List QNodeV) (ty : Int) (en : ByteArray) (w h f : Int) : CallTo Try.prog 115 [asker s xs ty en w h, int f] M0 fun v _ => v = boo (plainB w h f) :=
  toV [cHoldP, cPx] [] 400 30 (.br (.br (.auto 6 .done) (.auto 6 .done)) (.br .done (.br (.auto 1 (.br .done .done)) (.auto 2 .done)))) (.fork (eqI f (5 : Int)) (.fork (!(eqI (@Pl.hold w) (0 : Int))) (.leaf (boo (!(eqI (@Pl.hold h) (0 : Int))))) (.leaf (boo false))) (.fork (eqI f (6 : Int)) (.leaf (boo true)) (.fork (!(eqI f (1 : Int))) (.fork (eqI f (3 : Int)) (.leaf (boo (!(eqI (@Pl.hold w) (0 : Int))))) (.leaf (boo (!(eqI (@Pl.hold h) (0 : Int)))))) (.leaf (boo (!(eqI (@Pl.hold w) (0 : Int)))))))) (by kernel_rfl) (by
    repeat' (first
      | refine fork_ok (fun _ => ?_) (fun _ => ?_)
      | refine need_so ⟨rfl, by (first | assumption | trivial | (try simp only [eqI_t, eqI_f, leI_t, leI_f, inR_t, inR_f, isSo_t, isSo_f, eqI_d, leI_d, decide_eq_true_eq, decide_eq_false_iff_not, Bool.not_eq_true', Bool.not_eq_false', Bool.false_eq_true, Bool.and_eq_true, Bool.or_eq_true, Bool.not_not, iff_false, false_iff, iff_true, true_iff] at *) <;> first | omega | grind)⟩ ?_
      | refine need_so (by (first | assumption | trivial | (try simp only [eqI_t, eqI_f, leI_t, leI_f, inR_t, inR_f, isSo_t, isSo_f, eqI_d, leI_d, decide_eq_true_eq, decide_eq_false_iff_not, Bool.not_eq_true', Bool.not_eq_false', Bool.false_eq_true, Bool.and_eq_true, Bool.or_eq_true, Bool.not_not, iff_false, false_iff, iff_true, true_iff] at *) <;> first | omega | grind)) ?_
      | refine need_t (by (first | assumption | trivial | (try simp only [eqI_t, eqI_f, leI_t, leI_f, inR_t, inR_f, isSo_t, isSo_f, eqI_d, leI_d, decide_eq_true_eq, decide_eq_false_iff_not, Bool.not_eq_true', Bool.not_eq_false', Bool.false_eq_true, Bool.and_eq_true, Bool.or_eq_true, Bool.not_not, iff_false, false_iff, iff_true, true_iff] at *) <;> first | omega | grind)) ?_)
    all_goals (first | refine leaf_boo ?_ | refine leaf_int ?_)
    all_goals (unfold plainB sizeI; try simp only [eqI_t, eqI_f, leI_t, leI_f, inR_t, inR_f, isSo_t, isSo_f, eqI_d, leI_d, decide_eq_true_eq, decide_eq_false_iff_not, Bool.not_eq_true', Bool.not_eq_false', Bool.false_eq_true, Bool.and_eq_true, Bool.or_eq_true, Bool.not_not, iff_false, false_iff, iff_true, true_iff] at *)
    all_goals (first | omega | grind))
/-sy turned_t
fun (s : ByteArray) (xs : List QNodeV) (ty : Int) (en : ByteArray) (w h : Int) (d : D) => reckV [cHoldP, cPx] [] 400 30 116 [asker s xs ty en w h] M0 d
-/
def turnI (w h : Int) : Int := if hold w ≤ hold h then 1 else 2
theorem Sy.turned_t (s : ByteArray) (xs : List QNodeV) (ty : Int) (en : ByteArray) (w h : Int) : CallTo Try.prog 116 [asker s xs ty en w h] M0 fun v _ => v = int (turnI w h) :=
  toV [cHoldP, cPx] [] 400 30 (.br .done .done) (.fork (leI (@Pl.hold w) (@Pl.hold h)) (.leaf (int (1 : Int))) (.leaf (int (2 : Int)))) (by kernel_rfl) (by
    repeat' (first
      | refine fork_ok (fun _ => ?_) (fun _ => ?_)
      | refine need_so ⟨rfl, by (first | assumption | trivial | (try simp only [eqI_t, eqI_f, leI_t, leI_f, inR_t, inR_f, isSo_t, isSo_f, eqI_d, leI_d, decide_eq_true_eq, decide_eq_false_iff_not, Bool.not_eq_true', Bool.not_eq_false', Bool.false_eq_true, Bool.and_eq_true, Bool.or_eq_true, Bool.not_not, iff_false, false_iff, iff_true, true_iff] at *) <;> first | omega | grind)⟩ ?_
      | refine need_so (by (first | assumption | trivial | (try simp only [eqI_t, eqI_f, leI_t, leI_f, inR_t, inR_f, isSo_t, isSo_f, eqI_d, leI_d, decide_eq_true_eq, decide_eq_false_iff_not, Bool.not_eq_true', Bool.not_eq_false', Bool.false_eq_true, Bool.and_eq_true, Bool.or_eq_true, Bool.not_not, iff_false, false_iff, iff_true, true_iff] at *) <;> first | omega | grind)) ?_
      | refine need_t (by (first | assumption | trivial | (try simp only [eqI_t, eqI_f, leI_t, leI_f, inR_t, inR_f, isSo_t, isSo_f, eqI_d, leI_d, decide_eq_true_eq, decide_eq_false_iff_not, Bool.not_eq_true', Bool.not_eq_false', Bool.false_eq_true, Bool.and_eq_true, Bool.or_eq_true, Bool.not_not, iff_false, false_iff, iff_true, true_iff] at *) <;> first | omega | grind)) ?_)
    all_goals (first | refine leaf_boo ?_ | refine leaf_int ?_)
    all_goals (unfold turnI; try simp only [eqI_t, eqI_f, leI_t, leI_f, inR_t, inR_f, isSo_t, isSo_f, eqI_d, leI_d, decide_eq_true_eq, decide_eq_false_iff_not, Bool.not_eq_true', Bool.not_eq_false', Bool.false_eq_true, Bool.and_eq_true, Bool.or_eq_true, Bool.not_not, iff_false, false_iff, iff_true, true_iff] at *)
    all_goals (first | omega | grind))
section
variable (s : ByteArray) (xs : List QNodeV) (ty : Int) (en : ByteArray) (w h : Int)
noncomputable abbrev Sy.cCompare : Con Try.prog := atX 118 (fun args => match args with | [_, .lit (.int .i64 f), .agg [.lit (.int .i64 o), .lit (.int .i64 n), .lit (.int .i64 e)]] => some (f, o, n, e) | _ => none) (fun x => [asker s xs ty en w h, int x.1, .agg [int x.2.1, int x.2.2.1, int x.2.2.2]]) (fun x => int (cmpB w h x.1 x.2.2.1 x.2.2.2)) (fun _ => True) fun x _ => ⟨⟨⟨asker_free s xs ty en w h, trivial, ⟨trivial, trivial, trivial, trivial⟩, trivial⟩, trivial⟩, compare_t s xs ty en w h x.1 x.2.1 x.2.2.1 x.2.2.2⟩
noncomputable abbrev Sy.cPlain : Con Try.prog := atX 115 (fun args => match args with | [_, .lit (.int .i64 f)] => some f | _ => none) (fun f => [asker s xs ty en w h, int f]) (fun f => boo (plainB w h f)) (fun _ => True) fun f _ => ⟨⟨⟨asker_free s xs ty en w h, trivial, trivial⟩, trivial⟩, plain_t s xs ty en w h f⟩
noncomputable abbrev Sy.cTurned : Con Try.prog := at1 116 [asker s xs ty en w h] (int (turnI w h)) True fun _ => ⟨⟨⟨asker_free s xs ty en w h, trivial⟩, trivial⟩, turned_t s xs ty en w h⟩
end
/-sy of_t
fun (b : Bool) (d : D) => reckV [] [] 400 30 114 [boo b] M0 d
-/
def ofB (b : Bool) : Int := match b with | true => 1 | false => 0
theorem Sy.of_t (b : Bool) : CallTo Try.prog 114 [boo b] M0 fun v _ => v = int (ofB b) :=
  toV [] [] 400 30 (.br .done .done) (.fork b (.leaf (int (1 : Int))) (.leaf (int (0 : Int)))) (by kernel_rfl) (fork_ok (fun h => by subst h; rfl) (fun h => by subst h; rfl))
noncomputable abbrev Sy.cOf : Con Try.prog := atX 114 (fun args => match args with | [.lit (.bool b)] => some b | _ => none) (fun b => [boo b]) (fun b => int (ofB b)) (fun _ => True) fun b _ => ⟨⟨⟨trivial, trivial⟩, trivial⟩, of_t b⟩
/-sy feature_t
fun (s : ByteArray) (xs : List QNodeV) (ty : Int) (en : ByteArray) (w h k c f lo ln ld ho hn hd : Int) (d : D) => reckV [cHolds, cOf, cCompare s xs ty en w h, cPlain s xs ty en w h, cTurned s xs ty en w h] [] 400 30 77 [asker s xs ty en w h, qa k c f lo ln ld ho hn hd] M0 d
-/
/-- what a feature says -/
noncomputable def featT (ty w h f lo ln ld ho hn hd : Int) : Int :=
  if ¬ (ty = 2 ∨ (ty = 1 ∧ (f = 1 ∨ f = 3))) then 2 else if ho = 0 then ofB (plainB w h f) else if f = 6 then ofB (decide (turnI w h = hn)) else if 0 < lo then ofB (holdsV (cmpB w h f hn hd) ho && holdsV (-cmpB w h f ln ld) lo) else ofB (holdsV (cmpB w h f hn hd) ho)
theorem cmpB_neg (w h f n e : Int) : IntKind.i64.wrap (0 - cmpB w h f n e) = -cmpB w h f n e := by
  have : -1 ≤ cmpB w h f n e ∧ cmpB w h f n e ≤ 1 := by unfold cmpB cmpI; repeat' split <;> omega
  rw [IntWalk.i64_in _ (by omega)]; omega
theorem Sy.feature_t (s : ByteArray) (xs : List QNodeV) (ty : Int) (en : ByteArray) (w h k c f lo ln ld ho hn hd : Int) : CallTo Try.prog 77 [asker s xs ty en w h, qa k c f lo ln ld ho hn hd] M0 fun v _ => v = int (featT ty w h f lo ln ld ho hn hd) :=
  toV [cHolds, cOf, cCompare s xs ty en w h, cPlain s xs ty en w h, cTurned s xs ty en w h] [] 400 30 (.br (.auto 5 (.br (.auto 1 (.br (.auto 5 (.br .done (.br (.yes (.yes .done)) (.br (.yes (.yes .done)) (.yes (.br (.br (.auto 4 (.yes (.auto 5 (.yes .done)))) (.auto 10 (.yes .done))) (.yes .done))))))) (.auto 6 (.br (.yes (.yes .done)) (.br (.yes (.yes .done)) (.yes (.br (.br (.auto 4 (.yes (.auto 5 (.yes .done)))) (.auto 10 (.yes .done))) (.yes .done)))))))) (.auto 6 .done))) (.auto 12 (.br (.yes (.yes .done)) (.br (.yes (.yes .done)) (.yes (.br (.br (.auto 4 (.yes (.auto 5 (.yes .done)))) (.auto 10 (.yes .done))) (.yes .done))))))) (.fork (!(eqI ty (2 : Int))) (.fork (!(!(eqI ty (1 : Int)))) (.fork (!(eqI f (1 : Int))) (.fork (!(eqI f (3 : Int))) (.leaf (int (2 : Int))) (.fork (eqI ho (0 : Int)) (.need (@isSo (@And ([(@AV.vptr 6 (fun x935297 => ([(@AV.lit (@Value.string s)), (@qview xs), (int ty), (@AV.lit (@Value.string en)), (int w), (int h)].getD x935297 (@AV.lit (@Value.tuple (@Array.mk _ [])))))), (int f)] = [(@AV.vptr 6 (fun x863353 => ([(@AV.lit (@Value.string s)), (@qview xs), (int ty), (@AV.lit (@Value.string en)), (int w), (int h)].getD x863353 (@AV.lit (@Value.tuple (@Array.mk _ [])))))), (int f)]) True)) (.need (@isSo (@And ([(boo (@plainB w h f))] = [(boo (@plainB w h f))]) True)) (.leaf (int (@ofB (@plainB w h f)))))) (.fork (eqI f (6 : Int)) (.need (@isSo (@And ([(@AV.vptr 6 (fun x932970 => ([(@AV.lit (@Value.string s)), (@qview xs), (int ty), (@AV.lit (@Value.string en)), (int w), (int h)].getD x932970 (@AV.lit (@Value.tuple (@Array.mk _ []))))))] = [(@AV.vptr 6 (fun x432934 => ([(@AV.lit (@Value.string s)), (@qview xs), (int ty), (@AV.lit (@Value.string en)), (int w), (int h)].getD x432934 (@AV.lit (@Value.tuple (@Array.mk _ []))))))]) True)) (.need (@isSo (@And ([(boo (eqI (@turnI w h) hn))] = [(boo (eqI (@turnI w h) hn))]) True)) (.leaf (int (@ofB (eqI (@turnI w h) hn)))))) (.need (@isSo (@And ([(@AV.vptr 6 (fun x925381 => ([(@AV.lit (@Value.string s)), (@qview xs), (int ty), (@AV.lit (@Value.string en)), (int w), (int h)].getD x925381 (@AV.lit (@Value.tuple (@Array.mk _ [])))))), (int f), (@AV.agg [(int ho), (int hn), (int hd)])] = [(@AV.vptr 6 (fun x65704 => ([(@AV.lit (@Value.string s)), (@qview xs), (int ty), (@AV.lit (@Value.string en)), (int w), (int h)].getD x65704 (@AV.lit (@Value.tuple (@Array.mk _ [])))))), (int f), (@AV.agg [(int ho), (int hn), (int hd)])]) True)) (.fork (!(leI lo (0 : Int))) (.fork (@holdsV (@cmpB w h f hn hd) ho) (.need (@isSo (@And ([(@AV.vptr 6 (fun x898112 => ([(@AV.lit (@Value.string s)), (@qview xs), (int ty), (@AV.lit (@Value.string en)), (int w), (int h)].getD x898112 (@AV.lit (@Value.tuple (@Array.mk _ [])))))), (int f), (@AV.agg [(int lo), (int ln), (int ld)])] = [(@AV.vptr 6 (fun x738259 => ([(@AV.lit (@Value.string s)), (@qview xs), (int ty), (@AV.lit (@Value.string en)), (int w), (int h)].getD x738259 (@AV.lit (@Value.tuple (@Array.mk _ [])))))), (int f), (@AV.agg [(int lo), (int ln), (int ld)])]) True)) (.need (@isSo (@And ([(boo (@holdsV (IntKind.i64.wrap ((0 : Int) - (@cmpB w h f ln ld))) lo))] = [(boo (@holdsV (IntKind.i64.wrap ((0 : Int) - (@cmpB w h f ln ld))) lo))]) True)) (.leaf (int (@ofB (@holdsV (IntKind.i64.wrap ((0 : Int) - (@cmpB w h f ln ld))) lo)))))) (.need (@isSo (@And ([(boo false)] = [(boo false)]) True)) (.leaf (int (0 : Int))))) (.need (@isSo (@And ([(boo (@holdsV (@cmpB w h f hn hd) ho))] = [(boo (@holdsV (@cmpB w h f hn hd) ho))]) True)) (.leaf (int (@ofB (@holdsV (@cmpB w h f hn hd) ho)))))))))) (.fork (eqI ho (0 : Int)) (.need (@isSo (@And ([(@AV.vptr 6 (fun x203758 => ([(@AV.lit (@Value.string s)), (@qview xs), (int ty), (@AV.lit (@Value.string en)), (int w), (int h)].getD x203758 (@AV.lit (@Value.tuple (@Array.mk _ [])))))), (int f)] = [(@AV.vptr 6 (fun x525154 => ([(@AV.lit (@Value.string s)), (@qview xs), (int ty), (@AV.lit (@Value.string en)), (int w), (int h)].getD x525154 (@AV.lit (@Value.tuple (@Array.mk _ [])))))), (int f)]) True)) (.need (@isSo (@And ([(boo (@plainB w h f))] = [(boo (@plainB w h f))]) True)) (.leaf (int (@ofB (@plainB w h f)))))) (.fork (eqI f (6 : Int)) (.need (@isSo (@And ([(@AV.vptr 6 (fun x880139 => ([(@AV.lit (@Value.string s)), (@qview xs), (int ty), (@AV.lit (@Value.string en)), (int w), (int h)].getD x880139 (@AV.lit (@Value.tuple (@Array.mk _ []))))))] = [(@AV.vptr 6 (fun x318727 => ([(@AV.lit (@Value.string s)), (@qview xs), (int ty), (@AV.lit (@Value.string en)), (int w), (int h)].getD x318727 (@AV.lit (@Value.tuple (@Array.mk _ []))))))]) True)) (.need (@isSo (@And ([(boo (eqI (@turnI w h) hn))] = [(boo (eqI (@turnI w h) hn))]) True)) (.leaf (int (@ofB (eqI (@turnI w h) hn)))))) (.need (@isSo (@And ([(@AV.vptr 6 (fun x920002 => ([(@AV.lit (@Value.string s)), (@qview xs), (int ty), (@AV.lit (@Value.string en)), (int w), (int h)].getD x920002 (@AV.lit (@Value.tuple (@Array.mk _ [])))))), (int f), (@AV.agg [(int ho), (int hn), (int hd)])] = [(@AV.vptr 6 (fun x548553 => ([(@AV.lit (@Value.string s)), (@qview xs), (int ty), (@AV.lit (@Value.string en)), (int w), (int h)].getD x548553 (@AV.lit (@Value.tuple (@Array.mk _ [])))))), (int f), (@AV.agg [(int ho), (int hn), (int hd)])]) True)) (.fork (!(leI lo (0 : Int))) (.fork (@holdsV (@cmpB w h f hn hd) ho) (.need (@isSo (@And ([(@AV.vptr 6 (fun x988553 => ([(@AV.lit (@Value.string s)), (@qview xs), (int ty), (@AV.lit (@Value.string en)), (int w), (int h)].getD x988553 (@AV.lit (@Value.tuple (@Array.mk _ [])))))), (int f), (@AV.agg [(int lo), (int ln), (int ld)])] = [(@AV.vptr 6 (fun x902764 => ([(@AV.lit (@Value.string s)), (@qview xs), (int ty), (@AV.lit (@Value.string en)), (int w), (int h)].getD x902764 (@AV.lit (@Value.tuple (@Array.mk _ [])))))), (int f), (@AV.agg [(int lo), (int ln), (int ld)])]) True)) (.need (@isSo (@And ([(boo (@holdsV (IntKind.i64.wrap ((0 : Int) - (@cmpB w h f ln ld))) lo))] = [(boo (@holdsV (IntKind.i64.wrap ((0 : Int) - (@cmpB w h f ln ld))) lo))]) True)) (.leaf (int (@ofB (@holdsV (IntKind.i64.wrap ((0 : Int) - (@cmpB w h f ln ld))) lo)))))) (.need (@isSo (@And ([(boo false)] = [(boo false)]) True)) (.leaf (int (0 : Int))))) (.need (@isSo (@And ([(boo (@holdsV (@cmpB w h f hn hd) ho))] = [(boo (@holdsV (@cmpB w h f hn hd) ho))]) True)) (.leaf (int (@ofB (@holdsV (@cmpB w h f hn hd) ho)))))))))) (.leaf (int (2 : Int)))) (.fork (eqI ho (0 : Int)) (.need (@isSo (@And ([(@AV.vptr 6 (fun x780871 => ([(@AV.lit (@Value.string s)), (@qview xs), (int ty), (@AV.lit (@Value.string en)), (int w), (int h)].getD x780871 (@AV.lit (@Value.tuple (@Array.mk _ [])))))), (int f)] = [(@AV.vptr 6 (fun x107531 => ([(@AV.lit (@Value.string s)), (@qview xs), (int ty), (@AV.lit (@Value.string en)), (int w), (int h)].getD x107531 (@AV.lit (@Value.tuple (@Array.mk _ [])))))), (int f)]) True)) (.need (@isSo (@And ([(boo (@plainB w h f))] = [(boo (@plainB w h f))]) True)) (.leaf (int (@ofB (@plainB w h f)))))) (.fork (eqI f (6 : Int)) (.need (@isSo (@And ([(@AV.vptr 6 (fun x470968 => ([(@AV.lit (@Value.string s)), (@qview xs), (int ty), (@AV.lit (@Value.string en)), (int w), (int h)].getD x470968 (@AV.lit (@Value.tuple (@Array.mk _ []))))))] = [(@AV.vptr 6 (fun x603632 => ([(@AV.lit (@Value.string s)), (@qview xs), (int ty), (@AV.lit (@Value.string en)), (int w), (int h)].getD x603632 (@AV.lit (@Value.tuple (@Array.mk _ []))))))]) True)) (.need (@isSo (@And ([(boo (eqI (@turnI w h) hn))] = [(boo (eqI (@turnI w h) hn))]) True)) (.leaf (int (@ofB (eqI (@turnI w h) hn)))))) (.need (@isSo (@And ([(@AV.vptr 6 (fun x127827 => ([(@AV.lit (@Value.string s)), (@qview xs), (int ty), (@AV.lit (@Value.string en)), (int w), (int h)].getD x127827 (@AV.lit (@Value.tuple (@Array.mk _ [])))))), (int f), (@AV.agg [(int ho), (int hn), (int hd)])] = [(@AV.vptr 6 (fun x556970 => ([(@AV.lit (@Value.string s)), (@qview xs), (int ty), (@AV.lit (@Value.string en)), (int w), (int h)].getD x556970 (@AV.lit (@Value.tuple (@Array.mk _ [])))))), (int f), (@AV.agg [(int ho), (int hn), (int hd)])]) True)) (.fork (!(leI lo (0 : Int))) (.fork (@holdsV (@cmpB w h f hn hd) ho) (.need (@isSo (@And ([(@AV.vptr 6 (fun x694502 => ([(@AV.lit (@Value.string s)), (@qview xs), (int ty), (@AV.lit (@Value.string en)), (int w), (int h)].getD x694502 (@AV.lit (@Value.tuple (@Array.mk _ [])))))), (int f), (@AV.agg [(int lo), (int ln), (int ld)])] = [(@AV.vptr 6 (fun x677189 => ([(@AV.lit (@Value.string s)), (@qview xs), (int ty), (@AV.lit (@Value.string en)), (int w), (int h)].getD x677189 (@AV.lit (@Value.tuple (@Array.mk _ [])))))), (int f), (@AV.agg [(int lo), (int ln), (int ld)])]) True)) (.need (@isSo (@And ([(boo (@holdsV (IntKind.i64.wrap ((0 : Int) - (@cmpB w h f ln ld))) lo))] = [(boo (@holdsV (IntKind.i64.wrap ((0 : Int) - (@cmpB w h f ln ld))) lo))]) True)) (.leaf (int (@ofB (@holdsV (IntKind.i64.wrap ((0 : Int) - (@cmpB w h f ln ld))) lo)))))) (.need (@isSo (@And ([(boo false)] = [(boo false)]) True)) (.leaf (int (0 : Int))))) (.need (@isSo (@And ([(boo (@holdsV (@cmpB w h f hn hd) ho))] = [(boo (@holdsV (@cmpB w h f hn hd) ho))]) True)) (.leaf (int (@ofB (@holdsV (@cmpB w h f hn hd) ho)))))))))) (by kernel_rfl) (by
    unfold featT
    rw [cmpB_neg, eqI_d (turnI w h) hn]
    generalize holdsV (-cmpB w h f ln ld) lo = A
    generalize holdsV (cmpB w h f hn hd) ho = B
    generalize plainB w h f = P
    generalize decide (turnI w h = hn) = T
    have a2 : ofB (false && A) = 0 := rfl
    cases B
    · simp only [Bool.false_and]
      have z0 : ofB false = 0 := rfl
      exact (by
    repeat' (first
      | refine fork_ok (fun _ => ?_) (fun _ => ?_)
      | refine need_so ⟨rfl, by (first | assumption | trivial | (try simp only [eqI_t, eqI_f, leI_t, leI_f, inR_t, inR_f, isSo_t, isSo_f, eqI_d, leI_d, decide_eq_true_eq, decide_eq_false_iff_not, Bool.not_eq_true', Bool.not_eq_false', Bool.false_eq_true, Bool.and_eq_true, Bool.or_eq_true, Bool.not_not, iff_false, false_iff, iff_true, true_iff] at *) <;> first | omega | grind)⟩ ?_
      | refine need_so (by (first | assumption | trivial | (try simp only [eqI_t, eqI_f, leI_t, leI_f, inR_t, inR_f, isSo_t, isSo_f, eqI_d, leI_d, decide_eq_true_eq, decide_eq_false_iff_not, Bool.not_eq_true', Bool.not_eq_false', Bool.false_eq_true, Bool.and_eq_true, Bool.or_eq_true, Bool.not_not, iff_false, false_iff, iff_true, true_iff] at *) <;> first | omega | grind)) ?_
      | refine need_t (by (first | assumption | trivial | (try simp only [eqI_t, eqI_f, leI_t, leI_f, inR_t, inR_f, isSo_t, isSo_f, eqI_d, leI_d, decide_eq_true_eq, decide_eq_false_iff_not, Bool.not_eq_true', Bool.not_eq_false', Bool.false_eq_true, Bool.and_eq_true, Bool.or_eq_true, Bool.not_not, iff_false, false_iff, iff_true, true_iff] at *) <;> first | omega | grind)) ?_)
    all_goals (first | refine leaf_boo ?_ | refine leaf_int ?_)
    all_goals (try simp only [eqI_t, eqI_f, leI_t, leI_f, inR_t, inR_f, isSo_t, isSo_f, eqI_d, leI_d, decide_eq_true_eq, decide_eq_false_iff_not, Bool.not_eq_true', Bool.not_eq_false', Bool.false_eq_true, Bool.and_eq_true, Bool.or_eq_true, Bool.not_not, iff_false, false_iff, iff_true, true_iff] at *)
    all_goals (first | omega | grind))
    · simp only [Bool.true_and]
      exact (by
    repeat' (first
      | refine fork_ok (fun _ => ?_) (fun _ => ?_)
      | refine need_so ⟨rfl, by (first | assumption | trivial | (try simp only [eqI_t, eqI_f, leI_t, leI_f, inR_t, inR_f, isSo_t, isSo_f, eqI_d, leI_d, decide_eq_true_eq, decide_eq_false_iff_not, Bool.not_eq_true', Bool.not_eq_false', Bool.false_eq_true, Bool.and_eq_true, Bool.or_eq_true, Bool.not_not, iff_false, false_iff, iff_true, true_iff] at *) <;> first | omega | grind)⟩ ?_
      | refine need_so (by (first | assumption | trivial | (try simp only [eqI_t, eqI_f, leI_t, leI_f, inR_t, inR_f, isSo_t, isSo_f, eqI_d, leI_d, decide_eq_true_eq, decide_eq_false_iff_not, Bool.not_eq_true', Bool.not_eq_false', Bool.false_eq_true, Bool.and_eq_true, Bool.or_eq_true, Bool.not_not, iff_false, false_iff, iff_true, true_iff] at *) <;> first | omega | grind)) ?_
      | refine need_t (by (first | assumption | trivial | (try simp only [eqI_t, eqI_f, leI_t, leI_f, inR_t, inR_f, isSo_t, isSo_f, eqI_d, leI_d, decide_eq_true_eq, decide_eq_false_iff_not, Bool.not_eq_true', Bool.not_eq_false', Bool.false_eq_true, Bool.and_eq_true, Bool.or_eq_true, Bool.not_not, iff_false, false_iff, iff_true, true_iff] at *) <;> first | omega | grind)) ?_)
    all_goals (first | refine leaf_boo ?_ | refine leaf_int ?_)
    all_goals (try simp only [eqI_t, eqI_f, leI_t, leI_f, inR_t, inR_f, isSo_t, isSo_f, eqI_d, leI_d, decide_eq_true_eq, decide_eq_false_iff_not, Bool.not_eq_true', Bool.not_eq_false', Bool.false_eq_true, Bool.and_eq_true, Bool.or_eq_true, Bool.not_not, iff_false, false_iff, iff_true, true_iff] at *)
    all_goals (first | omega | grind)))
end Go.Proofs.Ytjljlcflmcjapaa
