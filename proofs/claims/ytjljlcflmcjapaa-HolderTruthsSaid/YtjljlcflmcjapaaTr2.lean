/-
  Truths of one feature: the reference's.
-/
import Derived.Test.YtjljlcflmcjapaaTr1
namespace Go.Proofs.Ytjljlcflmcjapaa
open Go Go.RowKit Pl Sy
set_option linter.unusedVariables false
set_option linter.unusedSimpArgs false

/-sy holds_r
fun (a op b : Int) (d : D) => reckV [] [] 400 30 121 [int a, int op, int b] M0 d
-/
def holdsR (a op b : Int) : Bool := decide (if op = 1 then a < b else if op = 2 then a ≤ b else if op = 3 then a = b else if op = 4 then b ≤ a else b < a)
theorem Sy.holds_r (a op b : Int) : CallTo Try.prog 121 [int a, int op, int b] M0 fun v _ => v = boo (holdsR a op b) :=
  toV [] [] 400 30 (.br .done (.br .done (.br .done (.br .done .done)))) (.fork (eqI op (1 : Int)) (.leaf (boo (!(leI b a)))) (.fork (eqI op (2 : Int)) (.leaf (boo (leI a b))) (.fork (eqI op (3 : Int)) (.leaf (boo (eqI a b))) (.fork (eqI op (4 : Int)) (.leaf (boo (leI b a))) (.leaf (boo (!(leI a b)))))))) (by kernel_rfl) (by
    repeat' (first
      | refine fork_ok (fun _ => ?_) (fun _ => ?_)
      | refine need_so ⟨rfl, by (first | assumption | trivial | (try simp only [eqI_t, eqI_f, leI_t, leI_f, inR_t, inR_f, isSo_t, isSo_f, eqI_d, leI_d, decide_eq_true_eq, decide_eq_false_iff_not, Bool.not_eq_true', Bool.not_eq_false', Bool.false_eq_true, Bool.and_eq_true, Bool.or_eq_true, Bool.not_not, iff_false, false_iff, iff_true, true_iff] at *) <;> first | omega | grind)⟩ ?_
      | refine need_so (by (first | assumption | trivial | (try simp only [eqI_t, eqI_f, leI_t, leI_f, inR_t, inR_f, isSo_t, isSo_f, eqI_d, leI_d, decide_eq_true_eq, decide_eq_false_iff_not, Bool.not_eq_true', Bool.not_eq_false', Bool.false_eq_true, Bool.and_eq_true, Bool.or_eq_true, Bool.not_not, iff_false, false_iff, iff_true, true_iff] at *) <;> first | omega | grind)) ?_
      | refine need_t (by (first | assumption | trivial | (try simp only [eqI_t, eqI_f, leI_t, leI_f, inR_t, inR_f, isSo_t, isSo_f, eqI_d, leI_d, decide_eq_true_eq, decide_eq_false_iff_not, Bool.not_eq_true', Bool.not_eq_false', Bool.false_eq_true, Bool.and_eq_true, Bool.or_eq_true, Bool.not_not, iff_false, false_iff, iff_true, true_iff] at *) <;> first | omega | grind)) ?_)
    all_goals (first | refine leaf_boo ?_ | refine leaf_int ?_)
    all_goals (unfold holdsR; try simp only [eqI_t, eqI_f, leI_t, leI_f, inR_t, inR_f, isSo_t, isSo_f, eqI_d, leI_d, decide_eq_true_eq, decide_eq_false_iff_not, Bool.not_eq_true', Bool.not_eq_false', Bool.false_eq_true, Bool.and_eq_true, Bool.or_eq_true, Bool.not_not, iff_false, false_iff, iff_true, true_iff] at *)
    all_goals (first | omega | grind))
noncomputable abbrev Sy.cHoldsR : Con Try.prog := int3 121 (fun a b c => boo (holdsR a b c)) (fun _ _ _ => trivial) Sy.holds_r
abbrev Sy.ext (ty : Int) (en : ByteArray) (w h : Int) : AV := .agg [int ty, .lit (.string en), int w, int h]
/-sy sides_r
fun (f o n e ty : Int) (en : ByteArray) (w h : Int) (d : D) => reckV [cHoldR, cPartR] [] 400 30 120 [int f, .agg [int o, int n, int e], ext ty en w h] M0 d
-/
/-sy plain_r
fun (f ty : Int) (en : ByteArray) (w h : Int) (d : D) => reckV [cHoldR, cPartR] [] 400 30 119 [int f, ext ty en w h] M0 d
-/
theorem leaf_tup2 {a b x y : Int} (h1 : a = x) (h2 : b = y) : (Tr.leaf (AV.tup [int a, int b])).Ok fun v => v = AV.tup [int x, int y] := by rw [h1, h2]; exact rfl
noncomputable def sideA (w h f e : Int) : Int := if f = 5 then w64 (hold w * e) else if f = 6 then turnI w h else if f = 1 ∨ f = 3 then hold w else hold h
noncomputable def sideB (h f n : Int) : Int := if f = 5 then w64 (n * hold h) else if f = 6 then n else partN n 64 1000
theorem Sy.sides_r (f o n e ty : Int) (en : ByteArray) (w h : Int) : CallTo Try.prog 120 [int f, .agg [int o, int n, int e], ext ty en w h] M0 fun v _ => v = .tup [int (sideA w h f e), int (sideB h f n)] :=
  toV [cHoldR, cPartR] [] 400 30 (.br .done (.br (.br .done .done) (.br (.auto 1 (.br .done .done)) (.auto 2 .done)))) (.fork (eqI f (5 : Int)) (.leaf (@AV.tup [(int (w64 ((@Pl.hold w) * e))), (int (w64 (n * (@Pl.hold h))))])) (.fork (eqI f (6 : Int)) (.fork (leI (@Pl.hold w) (@Pl.hold h)) (.leaf (@AV.tup [(int (1 : Int)), (int n)])) (.leaf (@AV.tup [(int (2 : Int)), (int n)]))) (.fork (!(eqI f (1 : Int))) (.fork (eqI f (3 : Int)) (.leaf (@AV.tup [(int (@Pl.hold w)), (int (@Pl.partN n (64 : Int) (1000 : Int)))])) (.leaf (@AV.tup [(int (@Pl.hold h)), (int (@Pl.partN n (64 : Int) (1000 : Int)))]))) (.leaf (@AV.tup [(int (@Pl.hold w)), (int (@Pl.partN n (64 : Int) (1000 : Int)))]))))) (by kernel_rfl) (by
    unfold sideA sideB turnI
    repeat' (first
      | refine fork_ok (fun _ => ?_) (fun _ => ?_)
      | refine leaf_tup2 ?_ ?_)
    all_goals (simp only [eqI_t, eqI_f, leI_t, leI_f, Bool.not_eq_true', Bool.not_eq_false'] at *; grind))
def plainR (w h f : Int) : Bool := decide (if f = 1 ∨ f = 3 then hold w ≠ 0 else if f = 2 ∨ f = 4 then hold h ≠ 0 else if f = 5 then hold w ≠ 0 ∧ hold h ≠ 0 else True)
theorem Sy.plain_r (f ty : Int) (en : ByteArray) (w h : Int) : CallTo Try.prog 119 [int f, ext ty en w h] M0 fun v _ => v = boo (plainR w h f) :=
  toV [cHoldR, cPartR] [] 400 30 (.br (.auto 0 .done) (.br .done (.br (.auto 0 .done) (.br .done (.br (.br (.auto 1 .done) (.auto 1 .done)) .done))))) (.fork (eqI f (1 : Int)) (.leaf (boo (!(eqI (@Pl.hold w) (0 : Int))))) (.fork (eqI f (3 : Int)) (.leaf (boo (!(eqI (@Pl.hold w) (0 : Int))))) (.fork (eqI f (2 : Int)) (.leaf (boo (!(eqI (@Pl.hold h) (0 : Int))))) (.fork (eqI f (4 : Int)) (.leaf (boo (!(eqI (@Pl.hold h) (0 : Int))))) (.fork (eqI f (5 : Int)) (.fork (!(eqI (@Pl.hold w) (0 : Int))) (.leaf (boo (!(eqI (@Pl.hold h) (0 : Int))))) (.leaf (boo false))) (.leaf (boo true))))))) (by kernel_rfl) (by
    repeat' (first
      | refine fork_ok (fun _ => ?_) (fun _ => ?_)
      | refine need_so ⟨rfl, by (first | assumption | trivial | (try simp only [eqI_t, eqI_f, leI_t, leI_f, inR_t, inR_f, isSo_t, isSo_f, eqI_d, leI_d, decide_eq_true_eq, decide_eq_false_iff_not, Bool.not_eq_true', Bool.not_eq_false', Bool.false_eq_true, Bool.and_eq_true, Bool.or_eq_true, Bool.not_not, iff_false, false_iff, iff_true, true_iff] at *) <;> first | omega | grind)⟩ ?_
      | refine need_so (by (first | assumption | trivial | (try simp only [eqI_t, eqI_f, leI_t, leI_f, inR_t, inR_f, isSo_t, isSo_f, eqI_d, leI_d, decide_eq_true_eq, decide_eq_false_iff_not, Bool.not_eq_true', Bool.not_eq_false', Bool.false_eq_true, Bool.and_eq_true, Bool.or_eq_true, Bool.not_not, iff_false, false_iff, iff_true, true_iff] at *) <;> first | omega | grind)) ?_
      | refine need_t (by (first | assumption | trivial | (try simp only [eqI_t, eqI_f, leI_t, leI_f, inR_t, inR_f, isSo_t, isSo_f, eqI_d, leI_d, decide_eq_true_eq, decide_eq_false_iff_not, Bool.not_eq_true', Bool.not_eq_false', Bool.false_eq_true, Bool.and_eq_true, Bool.or_eq_true, Bool.not_not, iff_false, false_iff, iff_true, true_iff] at *) <;> first | omega | grind)) ?_)
    all_goals (first | refine leaf_boo ?_ | refine leaf_int ?_)
    all_goals (unfold plainR; try simp only [eqI_t, eqI_f, leI_t, leI_f, inR_t, inR_f, isSo_t, isSo_f, eqI_d, leI_d, decide_eq_true_eq, decide_eq_false_iff_not, Bool.not_eq_true', Bool.not_eq_false', Bool.false_eq_true, Bool.and_eq_true, Bool.or_eq_true, Bool.not_not, iff_false, false_iff, iff_true, true_iff] at *)
    all_goals (first | omega | grind))
section
variable (ty : Int) (en : ByteArray) (w h : Int)
noncomputable abbrev Sy.cSides : Con Try.prog := atX 120 (fun args => match args with | [.lit (.int .i64 f), .agg [.lit (.int .i64 o), .lit (.int .i64 n), .lit (.int .i64 e)], _] => some (f, o, n, e) | _ => none) (fun x => [int x.1, .agg [int x.2.1, int x.2.2.1, int x.2.2.2], ext ty en w h]) (fun x => .tup [int (sideA w h x.1 x.2.2.2), int (sideB h x.1 x.2.2.1)]) (fun _ => True) fun x _ => ⟨⟨⟨trivial, ⟨trivial, trivial, trivial, trivial⟩, ⟨trivial, trivial, trivial, trivial, trivial⟩, trivial⟩, trivial, trivial, trivial⟩, sides_r x.1 x.2.1 x.2.2.1 x.2.2.2 ty en w h⟩
noncomputable abbrev Sy.cPlainR : Con Try.prog := atX 119 (fun args => match args with | [.lit (.int .i64 f), _] => some f | _ => none) (fun f => [int f, ext ty en w h]) (fun f => boo (plainR w h f)) (fun _ => True) fun f _ => ⟨⟨⟨trivial, ⟨trivial, trivial, trivial, trivial, trivial⟩, trivial⟩, trivial⟩, plain_r f ty en w h⟩
end
/-sy feat_r
fun (k c f lo ln ld ho hn hd ty : Int) (en : ByteArray) (w h : Int) (d : D) => reckV [cHoldsR, cSides ty en w h, cPlainR ty en w h] [] 400 30 78 [qa k c f lo ln ld ho hn hd, ext ty en w h] M0 d
-/
noncomputable def featR (ty w h f lo ln ld ho hn hd : Int) : Int :=
  if ¬ (ty = 2 ∨ (ty = 1 ∧ (f = 1 ∨ f = 3))) then 2 else if ho = 0 then (if 0 < lo then ofB (plainR w h f && holdsR (sideB h f ln) lo (sideA w h f ld)) else ofB (plainR w h f)) else if 0 < lo then ofB (holdsR (sideA w h f hd) ho (sideB h f hn) && holdsR (sideB h f ln) lo (sideA w h f ld)) else ofB (holdsR (sideA w h f hd) ho (sideB h f hn))
theorem Sy.feat_r (k c f lo ln ld ho hn hd ty : Int) (en : ByteArray) (w h : Int) : CallTo Try.prog 78 [qa k c f lo ln ld ho hn hd, ext ty en w h] M0 fun v _ => v = int (featR ty w h f lo ln ld ho hn hd) :=
  toV [cHoldsR, cSides ty en w h, cPlainR ty en w h] [] 400 30 (.br (.auto 2 (.br (.auto 2 (.br (.auto 3 (.br .done (.br (.yes (.br (.yes (.br (.auto 5 (.br .done .done)) (.auto 6 .done))) (.br .done .done))) (.yes (.br (.yes (.br (.auto 5 (.br .done .done)) (.auto 6 .done))) (.br .done .done)))))) (.auto 4 .done))) (.auto 7 (.br (.yes (.br (.yes (.br (.auto 5 (.br .done .done)) (.auto 6 .done))) (.br .done .done))) (.yes (.br (.yes (.br (.auto 5 (.br .done .done)) (.auto 6 .done))) (.br .done .done))))))) (.auto 2 (.br (.auto 2 (.br (.auto 4 (.br (.yes (.br (.yes (.br (.auto 5 (.br .done .done)) (.auto 6 .done))) (.br .done .done))) (.yes (.br (.yes (.br (.auto 5 (.br .done .done)) (.auto 6 .done))) (.br .done .done))))) (.auto 4 .done))) (.auto 7 (.br (.yes (.br (.yes (.br (.auto 5 (.br .done .done)) (.auto 6 .done))) (.br .done .done))) (.yes (.br (.yes (.br (.auto 5 (.br .done .done)) (.auto 6 .done))) (.br .done .done)))))))) (.fork (!(eqI f (1 : Int))) (.fork (!(eqI ty (2 : Int))) (.fork (eqI ty (1 : Int)) (.fork (!(eqI f (3 : Int))) (.leaf (int (2 : Int))) (.fork (eqI ho (0 : Int)) (.need (@isSo (@And ([(int f), (@AV.agg [(int ty), (@AV.lit (@Value.string en)), (int w), (int h)])] = [(int f), (@AV.agg [(int ty), (@AV.lit (@Value.string en)), (int w), (int h)])]) True)) (.fork (!(leI lo (0 : Int))) (.need (@isSo (@And ([(int f), (@AV.agg [(int lo), (int ln), (int ld)]), (@AV.agg [(int ty), (@AV.lit (@Value.string en)), (int w), (int h)])] = [(int f), (@AV.agg [(int lo), (int ln), (int ld)]), (@AV.agg [(int ty), (@AV.lit (@Value.string en)), (int w), (int h)])]) True)) (.fork (@plainR w h f) (.fork (@holdsR (@sideB h f ln) lo (@sideA w h f ld)) (.leaf (int (1 : Int))) (.leaf (int (0 : Int)))) (.leaf (int (0 : Int))))) (.fork (@plainR w h f) (.leaf (int (1 : Int))) (.leaf (int (0 : Int)))))) (.need (@isSo (@And ([(int f), (@AV.agg [(int ho), (int hn), (int hd)]), (@AV.agg [(int ty), (@AV.lit (@Value.string en)), (int w), (int h)])] = [(int f), (@AV.agg [(int ho), (int hn), (int hd)]), (@AV.agg [(int ty), (@AV.lit (@Value.string en)), (int w), (int h)])]) True)) (.fork (!(leI lo (0 : Int))) (.need (@isSo (@And ([(int f), (@AV.agg [(int lo), (int ln), (int ld)]), (@AV.agg [(int ty), (@AV.lit (@Value.string en)), (int w), (int h)])] = [(int f), (@AV.agg [(int lo), (int ln), (int ld)]), (@AV.agg [(int ty), (@AV.lit (@Value.string en)), (int w), (int h)])]) True)) (.fork (@holdsR (@sideA w h f hd) ho (@sideB h f hn)) (.fork (@holdsR (@sideB h f ln) lo (@sideA w h f ld)) (.leaf (int (1 : Int))) (.leaf (int (0 : Int)))) (.leaf (int (0 : Int))))) (.fork (@holdsR (@sideA w h f hd) ho (@sideB h f hn)) (.leaf (int (1 : Int))) (.leaf (int (0 : Int)))))))) (.leaf (int (2 : Int)))) (.fork (eqI ho (0 : Int)) (.need (@isSo (@And ([(int f), (@AV.agg [(int ty), (@AV.lit (@Value.string en)), (int w), (int h)])] = [(int f), (@AV.agg [(int ty), (@AV.lit (@Value.string en)), (int w), (int h)])]) True)) (.fork (!(leI lo (0 : Int))) (.need (@isSo (@And ([(int f), (@AV.agg [(int lo), (int ln), (int ld)]), (@AV.agg [(int ty), (@AV.lit (@Value.string en)), (int w), (int h)])] = [(int f), (@AV.agg [(int lo), (int ln), (int ld)]), (@AV.agg [(int ty), (@AV.lit (@Value.string en)), (int w), (int h)])]) True)) (.fork (@plainR w h f) (.fork (@holdsR (@sideB h f ln) lo (@sideA w h f ld)) (.leaf (int (1 : Int))) (.leaf (int (0 : Int)))) (.leaf (int (0 : Int))))) (.fork (@plainR w h f) (.leaf (int (1 : Int))) (.leaf (int (0 : Int)))))) (.need (@isSo (@And ([(int f), (@AV.agg [(int ho), (int hn), (int hd)]), (@AV.agg [(int ty), (@AV.lit (@Value.string en)), (int w), (int h)])] = [(int f), (@AV.agg [(int ho), (int hn), (int hd)]), (@AV.agg [(int ty), (@AV.lit (@Value.string en)), (int w), (int h)])]) True)) (.fork (!(leI lo (0 : Int))) (.need (@isSo (@And ([(int f), (@AV.agg [(int lo), (int ln), (int ld)]), (@AV.agg [(int ty), (@AV.lit (@Value.string en)), (int w), (int h)])] = [(int f), (@AV.agg [(int lo), (int ln), (int ld)]), (@AV.agg [(int ty), (@AV.lit (@Value.string en)), (int w), (int h)])]) True)) (.fork (@holdsR (@sideA w h f hd) ho (@sideB h f hn)) (.fork (@holdsR (@sideB h f ln) lo (@sideA w h f ld)) (.leaf (int (1 : Int))) (.leaf (int (0 : Int)))) (.leaf (int (0 : Int))))) (.fork (@holdsR (@sideA w h f hd) ho (@sideB h f hn)) (.leaf (int (1 : Int))) (.leaf (int (0 : Int)))))))) (.fork (!(eqI ty (2 : Int))) (.fork (eqI ty (1 : Int)) (.fork (eqI ho (0 : Int)) (.need (@isSo (@And ([(int f), (@AV.agg [(int ty), (@AV.lit (@Value.string en)), (int w), (int h)])] = [(int f), (@AV.agg [(int ty), (@AV.lit (@Value.string en)), (int w), (int h)])]) True)) (.fork (!(leI lo (0 : Int))) (.need (@isSo (@And ([(int f), (@AV.agg [(int lo), (int ln), (int ld)]), (@AV.agg [(int ty), (@AV.lit (@Value.string en)), (int w), (int h)])] = [(int f), (@AV.agg [(int lo), (int ln), (int ld)]), (@AV.agg [(int ty), (@AV.lit (@Value.string en)), (int w), (int h)])]) True)) (.fork (@plainR w h f) (.fork (@holdsR (@sideB h f ln) lo (@sideA w h f ld)) (.leaf (int (1 : Int))) (.leaf (int (0 : Int)))) (.leaf (int (0 : Int))))) (.fork (@plainR w h f) (.leaf (int (1 : Int))) (.leaf (int (0 : Int)))))) (.need (@isSo (@And ([(int f), (@AV.agg [(int ho), (int hn), (int hd)]), (@AV.agg [(int ty), (@AV.lit (@Value.string en)), (int w), (int h)])] = [(int f), (@AV.agg [(int ho), (int hn), (int hd)]), (@AV.agg [(int ty), (@AV.lit (@Value.string en)), (int w), (int h)])]) True)) (.fork (!(leI lo (0 : Int))) (.need (@isSo (@And ([(int f), (@AV.agg [(int lo), (int ln), (int ld)]), (@AV.agg [(int ty), (@AV.lit (@Value.string en)), (int w), (int h)])] = [(int f), (@AV.agg [(int lo), (int ln), (int ld)]), (@AV.agg [(int ty), (@AV.lit (@Value.string en)), (int w), (int h)])]) True)) (.fork (@holdsR (@sideA w h f hd) ho (@sideB h f hn)) (.fork (@holdsR (@sideB h f ln) lo (@sideA w h f ld)) (.leaf (int (1 : Int))) (.leaf (int (0 : Int)))) (.leaf (int (0 : Int))))) (.fork (@holdsR (@sideA w h f hd) ho (@sideB h f hn)) (.leaf (int (1 : Int))) (.leaf (int (0 : Int))))))) (.leaf (int (2 : Int)))) (.fork (eqI ho (0 : Int)) (.need (@isSo (@And ([(int f), (@AV.agg [(int ty), (@AV.lit (@Value.string en)), (int w), (int h)])] = [(int f), (@AV.agg [(int ty), (@AV.lit (@Value.string en)), (int w), (int h)])]) True)) (.fork (!(leI lo (0 : Int))) (.need (@isSo (@And ([(int f), (@AV.agg [(int lo), (int ln), (int ld)]), (@AV.agg [(int ty), (@AV.lit (@Value.string en)), (int w), (int h)])] = [(int f), (@AV.agg [(int lo), (int ln), (int ld)]), (@AV.agg [(int ty), (@AV.lit (@Value.string en)), (int w), (int h)])]) True)) (.fork (@plainR w h f) (.fork (@holdsR (@sideB h f ln) lo (@sideA w h f ld)) (.leaf (int (1 : Int))) (.leaf (int (0 : Int)))) (.leaf (int (0 : Int))))) (.fork (@plainR w h f) (.leaf (int (1 : Int))) (.leaf (int (0 : Int)))))) (.need (@isSo (@And ([(int f), (@AV.agg [(int ho), (int hn), (int hd)]), (@AV.agg [(int ty), (@AV.lit (@Value.string en)), (int w), (int h)])] = [(int f), (@AV.agg [(int ho), (int hn), (int hd)]), (@AV.agg [(int ty), (@AV.lit (@Value.string en)), (int w), (int h)])]) True)) (.fork (!(leI lo (0 : Int))) (.need (@isSo (@And ([(int f), (@AV.agg [(int lo), (int ln), (int ld)]), (@AV.agg [(int ty), (@AV.lit (@Value.string en)), (int w), (int h)])] = [(int f), (@AV.agg [(int lo), (int ln), (int ld)]), (@AV.agg [(int ty), (@AV.lit (@Value.string en)), (int w), (int h)])]) True)) (.fork (@holdsR (@sideA w h f hd) ho (@sideB h f hn)) (.fork (@holdsR (@sideB h f ln) lo (@sideA w h f ld)) (.leaf (int (1 : Int))) (.leaf (int (0 : Int)))) (.leaf (int (0 : Int))))) (.fork (@holdsR (@sideA w h f hd) ho (@sideB h f hn)) (.leaf (int (1 : Int))) (.leaf (int (0 : Int))))))))) (by kernel_rfl) (by
    unfold featR
    generalize plainR w h f = P
    generalize holdsR (sideB h f ln) lo (sideA w h f ld) = A
    generalize holdsR (sideA w h f hd) ho (sideB h f hn) = B
    have e1 : ofB true = 1 := rfl
    have e0 : ofB false = 0 := rfl
    cases P <;> cases A <;> cases B
    all_goals
      simp only [Bool.and_true, Bool.and_false, Bool.true_and, Bool.false_and, e0, e1]
      exact (by
    repeat' (first
      | refine fork_ok (fun _ => ?_) (fun _ => ?_)
      | refine need_so ⟨rfl, by (first | assumption | trivial | (try simp only [eqI_t, eqI_f, leI_t, leI_f, inR_t, inR_f, isSo_t, isSo_f, eqI_d, leI_d, decide_eq_true_eq, decide_eq_false_iff_not, Bool.not_eq_true', Bool.not_eq_false', Bool.false_eq_true, Bool.and_eq_true, Bool.or_eq_true, Bool.not_not, iff_false, false_iff, iff_true, true_iff] at *) <;> first | omega | grind)⟩ ?_
      | refine need_so (by (first | assumption | trivial | (try simp only [eqI_t, eqI_f, leI_t, leI_f, inR_t, inR_f, isSo_t, isSo_f, eqI_d, leI_d, decide_eq_true_eq, decide_eq_false_iff_not, Bool.not_eq_true', Bool.not_eq_false', Bool.false_eq_true, Bool.and_eq_true, Bool.or_eq_true, Bool.not_not, iff_false, false_iff, iff_true, true_iff] at *) <;> first | omega | grind)) ?_
      | refine need_t (by (first | assumption | trivial | (try simp only [eqI_t, eqI_f, leI_t, leI_f, inR_t, inR_f, isSo_t, isSo_f, eqI_d, leI_d, decide_eq_true_eq, decide_eq_false_iff_not, Bool.not_eq_true', Bool.not_eq_false', Bool.false_eq_true, Bool.and_eq_true, Bool.or_eq_true, Bool.not_not, iff_false, false_iff, iff_true, true_iff] at *) <;> first | omega | grind)) ?_)
    all_goals (first | refine leaf_boo ?_ | refine leaf_int ?_)
    all_goals (try simp only [eqI_t, eqI_f, leI_t, leI_f, inR_t, inR_f, isSo_t, isSo_f, eqI_d, leI_d, decide_eq_true_eq, decide_eq_false_iff_not, Bool.not_eq_true', Bool.not_eq_false', Bool.false_eq_true, Bool.and_eq_true, Bool.or_eq_true, Bool.not_not, iff_false, false_iff, iff_true, true_iff] at *)
    all_goals (first | omega | grind)))
theorem holdsV_cmp {x y op : Int} (h : 1 ≤ op ∧ op ≤ 5) : holdsV (cmpI x y) op = holdsR x op y := by
  unfold holdsV holdsR cmpI
  rw [Bool.eq_iff_iff]
  simp only [decide_eq_true_eq]
  rcases (show op = 1 ∨ op = 2 ∨ op = 3 ∨ op = 4 ∨ op = 5 by omega) with rfl | rfl | rfl | rfl | rfl
  all_goals
    simp
    repeat' split
    all_goals omega
theorem holdsV_neg {x y op : Int} (h : 1 ≤ op ∧ op ≤ 5) : holdsV (-cmpI x y) op = holdsR y op x := by
  unfold holdsV holdsR cmpI
  rw [Bool.eq_iff_iff]
  simp only [decide_eq_true_eq]
  rcases (show op = 1 ∨ op = 2 ∨ op = 3 ∨ op = 4 ∨ op = 5 by omega) with rfl | rfl | rfl | rfl | rfl
  all_goals
    simp
    repeat' split
    all_goals omega
/-- of a feature that may be both say the same -/
theorem featR_eq (ty w h f lo ln ld ho hn hd : Int) (hf : 1 ≤ f ∧ f ≤ 6) (hr : fitsV f lo ln ld ho hn hd = true) : featR ty w h f lo ln ld ho hn hd = featT ty w h f lo ln ld ho hn hd := by
  unfold fitsV at hr
  simp only [decide_eq_true_eq] at hr
  unfold featR featT
  split
  · rfl
  · have hp : plainR w h f = plainB w h f := by
      unfold plainR plainB sizeI
      rw [Bool.eq_iff_iff]
      simp only [decide_eq_true_eq]
      rcases (show f = 1 ∨ f = 2 ∨ f = 3 ∨ f = 4 ∨ f = 5 ∨ f = 6 by omega) with rfl | rfl | rfl | rfl | rfl | rfl <;> simp
    rcases hr with ⟨rfl, rfl, rfl, rfl, rfl, rfl⟩ | ⟨h1, h2, h3, h4, h5⟩
    · rw [if_pos rfl, if_pos rfl, if_neg (by omega), hp]
    · rw [if_neg (show ¬ ho = 0 by omega), if_neg (show ¬ ho = 0 by omega)]
      have hv : ∀ n e, f ≠ 6 → cmpB w h f n e = cmpI (sideA w h f e) (sideB h f n) := fun n e h6 => by
        unfold cmpB sideA sideB sizeI
        by_cases h5 : f = 5
        · rw [if_pos h5, if_pos h5, if_pos h5]
        · rw [if_neg h5, if_neg h5, if_neg h6, if_neg h5, if_neg h6]
      by_cases h6 : f = 6
      · rw [if_pos h6]
        subst h6
        unfold valOk at h4
        simp only [decide_eq_true_eq] at h4
        rw [if_neg (by omega)]
        have e1 : ho = 3 := by omega
        subst e1
        unfold holdsR sideA sideB
        simp
      · rw [if_neg h6]
        split
        · rename_i hlo
          rw [hv _ _ h6, hv _ _ h6, holdsV_cmp (by omega), holdsV_neg (by omega)]
        · rw [hv _ _ h6, holdsV_cmp (by omega)]
/-- what a node says that is a feature -/
noncomputable def phi (ty w h : Int) (n : QNodeV) : Int := featT ty w h n.feat n.lo n.ln n.ld n.ho n.hn n.hd
theorem ofB_tru (b : Bool) : Tru (ofB b) := by cases b <;> simp [ofB, Tru]
theorem phi_tru (ty w h : Int) (n : QNodeV) : Tru (phi ty w h n) := by
  unfold phi featT
  repeat' split
  all_goals first | exact ofB_tru _ | (unfold Tru; omega)
theorem right_ok {n : QNodeV} (h : rightV n.kind n.count n.feat n.lo n.ln n.ld n.ho n.hn n.hd = true) : okN n := by
  unfold rightV at h
  simp only [decide_eq_true_eq] at h
  unfold okN
  omega
theorem right_feat {n : QNodeV} (h : rightV n.kind n.count n.feat n.lo n.ln n.ld n.ho n.hn n.hd = true) (hk : n.kind = 4) : (1 ≤ n.feat ∧ n.feat ≤ 6) ∧ fitsV n.feat n.lo n.ln n.ld n.ho n.hn n.hd = true := by
  unfold rightV at h
  simp only [decide_eq_true_eq] at h
  rcases h with h | h
  · exact ⟨⟨h.2.2.1, h.2.2.2.1⟩, h.2.2.2.2⟩
  · exact absurd hk h.1
end Go.Proofs.Ytjljlcflmcjapaa
