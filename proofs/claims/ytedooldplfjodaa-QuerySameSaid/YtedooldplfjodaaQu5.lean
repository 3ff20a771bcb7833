/-
  Queries: the reference's.
-/
import Derived.Test.YtedooldplfjodaaQu3
import Derived.Test.YtedooldplfjodaaQu4
namespace Go.Proofs.Ytedooldplfjodaa
open Go Go.RowKit Pl Sy
set_option linter.unusedVariables false
set_option linter.unusedSimpArgs false

/-sy bound_r
fun (f o n e : Int) (d : D) => reckV [cHoldR] [] 400 30 65 [int f, .agg [int o, int n, int e]] M0 d
-/
/-- may a bound be? -/
def bndB (f o n e : Int) : Bool := decide (1 ≤ o ∧ o ≤ 5 ∧ valOk f o n e = true)
theorem Sy.bound_r (f o n e : Int) : CallTo Try.prog 65 [int f, .agg [int o, int n, int e]] M0 fun v _ => v = boo (bndB f o n e) :=
  toV [cHoldR] [] 400 30 (.br (.auto 2 (.br .done (.br (.br (.auto 2 (.br (.auto 2 (.br (.auto 4 .done) (.auto 4 .done))) (.auto 7 .done))) (.auto 11 .done)) (.br (.br (.auto 2 (.br (.auto 2 (.br (.auto 2 .done) (.auto 2 .done))) (.auto 6 .done))) (.auto 10 .done)) (.br (.auto 5 .done) (.auto 5 .done)))))) (.auto 3 .done)) (.fork (!(!(leI (1 : Int) o))) (.fork (!(leI o (5 : Int))) (.leaf (boo false)) (.fork (eqI f (6 : Int)) (.fork (eqI o (3 : Int)) (.fork (eqI e (0 : Int)) (.fork (!(eqI n (1 : Int))) (.leaf (boo (eqI n (2 : Int)))) (.leaf (boo true))) (.leaf (boo false))) (.leaf (boo false))) (.fork (eqI f (5 : Int)) (.fork (leI (1 : Int) n) (.fork (leI (1 : Int) e) (.fork (leI n (1073741824 : Int)) (.leaf (boo (leI e (1073741824 : Int)))) (.leaf (boo false))) (.leaf (boo false))) (.leaf (boo false))) (.fork (eqI e (0 : Int)) (.leaf (boo (eqI (@Pl.hold n) n))) (.leaf (boo false)))))) (.leaf (boo false))) (by kernel_rfl) (by
    repeat' (first
      | refine fork_ok (fun _ => ?_) (fun _ => ?_)
      | refine need_so ⟨rfl, by (first | assumption | trivial | (try simp only [eqI_t, eqI_f, leI_t, leI_f, inR_t, inR_f, isSo_t, isSo_f, eqI_d, leI_d, decide_eq_true_eq, decide_eq_false_iff_not, Bool.not_eq_true', Bool.not_eq_false', Bool.false_eq_true, Bool.and_eq_true, Bool.or_eq_true, Bool.not_not, iff_false, false_iff, iff_true, true_iff] at *) <;> first | omega | grind)⟩ ?_
      | refine need_so (by (first | assumption | trivial | (try simp only [eqI_t, eqI_f, leI_t, leI_f, inR_t, inR_f, isSo_t, isSo_f, eqI_d, leI_d, decide_eq_true_eq, decide_eq_false_iff_not, Bool.not_eq_true', Bool.not_eq_false', Bool.false_eq_true, Bool.and_eq_true, Bool.or_eq_true, Bool.not_not, iff_false, false_iff, iff_true, true_iff] at *) <;> first | omega | grind)) ?_
      | refine need_t (by (first | assumption | trivial | (try simp only [eqI_t, eqI_f, leI_t, leI_f, inR_t, inR_f, isSo_t, isSo_f, eqI_d, leI_d, decide_eq_true_eq, decide_eq_false_iff_not, Bool.not_eq_true', Bool.not_eq_false', Bool.false_eq_true, Bool.and_eq_true, Bool.or_eq_true, Bool.not_not, iff_false, false_iff, iff_true, true_iff] at *) <;> first | omega | grind)) ?_)
    all_goals (first | refine leaf_boo ?_ | refine leaf_int ?_)
    all_goals (unfold bndB valOk; try simp only [eqI_t, eqI_f, leI_t, leI_f, inR_t, inR_f, isSo_t, isSo_f, eqI_d, leI_d, decide_eq_true_eq, decide_eq_false_iff_not, Bool.not_eq_true', Bool.not_eq_false', Bool.false_eq_true, Bool.and_eq_true, Bool.or_eq_true, Bool.not_not, iff_false, false_iff, iff_true, true_iff] at *)
    all_goals (first | omega | grind))
noncomputable abbrev Sy.cBoundR : Con Try.prog := ints4 65 [0, 4] (fun f o n e => boo (bndB f o n e)) (fun _ _ _ _ => trivial) Sy.bound_r
/-sy feature_r
fun (k c f lo ln ld ho hn hd : Int) (d : D) => reckV [cBoundR] [] 400 30 41 [qa k c f lo ln ld ho hn hd] M0 d
-/
def featB (c f lo ln ld ho hn hd : Int) : Bool := decide (c = 0 ∧ 1 ≤ f ∧ f ≤ 6 ∧ ((ho = 0 ∧ hn = 0 ∧ hd = 0 ∧ lo = 0 ∧ ln = 0 ∧ ld = 0) ∨ (¬ (ho = 0 ∧ hn = 0 ∧ hd = 0) ∧ bndB f ho hn hd = true ∧ ((lo = 0 ∧ ln = 0 ∧ ld = 0) ∨ (¬ (lo = 0 ∧ ln = 0 ∧ ld = 0) ∧ f ≠ 6 ∧ bndB f lo ln ld = true ∧ ((lo ≤ 2 ∧ ho ≤ 2) ∨ (4 ≤ lo ∧ 4 ≤ ho)))))))
theorem Sy.feature_r (k c f lo ln ld ho hn hd : Int) : CallTo Try.prog 41 [qa k c f lo ln ld ho hn hd] M0 fun v _ => v = boo (featB c f lo ln ld ho hn hd) :=
  toV [cBoundR] [] 400 30 (.br (.auto 2 (.br (.auto 2 (.br .done (.br .done (.br .done (.br .done (.br (.auto 5 (.br .done (.br (.auto 3 (.br (.auto 3 (.br (.auto 5 .done) (.auto 5 .done))) (.auto 9 .done))) (.auto 8 (.br (.auto 5 .done) (.auto 5 .done)))))) (.auto 6 .done))))))) (.auto 3 .done))) (.auto 7 .done)) (.fork (!(!(eqI c (0 : Int)))) (.fork (!(!(leI (1 : Int) f))) (.fork (!(leI f (6 : Int))) (.leaf (boo false)) (.fork ((eqI ho (0 : Int)) && ((eqI hn (0 : Int)) && ((eqI hd (0 : Int)) && true))) (.leaf (boo ((eqI lo (0 : Int)) && ((eqI ln (0 : Int)) && ((eqI ld (0 : Int)) && true))))) (.fork (!(@bndB f ho hn hd)) (.leaf (boo false)) (.fork ((eqI lo (0 : Int)) && ((eqI ln (0 : Int)) && ((eqI ld (0 : Int)) && true))) (.leaf (boo true)) (.fork (!(eqI f (6 : Int))) (.fork (!(@bndB f lo ln ld)) (.leaf (boo false)) (.fork (leI lo (2 : Int)) (.fork (!(leI ho (2 : Int))) (.fork (leI (4 : Int) lo) (.leaf (boo (leI (4 : Int) ho))) (.leaf (boo false))) (.leaf (boo true))) (.fork (leI (4 : Int) lo) (.leaf (boo (leI (4 : Int) ho))) (.leaf (boo false))))) (.leaf (boo false))))))) (.leaf (boo false))) (.leaf (boo false))) (by kernel_rfl) (by
    repeat' (first
      | refine fork_ok (fun _ => ?_) (fun _ => ?_)
      | refine need_so ⟨rfl, by (first | assumption | trivial | (try simp only [eqI_t, eqI_f, leI_t, leI_f, inR_t, inR_f, isSo_t, isSo_f, eqI_d, leI_d, decide_eq_true_eq, decide_eq_false_iff_not, Bool.not_eq_true', Bool.not_eq_false', Bool.false_eq_true, Bool.and_eq_true, Bool.or_eq_true, Bool.not_not, iff_false, false_iff, iff_true, true_iff] at *) <;> first | omega | grind)⟩ ?_
      | refine need_so (by (first | assumption | trivial | (try simp only [eqI_t, eqI_f, leI_t, leI_f, inR_t, inR_f, isSo_t, isSo_f, eqI_d, leI_d, decide_eq_true_eq, decide_eq_false_iff_not, Bool.not_eq_true', Bool.not_eq_false', Bool.false_eq_true, Bool.and_eq_true, Bool.or_eq_true, Bool.not_not, iff_false, false_iff, iff_true, true_iff] at *) <;> first | omega | grind)) ?_
      | refine need_t (by (first | assumption | trivial | (try simp only [eqI_t, eqI_f, leI_t, leI_f, inR_t, inR_f, isSo_t, isSo_f, eqI_d, leI_d, decide_eq_true_eq, decide_eq_false_iff_not, Bool.not_eq_true', Bool.not_eq_false', Bool.false_eq_true, Bool.and_eq_true, Bool.or_eq_true, Bool.not_not, iff_false, false_iff, iff_true, true_iff] at *) <;> first | omega | grind)) ?_)
    all_goals (first | refine leaf_boo ?_ | refine leaf_int ?_)
    all_goals (unfold featB; try simp only [eqI_t, eqI_f, leI_t, leI_f, inR_t, inR_f, isSo_t, isSo_f, eqI_d, leI_d, decide_eq_true_eq, decide_eq_false_iff_not, Bool.not_eq_true', Bool.not_eq_false', Bool.false_eq_true, Bool.and_eq_true, Bool.or_eq_true, Bool.not_not, iff_false, false_iff, iff_true, true_iff] at *)
    all_goals (first | omega | grind))
theorem featB_eq (c f lo ln ld ho hn hd : Int) : featB c f lo ln ld ho hn hd = decide (c = 0 ∧ 1 ≤ f ∧ f ≤ 6 ∧ fitsV f lo ln ld ho hn hd = true) := by
  unfold featB fitsV bndB
  rw [Bool.eq_iff_iff]
  simp only [decide_eq_true_eq]
  generalize (valOk f ho hn hd = true) = A
  generalize (valOk f lo ln ld = true) = B
  constructor
  · rintro ⟨h1, h2, h3, h4⟩
    refine ⟨h1, h2, h3, ?_⟩
    rcases h4 with h4 | ⟨h4, h5, h6⟩
    · exact .inl h4
    · right
      refine ⟨h4, h5.1, h5.2.1, h5.2.2, ?_⟩
      rcases h6 with h6 | ⟨h6, h7, h8, h9⟩
      · exact .inl h6
      · right
        exact ⟨by omega, h7, h8.2.2⟩
  · rintro ⟨h1, h2, h3, h4⟩
    refine ⟨h1, h2, h3, ?_⟩
    rcases h4 with h4 | ⟨h4, h5, h6, h7, h8⟩
    · exact .inl h4
    · right
      refine ⟨h4, ⟨h5, h6, h7⟩, ?_⟩
      rcases h8 with h8 | ⟨h8, h9, h10⟩
      · exact .inl h8
      · right
        exact ⟨by omega, h9, ⟨by omega, by omega, h10⟩, by omega⟩
noncomputable abbrev Sy.cFeatR : Con Try.prog := ints9 41 [10] (fun k c f lo ln ld ho hn hd => boo (featB c f lo ln ld ho hn hd)) (fun _ _ _ _ _ _ _ _ _ => trivial) Sy.feature_r
/-sy rightnode_r
fun (k c f lo ln ld ho hn hd : Int) (d : D) => reckV [cFeatR] [] 400 30 23 [qa k c f lo ln ld ho hn hd] M0 d
-/
theorem Sy.rightnode_r (k c f lo ln ld ho hn hd : Int) : CallTo Try.prog 23 [qa k c f lo ln ld ho hn hd] M0 fun v _ => v = boo (rightV k c f lo ln ld ho hn hd) :=
  toV [cFeatR] [] 400 30 (.br .done (.br (.auto 2 (.br (.auto 4 (.br (.auto 2 (.br (.auto 2 (.br (.auto 8 .done) (.auto 8 .done))) (.auto 11 .done))) (.auto 14 .done))) (.auto 8 (.br (.auto 2 (.br (.auto 8 .done) (.auto 8 .done))) (.auto 11 .done))))) (.auto 22 .done))) (.fork (eqI k (4 : Int)) (.leaf (boo (@featB c f lo ln ld ho hn hd))) (.fork ((eqI k k) && ((eqI c c) && ((eqI f (0 : Int)) && (((eqI lo (0 : Int)) && ((eqI ln (0 : Int)) && ((eqI ld (0 : Int)) && true))) && (((eqI ho (0 : Int)) && ((eqI hn (0 : Int)) && ((eqI hd (0 : Int)) && true))) && true))))) (.fork (eqI k (3 : Int)) (.fork (!(eqI c (1 : Int))) (.fork (leI (2 : Int) c) (.fork (!(eqI k (1 : Int))) (.leaf (boo (eqI k (2 : Int)))) (.leaf (boo true))) (.leaf (boo false))) (.leaf (boo true))) (.fork (leI (2 : Int) c) (.fork (!(eqI k (1 : Int))) (.leaf (boo (eqI k (2 : Int)))) (.leaf (boo true))) (.leaf (boo false)))) (.leaf (boo false)))) (by kernel_rfl) (by
    have e := featB_eq c f lo ln ld ho hn hd
    generalize featB c f lo ln ld ho hn hd = X at *
    unfold rightV
    generalize fitsV f lo ln ld ho hn hd = Y at *
    subst e
    exact (by
    repeat' (first
      | refine fork_ok (fun _ => ?_) (fun _ => ?_)
      | refine need_so ⟨rfl, by (first | assumption | trivial | (try simp only [eqI_t, eqI_f, leI_t, leI_f, inR_t, inR_f, isSo_t, isSo_f, eqI_d, leI_d, decide_eq_true_eq, decide_eq_false_iff_not, Bool.not_eq_true', Bool.not_eq_false', Bool.false_eq_true, Bool.and_eq_true, Bool.or_eq_true, Bool.not_not, iff_false, false_iff, iff_true, true_iff] at *) <;> first | omega | grind)⟩ ?_
      | refine need_so (by (first | assumption | trivial | (try simp only [eqI_t, eqI_f, leI_t, leI_f, inR_t, inR_f, isSo_t, isSo_f, eqI_d, leI_d, decide_eq_true_eq, decide_eq_false_iff_not, Bool.not_eq_true', Bool.not_eq_false', Bool.false_eq_true, Bool.and_eq_true, Bool.or_eq_true, Bool.not_not, iff_false, false_iff, iff_true, true_iff] at *) <;> first | omega | grind)) ?_
      | refine need_t (by (first | assumption | trivial | (try simp only [eqI_t, eqI_f, leI_t, leI_f, inR_t, inR_f, isSo_t, isSo_f, eqI_d, leI_d, decide_eq_true_eq, decide_eq_false_iff_not, Bool.not_eq_true', Bool.not_eq_false', Bool.false_eq_true, Bool.and_eq_true, Bool.or_eq_true, Bool.not_not, iff_false, false_iff, iff_true, true_iff] at *) <;> first | omega | grind)) ?_)
    all_goals (first | refine leaf_boo ?_ | refine leaf_int ?_)
    all_goals (try simp only [eqI_t, eqI_f, leI_t, leI_f, inR_t, inR_f, isSo_t, isSo_f, eqI_d, leI_d, decide_eq_true_eq, decide_eq_false_iff_not, Bool.not_eq_true', Bool.not_eq_false', Bool.false_eq_true, Bool.and_eq_true, Bool.or_eq_true, Bool.not_not, iff_false, false_iff, iff_true, true_iff] at *)
    all_goals (first | omega | grind)))
noncomputable abbrev Sy.cRightNode : Con Try.prog := ints9 23 [10] (fun k c f lo ln ld ho hn hd => boo (rightV k c f lo ln ld ho hn hd)) (fun _ _ _ _ _ _ _ _ _ => trivial) Sy.rightnode_r
/-sy reserved_r
fun (s : ByteArray) (d : D) => reckV [] [] 400 30 22 [.lit (.string s)] M0 d
-/
theorem Sy.reserved_r (s : ByteArray) : CallTo Try.prog 22 [.lit (.string s)] M0 fun v _ => v = boo (resB s) :=
  toV [] [] 400 30 (.br (.auto 1 (.br (.auto 1 (.br (.auto 1 .done) (.auto 1 .done))) (.auto 4 .done))) (.auto 7 .done)) (.fork (!(@bytesEq (@Array.toList _ (@ByteArray.data s)) (@Array.toList _ (@ByteArray.data (@ByteArray.mk (@Array.mk _ [(97 : UInt8), (110 : UInt8), (100 : UInt8)])))))) (.fork (!(@bytesEq (@Array.toList _ (@ByteArray.data s)) (@Array.toList _ (@ByteArray.data (@ByteArray.mk (@Array.mk _ [(111 : UInt8), (114 : UInt8)])))))) (.fork (!(@bytesEq (@Array.toList _ (@ByteArray.data s)) (@Array.toList _ (@ByteArray.data (@ByteArray.mk (@Array.mk _ [(110 : UInt8), (111 : UInt8), (116 : UInt8)])))))) (.leaf (boo (@bytesEq (@Array.toList _ (@ByteArray.data s)) (@Array.toList _ (@ByteArray.data (@ByteArray.mk (@Array.mk _ [(110 : UInt8), (111 : UInt8), (110 : UInt8), (101 : UInt8)]))))))) (.leaf (boo true))) (.leaf (boo true))) (.leaf (boo true))) (by kernel_rfl) (by
    simp only [Tr.Ok, Bool.not_eq_true', Bool.not_eq_false', boo_iff, resB]
    repeat' (first | (intro _) | apply And.intro)
    all_goals simp_all)
noncomputable abbrev Sy.cReservedR : Con Try.prog := str1 22 (fun s => boo (resB s)) (fun _ => True) (fun _ => trivial) fun s _ => reserved_r s
noncomputable abbrev Sy.cNameR : Con Try.prog := str1 21 (fun s => boo (nameL s.data.toList)) (fun s => s.size ≤ maxLen) (fun _ => trivial) fun s h => old (us := [.string s]) fun w => name_r s w h

noncomputable abbrev Sy.cSpanR (s : ByteArray) (xs : List QNodeV) (C : Int → Prop) (h : ∀ i, C i → CallTo Try.prog 9 [Sy.query s xs, int i] M0 fun v _ => v = int (spanI xs i)) : Con Try.prog :=
  atX 9 (fun args => match args with | [_, .lit (.int .i64 i)] => some i | _ => none) (fun i => [Sy.query s xs, int i]) (fun i => int (spanI xs i)) C fun i hi => ⟨⟨⟨⟨trivial, viewOf_free QNodeV.cells QNodeV.zero 9 xs, trivial⟩, trivial, trivial⟩, trivial⟩, h i hi⟩
/-sy spanr_p
fun (s : ByteArray) (xs : List QNodeV) (i : Int) (d : D) => probeV SyTool.probe [] 400 30 9 [Sy.query s xs, int i] M0 d
-/
namespace Sy
abbrev spanrM (s : ByteArray) (xs : List QNodeV) (i : Int) : Mem := (@Mem.mk ((0 + 1) + 1) (0 + 1) [(some (@Blk.mk [(int ((xs.getD (i).toNat QNodeV.zero)).kind), (int ((xs.getD (i).toNat QNodeV.zero)).count), (int ((xs.getD (i).toNat QNodeV.zero)).feat), (int ((xs.getD (i).toNat QNodeV.zero)).lo), (int ((xs.getD (i).toNat QNodeV.zero)).ln), (int ((xs.getD (i).toNat QNodeV.zero)).ld), (int ((xs.getD (i).toNat QNodeV.zero)).ho), (int ((xs.getD (i).toNat QNodeV.zero)).hn), (int ((xs.getD (i).toNat QNodeV.zero)).hd)] 38 none)), (some (@Blk.mk [(@AV.lit (@Value.string s)), (@qview xs)] 24 none))])
abbrev spanrF (s : ByteArray) (xs : List QNodeV) (i c a k : Int) : Fr := [none, some (int i), some ((@AV.ptr 0 0)), none, some ((int (0 : Int))), none, some (int c), some (int a), some (int k), none, none, none, none, none, none, none, none, none, none, none, none, none, none, none, none, none, none, none, none, none, none, none, none, none, none, none, none, none, none, none, none, none, none, none, none, none, none]
end Sy
/-sy spanr_r
fun (s : ByteArray) (xs : List QNodeV) (C : Int → Prop) (h : ∀ i, C i → CallTo Try.prog 9 [Sy.query s xs, int i] M0 fun v _ => v = int (spanI xs i)) (i c a k : Int) (d : D) => reckL [cSpanR s xs C h] [] 400 30 9 16 [false, true, true, false, true, false, true, true, true, false, false, false, false, false, false, false, false, false, false, false, false, false, false, false, false, false, false, false, false, false, false, false, false, false, false, false, false, false, false, false, false, false, false, false, false, false, false] (spanrF s xs i c a k) (spanrM s xs i) d
-/
theorem Sy.spanr_loop (s : ByteArray) (xs : List QNodeV) (hx : xs.length ≤ 17592186044416) (C : Int → Prop) (h : ∀ i, C i → CallTo Try.prog 9 [Sy.query s xs, int i] M0 fun v _ => v = int (spanI xs i)) (i c : Int) : ∀ (n : Nat) (a k : Int), xs.length - a < n → (∀ b, a ≤ b → C b) → 0 ≤ k → k < a → a ≤ xs.length →
    LoopTo Try.prog (theBody Try.prog 9 16) (n + 1) (spanrF s xs i c a k) (spanrM s xs i) fun ex F M => M = spanrM s xs i ∧ ((posI xs a (c - k).toNat = 0 ∧ ex = .ret ∧ ∃ k', F = spanrF s xs i c 0 k') ∨ (posI xs a (c - k).toNat ≠ 0 ∧ ex = .exit 1 ∧ ∃ k', F = spanrF s xs i c (posI xs a (c - k).toNat) k')) := by
  intro n
  induction n with
  | zero => intro a k h1 _ _ _ h5; omega
  | succ n ih =>
    intro a k hn hC h0 hk ha
    refine roundL [cSpanR s xs C h] [] 400 30 9 16 Try.func9 rfl (by kernel_rfl) [false, true, true, false, true, false, true, true, true, false, false, false, false, false, false, false, false, false, false, false, false, false, false, false, false, false, false, false, false, false, false, false, false, false, false, false, false, false, false, false, false, false, false, false, false, false, false] (.br (.yes (.br .done .done)) .done) (.fork (!(leI c k)) (.need (@isSo (@And ([(@AV.agg [(@AV.lit (@Value.string s)), (@qview xs)]), (int a)] = [(@query s xs), (int a)]) (C a))) (.fork (eqI (@spanI xs a) (0 : Int)) (.leaf (Ex.ret, ([none, (some (int i)), (some (@AV.ptr 0 0)), none, (some (int (0 : Int))), none, (some (int c)), (some (int (@spanI xs a))), (some (int k)), none, none, none, none, none, none, none, none, none, none, none, none, none, none, none, none, none, none, none, none, none, none, none, none, none, none, none, none, none, none, none, none, none, none, none, none, none, none], (@Mem.mk 2 1 [(some (@Blk.mk [(int ((xs.getD (i).toNat QNodeV.zero)).kind), (int ((xs.getD (i).toNat QNodeV.zero)).count), (int ((xs.getD (i).toNat QNodeV.zero)).feat), (int ((xs.getD (i).toNat QNodeV.zero)).lo), (int ((xs.getD (i).toNat QNodeV.zero)).ln), (int ((xs.getD (i).toNat QNodeV.zero)).ld), (int ((xs.getD (i).toNat QNodeV.zero)).ho), (int ((xs.getD (i).toNat QNodeV.zero)).hn), (int ((xs.getD (i).toNat QNodeV.zero)).hd)] 38 none)), (some (@Blk.mk [(@AV.lit (@Value.string s)), (@qview xs)] 24 none))])))) (.leaf (Ex.norm, ([none, (some (int i)), (some (@AV.ptr 0 0)), none, (some (int (0 : Int))), none, (some (int c)), (some (int (@spanI xs a))), (some (int (w64 (k + (1 : Int))))), none, none, none, none, none, none, none, none, none, none, none, none, none, none, none, none, none, none, none, none, none, none, none, none, none, none, none, none, none, none, none, none, none, none, none, none, none, none], (@Mem.mk 2 1 [(some (@Blk.mk [(int ((xs.getD (i).toNat QNodeV.zero)).kind), (int ((xs.getD (i).toNat QNodeV.zero)).count), (int ((xs.getD (i).toNat QNodeV.zero)).feat), (int ((xs.getD (i).toNat QNodeV.zero)).lo), (int ((xs.getD (i).toNat QNodeV.zero)).ln), (int ((xs.getD (i).toNat QNodeV.zero)).ld), (int ((xs.getD (i).toNat QNodeV.zero)).ho), (int ((xs.getD (i).toNat QNodeV.zero)).hn), (int ((xs.getD (i).toNat QNodeV.zero)).hd)] 38 none)), (some (@Blk.mk [(@AV.lit (@Value.string s)), (@qview xs)] 24 none))])))))) (.leaf ((@Ex.exit 1), ([none, (some (int i)), (some (@AV.ptr 0 0)), none, (some (int (0 : Int))), none, (some (int c)), (some (int a)), (some (int k)), none, none, none, none, none, none, none, none, none, none, none, none, none, none, none, none, none, none, none, none, none, none, none, none, none, none, none, none, none, none, none, none, none, none, none, none, none, none], (@Mem.mk 2 1 [(some (@Blk.mk [(int ((xs.getD (i).toNat QNodeV.zero)).kind), (int ((xs.getD (i).toNat QNodeV.zero)).count), (int ((xs.getD (i).toNat QNodeV.zero)).feat), (int ((xs.getD (i).toNat QNodeV.zero)).lo), (int ((xs.getD (i).toNat QNodeV.zero)).ln), (int ((xs.getD (i).toNat QNodeV.zero)).ld), (int ((xs.getD (i).toNat QNodeV.zero)).ho), (int ((xs.getD (i).toNat QNodeV.zero)).hn), (int ((xs.getD (i).toNat QNodeV.zero)).hd)] 38 none)), (some (@Blk.mk [(@AV.lit (@Value.string s)), (@qview xs)] 24 none))]))))) (by kernel_rfl) ?_
    refine fork_ok (fun h1 => need_so ⟨rfl, hC a (by omega)⟩ (fork_ok (fun h2 => ?_) (fun h2 => ?_))) (fun h1 => ?_)
    · simp only [Bool.not_eq_true', Bool.not_eq_false', leI_t, leI_f, eqI_t, eqI_f, inR_t, inR_f, isSo_t, isSo_f] at h1
      simp only [Bool.not_eq_true', Bool.not_eq_false', leI_t, leI_f, eqI_t, eqI_f, inR_t, inR_f, isSo_t, isSo_f] at h2
      obtain ⟨m, hm⟩ : ∃ m, (c - k).toNat = m + 1 := ⟨(c - k).toNat - 1, by omega⟩
      have e1 : posI xs a 1 = 0 := by rw [spanI_eq, if_neg (by omega)] at h2; exact h2
      refine ⟨rfl, .inl ⟨?_, rfl, k, ?_⟩⟩
      · rw [hm, posI_succ _ _ _ (by omega), if_pos e1]
      · rw [h2]
    · simp only [Bool.not_eq_true', Bool.not_eq_false', leI_t, leI_f, eqI_t, eqI_f, inR_t, inR_f, isSo_t, isSo_f] at h1
      simp only [Bool.not_eq_true', Bool.not_eq_false', leI_t, leI_f, eqI_t, eqI_f, inR_t, inR_f, isSo_t, isSo_f] at h2
      obtain ⟨m, hm⟩ : ∃ m, (c - k).toNat = m + 1 := ⟨(c - k).toNat - 1, by omega⟩
      have e1 : spanI xs a = posI xs a 1 := by rw [spanI_eq, if_neg (by omega)]
      rw [e1] at h2 ⊢
      obtain ⟨k1, q1, q2, q3, q4⟩ := posI_pos (by omega) (by omega) h2
      rw [w64_in (r := k + 1) (by omega)]
      have := ih (posI xs a 1) (k + 1) (by omega) (fun b hb => hC b (by omega)) (by omega) (by omega) (by omega)
      refine this.mono fun ex F M hg => ?_
      rw [hm, posI_succ _ _ _ (by omega), if_neg h2, show m = (c - (k + 1)).toNat by omega]
      exact hg
    · simp only [Bool.not_eq_true', Bool.not_eq_false', leI_t, leI_f, eqI_t, eqI_f, inR_t, inR_f, isSo_t, isSo_f] at h1
      rw [show (c - k).toNat = 0 by omega, posI_zero]
      exact ⟨rfl, .inr ⟨by omega, rfl, k, rfl⟩⟩
namespace Sy
abbrev spanrN (s : ByteArray) (xs : List QNodeV) (i c a : Int) : Fr := [none, some (int i), some ((@AV.ptr 0 0)), none, some ((int (0 : Int))), none, some (int c), some (int a), none, none, none, none, none, none, none, none, none, none, none, none, none, none, none, none, none, none, none, none, none, none, none, none, none, none, none, none, none, none, none, none, none, none, none, none, none, none, none]
noncomputable abbrev spanrRes (s : ByteArray) (xs : List QNodeV) (x : Int × Int × Int × Int) : Tr (Ex × Fr × Mem) :=
  .fork (eqI (posI xs x.2.2.1 (x.2.1 - x.2.2.2).toNat) 0) (.leaf (.ret, spanrN s xs x.1 x.2.1 0, spanrM s xs x.1)) (.leaf (.exit 1, spanrN s xs x.1 x.2.1 (posI xs x.2.2.1 (x.2.1 - x.2.2.2).toNat), spanrM s xs x.1))
noncomputable abbrev spanrLp (s : ByteArray) (xs : List QNodeV) (C : Int → Prop) (h : ∀ i, C i → CallTo Try.prog 9 [Sy.query s xs, int i] M0 fun v _ => v = int (spanI xs i)) : Lp Try.prog where
  f := 9
  key := 16
  S := formS (fun F M => match slotI F 1, slotI F 6, slotI F 7, slotI F 8 with | some i, some c, some a, some k => some (i, c, a, k) | _, _, _, _ => none) (fun x => spanrF s xs x.1 x.2.1 x.2.2.1 x.2.2.2) (fun x => spanrM s xs x.1) (fun x => xs.length ≤ 17592186044416 ∧ (∀ b, x.2.2.1 ≤ b → C b) ∧ 0 ≤ x.2.2.2 ∧ x.2.2.2 < x.2.2.1 ∧ x.2.2.1 ≤ xs.length) (spanrRes s xs) [false, true, true, false, true, false, true, true, true, false, false, false, false, false, false, false, false, false, false, false, false, false, false, false, false, false, false, false, false, false, false, false, false, false, false, false, false, false, false, false, false, false, false, false, false, false, false]
  one := by kernel_rfl
  ok := formS_ok fun x ⟨h1, h2, h3, h4, h5⟩ => by
    refine ⟨(xs.length - x.2.2.1).toNat + 1 + 1, ?_⟩
    have h6 := Sy.spanr_loop s xs h1 C h x.1 x.2.1 ((xs.length - x.2.2.1).toNat + 1) x.2.2.1 x.2.2.2 (by omega) h2 h3 h4 h5
    refine (h6.out [false, true, true, false, true, false, true, true, false, false, false, false, false, false, false, false, false, false, false, false, false, false, false, false, false, false, false, false, false, false, false, false, false, false, false, false, false, false, false, false, false, false, false, false, false, false, false]).mono fun ex F M hg => ?_
    obtain ⟨F0, ⟨hM, hg⟩, rfl⟩ := hg
    rcases hg with ⟨q1, rfl, k', rfl⟩ | ⟨q1, rfl, k', rfl⟩
    · exact .inl ⟨by rw [eqI_t]; exact q1, by rw [hM]; rfl⟩
    · exact .inr ⟨by rw [eqI_f]; exact q1, by rw [hM]; rfl⟩
end Sy
/-sy span_ref
fun (s : ByteArray) (xs : List QNodeV) (C : Int → Prop) (h : ∀ i, C i → CallTo Try.prog 9 [Sy.query s xs, int i] M0 fun v _ => v = int (spanI xs i)) (i : Int) (d : D) => reckV [] [spanrLp s xs C h] 400 30 9 [Sy.query s xs, int i] M0 d
-/
theorem span_fin {S p : Int} (hp : S = p) : (Tr.fork (eqI p 0) (.leaf (int 0)) (.leaf (int p))).Ok fun v => v = int S :=
  fork_ok (fun h => leaf_int (by simp only [Bool.not_eq_true', Bool.not_eq_false', leI_t, leI_f, eqI_t, eqI_f, inR_t, inR_f, isSo_t, isSo_f] at h; omega)) (fun h => leaf_int hp.symm)
theorem Sy.span_ref0 (s : ByteArray) (xs : List QNodeV) (hx : xs.length ≤ 17592186044416) (C : Int → Prop) (h : ∀ i, C i → CallTo Try.prog 9 [Sy.query s xs, int i] M0 fun v _ => v = int (spanI xs i)) (i : Int) (hC : i < xs.length → ∀ b, i < b → C b) : CallTo Try.prog 9 [Sy.query s xs, int i] M0 fun v _ => v = int (spanI xs i) :=
  toV [] [spanrLp s xs C h] 400 30 (.br (.auto 4 (.br .done (.yes (.br (.auto 0 (.br .done .done)) (.br (.br .done .done) (.br (.br .done .done) (.br (.br .done .done) .done))))))) (.auto 5 .done)) (.fork (!(!(leI (0 : Int) i))) (.fork (leI (((xs).length : Nat) : Int) i) (.leaf (int (0 : Int))) (.need (@inR i (xs).length) (.fork (eqI ((xs.getD (i).toNat QNodeV.zero)).kind (1 : Int)) (.need (@isSo (@And ((none :: (some (int i)) :: [(some (@AV.ptr 0 0)), none, (some (int (0 : Int))), none, (some (int ((xs.getD (i).toNat QNodeV.zero)).count)), (some (int (w64 (i + (1 : Int))))), (some (int (0 : Int))), none, none, none, none, none, none, none, none, none, none, none, none, none, none, none, none, none, none, none, none, none, none, none, none, none, none, none, none, none, none, none, none, none, none, none, none, none, none]) = [none, (some (int i)), (some (@AV.ptr 0 0)), none, (some (int (0 : Int))), none, (some (int ((xs.getD (i).toNat QNodeV.zero)).count)), (some (int (w64 (i + (1 : Int))))), (some (int (Int.ofNat 0))), none, none, none, none, none, none, none, none, none, none, none, none, none, none, none, none, none, none, none, none, none, none, none, none, none, none, none, none, none, none, none, none, none, none, none, none, none, none]) ((@Mem.mk ((0 + 1) + 1) (0 + 1) [(some (@Blk.mk [(int ((xs.getD (i).toNat QNodeV.zero)).kind), (int ((xs.getD (i).toNat QNodeV.zero)).count), (int ((xs.getD (i).toNat QNodeV.zero)).feat), (int ((xs.getD (i).toNat QNodeV.zero)).lo), (int ((xs.getD (i).toNat QNodeV.zero)).ln), (int ((xs.getD (i).toNat QNodeV.zero)).ld), (int ((xs.getD (i).toNat QNodeV.zero)).ho), (int ((xs.getD (i).toNat QNodeV.zero)).hn), (int ((xs.getD (i).toNat QNodeV.zero)).hd)] 38 none)), (some (@Blk.mk [(@AV.lit (@Value.string s)), (@qview xs)] 24 none))]) = (@Mem.mk 2 1 [(some (@Blk.mk [(int ((xs.getD (i).toNat QNodeV.zero)).kind), (int ((xs.getD (i).toNat QNodeV.zero)).count), (int ((xs.getD (i).toNat QNodeV.zero)).feat), (int ((xs.getD (i).toNat QNodeV.zero)).lo), (int ((xs.getD (i).toNat QNodeV.zero)).ln), (int ((xs.getD (i).toNat QNodeV.zero)).ld), (int ((xs.getD (i).toNat QNodeV.zero)).ho), (int ((xs.getD (i).toNat QNodeV.zero)).hn), (int ((xs.getD (i).toNat QNodeV.zero)).hd)] 38 none)), (some (@Blk.mk [(@AV.lit (@Value.string s)), (@qview xs)] 24 none))])))) (.need (@isSo (@And ((xs).length ≤ 17592186044416) (@And (∀ (b : Int), (i, (xs.getD i.toNat QNodeV.zero).count, w64 (i + 1), 0).snd.snd.fst ≤ b → C b) (@And ((0 : Int) ≤ (Int.ofNat 0)) (@And ((Int.ofNat 0) < (w64 (i + (1 : Int)))) ((w64 (i + (1 : Int))) ≤ (((xs).length : Nat) : Int))))))) (.fork (eqI (@posI xs (w64 (i + (1 : Int))) ((((xs.getD (i).toNat QNodeV.zero)).count - (Int.ofNat 0))).toNat) (0 : Int)) (.leaf (int (0 : Int))) (.leaf (int (@posI xs (w64 (i + (1 : Int))) ((((xs.getD (i).toNat QNodeV.zero)).count - (Int.ofNat 0))).toNat)))))) (.fork (eqI ((xs.getD (i).toNat QNodeV.zero)).kind (2 : Int)) (.need (@isSo (@And ((none :: (some (int i)) :: [(some (@AV.ptr 0 0)), none, (some (int (0 : Int))), none, (some (int ((xs.getD (i).toNat QNodeV.zero)).count)), (some (int (w64 (i + (1 : Int))))), (some (int (0 : Int))), none, none, none, none, none, none, none, none, none, none, none, none, none, none, none, none, none, none, none, none, none, none, none, none, none, none, none, none, none, none, none, none, none, none, none, none, none, none]) = [none, (some (int i)), (some (@AV.ptr 0 0)), none, (some (int (0 : Int))), none, (some (int ((xs.getD (i).toNat QNodeV.zero)).count)), (some (int (w64 (i + (1 : Int))))), (some (int (Int.ofNat 0))), none, none, none, none, none, none, none, none, none, none, none, none, none, none, none, none, none, none, none, none, none, none, none, none, none, none, none, none, none, none, none, none, none, none, none, none, none, none]) ((@Mem.mk ((0 + 1) + 1) (0 + 1) [(some (@Blk.mk [(int ((xs.getD (i).toNat QNodeV.zero)).kind), (int ((xs.getD (i).toNat QNodeV.zero)).count), (int ((xs.getD (i).toNat QNodeV.zero)).feat), (int ((xs.getD (i).toNat QNodeV.zero)).lo), (int ((xs.getD (i).toNat QNodeV.zero)).ln), (int ((xs.getD (i).toNat QNodeV.zero)).ld), (int ((xs.getD (i).toNat QNodeV.zero)).ho), (int ((xs.getD (i).toNat QNodeV.zero)).hn), (int ((xs.getD (i).toNat QNodeV.zero)).hd)] 38 none)), (some (@Blk.mk [(@AV.lit (@Value.string s)), (@qview xs)] 24 none))]) = (@Mem.mk 2 1 [(some (@Blk.mk [(int ((xs.getD (i).toNat QNodeV.zero)).kind), (int ((xs.getD (i).toNat QNodeV.zero)).count), (int ((xs.getD (i).toNat QNodeV.zero)).feat), (int ((xs.getD (i).toNat QNodeV.zero)).lo), (int ((xs.getD (i).toNat QNodeV.zero)).ln), (int ((xs.getD (i).toNat QNodeV.zero)).ld), (int ((xs.getD (i).toNat QNodeV.zero)).ho), (int ((xs.getD (i).toNat QNodeV.zero)).hn), (int ((xs.getD (i).toNat QNodeV.zero)).hd)] 38 none)), (some (@Blk.mk [(@AV.lit (@Value.string s)), (@qview xs)] 24 none))])))) (.need (@isSo (@And ((xs).length ≤ 17592186044416) (@And (∀ (b : Int), (i, (xs.getD i.toNat QNodeV.zero).count, w64 (i + 1), 0).snd.snd.fst ≤ b → C b) (@And ((0 : Int) ≤ (Int.ofNat 0)) (@And ((Int.ofNat 0) < (w64 (i + (1 : Int)))) ((w64 (i + (1 : Int))) ≤ (((xs).length : Nat) : Int))))))) (.fork (eqI (@posI xs (w64 (i + (1 : Int))) ((((xs.getD (i).toNat QNodeV.zero)).count - (Int.ofNat 0))).toNat) (0 : Int)) (.leaf (int (0 : Int))) (.leaf (int (@posI xs (w64 (i + (1 : Int))) ((((xs.getD (i).toNat QNodeV.zero)).count - (Int.ofNat 0))).toNat)))))) (.fork (eqI ((xs.getD (i).toNat QNodeV.zero)).kind (3 : Int)) (.need (@isSo (@And ((none :: (some (int i)) :: [(some (@AV.ptr 0 0)), none, (some (int (0 : Int))), none, (some (int (1 : Int))), (some (int (w64 (i + (1 : Int))))), (some (int (0 : Int))), none, none, none, none, none, none, none, none, none, none, none, none, none, none, none, none, none, none, none, none, none, none, none, none, none, none, none, none, none, none, none, none, none, none, none, none, none, none]) = [none, (some (int i)), (some (@AV.ptr 0 0)), none, (some (int (0 : Int))), none, (some (int (Int.ofNat 1))), (some (int (w64 (i + (1 : Int))))), (some (int (Int.ofNat 0))), none, none, none, none, none, none, none, none, none, none, none, none, none, none, none, none, none, none, none, none, none, none, none, none, none, none, none, none, none, none, none, none, none, none, none, none, none, none]) ((@Mem.mk ((0 + 1) + 1) (0 + 1) [(some (@Blk.mk [(int ((xs.getD (i).toNat QNodeV.zero)).kind), (int ((xs.getD (i).toNat QNodeV.zero)).count), (int ((xs.getD (i).toNat QNodeV.zero)).feat), (int ((xs.getD (i).toNat QNodeV.zero)).lo), (int ((xs.getD (i).toNat QNodeV.zero)).ln), (int ((xs.getD (i).toNat QNodeV.zero)).ld), (int ((xs.getD (i).toNat QNodeV.zero)).ho), (int ((xs.getD (i).toNat QNodeV.zero)).hn), (int ((xs.getD (i).toNat QNodeV.zero)).hd)] 38 none)), (some (@Blk.mk [(@AV.lit (@Value.string s)), (@qview xs)] 24 none))]) = (@Mem.mk 2 1 [(some (@Blk.mk [(int ((xs.getD (i).toNat QNodeV.zero)).kind), (int ((xs.getD (i).toNat QNodeV.zero)).count), (int ((xs.getD (i).toNat QNodeV.zero)).feat), (int ((xs.getD (i).toNat QNodeV.zero)).lo), (int ((xs.getD (i).toNat QNodeV.zero)).ln), (int ((xs.getD (i).toNat QNodeV.zero)).ld), (int ((xs.getD (i).toNat QNodeV.zero)).ho), (int ((xs.getD (i).toNat QNodeV.zero)).hn), (int ((xs.getD (i).toNat QNodeV.zero)).hd)] 38 none)), (some (@Blk.mk [(@AV.lit (@Value.string s)), (@qview xs)] 24 none))])))) (.need (@isSo (@And ((xs).length ≤ 17592186044416) (@And (∀ (b : Int), (i, 1, w64 (i + 1), 0).snd.snd.fst ≤ b → C b) (@And ((0 : Int) ≤ (Int.ofNat 0)) (@And ((Int.ofNat 0) < (w64 (i + (1 : Int)))) ((w64 (i + (1 : Int))) ≤ (((xs).length : Nat) : Int))))))) (.fork (eqI (@posI xs (w64 (i + (1 : Int))) (((Int.ofNat 1) - (Int.ofNat 0))).toNat) (0 : Int)) (.leaf (int (0 : Int))) (.leaf (int (@posI xs (w64 (i + (1 : Int))) (((Int.ofNat 1) - (Int.ofNat 0))).toNat)))))) (.fork (eqI ((xs.getD (i).toNat QNodeV.zero)).kind (4 : Int)) (.need (@isSo (@And ((none :: (some (int i)) :: [(some (@AV.ptr 0 0)), none, (some (int (0 : Int))), none, (some (int (0 : Int))), (some (int (w64 (i + (1 : Int))))), (some (int (0 : Int))), none, none, none, none, none, none, none, none, none, none, none, none, none, none, none, none, none, none, none, none, none, none, none, none, none, none, none, none, none, none, none, none, none, none, none, none, none, none]) = [none, (some (int i)), (some (@AV.ptr 0 0)), none, (some (int (0 : Int))), none, (some (int (Int.ofNat 0))), (some (int (w64 (i + (1 : Int))))), (some (int (Int.ofNat 0))), none, none, none, none, none, none, none, none, none, none, none, none, none, none, none, none, none, none, none, none, none, none, none, none, none, none, none, none, none, none, none, none, none, none, none, none, none, none]) ((@Mem.mk ((0 + 1) + 1) (0 + 1) [(some (@Blk.mk [(int ((xs.getD (i).toNat QNodeV.zero)).kind), (int ((xs.getD (i).toNat QNodeV.zero)).count), (int ((xs.getD (i).toNat QNodeV.zero)).feat), (int ((xs.getD (i).toNat QNodeV.zero)).lo), (int ((xs.getD (i).toNat QNodeV.zero)).ln), (int ((xs.getD (i).toNat QNodeV.zero)).ld), (int ((xs.getD (i).toNat QNodeV.zero)).ho), (int ((xs.getD (i).toNat QNodeV.zero)).hn), (int ((xs.getD (i).toNat QNodeV.zero)).hd)] 38 none)), (some (@Blk.mk [(@AV.lit (@Value.string s)), (@qview xs)] 24 none))]) = (@Mem.mk 2 1 [(some (@Blk.mk [(int ((xs.getD (i).toNat QNodeV.zero)).kind), (int ((xs.getD (i).toNat QNodeV.zero)).count), (int ((xs.getD (i).toNat QNodeV.zero)).feat), (int ((xs.getD (i).toNat QNodeV.zero)).lo), (int ((xs.getD (i).toNat QNodeV.zero)).ln), (int ((xs.getD (i).toNat QNodeV.zero)).ld), (int ((xs.getD (i).toNat QNodeV.zero)).ho), (int ((xs.getD (i).toNat QNodeV.zero)).hn), (int ((xs.getD (i).toNat QNodeV.zero)).hd)] 38 none)), (some (@Blk.mk [(@AV.lit (@Value.string s)), (@qview xs)] 24 none))])))) (.need (@isSo (@And ((xs).length ≤ 17592186044416) (@And (∀ (b : Int), (i, 0, w64 (i + 1), 0).snd.snd.fst ≤ b → C b) (@And ((0 : Int) ≤ (Int.ofNat 0)) (@And ((Int.ofNat 0) < (w64 (i + (1 : Int)))) ((w64 (i + (1 : Int))) ≤ (((xs).length : Nat) : Int))))))) (.fork (eqI (@posI xs (w64 (i + (1 : Int))) (((Int.ofNat 0) - (Int.ofNat 0))).toNat) (0 : Int)) (.leaf (int (0 : Int))) (.leaf (int (@posI xs (w64 (i + (1 : Int))) (((Int.ofNat 0) - (Int.ofNat 0))).toNat)))))) (.leaf (int (0 : Int))))))))) (.leaf (int (0 : Int)))) (by kernel_rfl) (by
    have hs := spanI_eq xs i
    refine fork_ok (fun h1 => ?_) (fun h1 => ?_)
    · simp only [Bool.not_eq_true', Bool.not_eq_false', leI_t, leI_f, eqI_t, eqI_f, inR_t, inR_f, isSo_t, isSo_f] at h1
      rw [if_neg (by omega)] at hs
      refine fork_ok (fun h2 => ?_) (fun h2 => need_t (by simp only [Bool.not_eq_true', Bool.not_eq_false', leI_t, leI_f, eqI_t, eqI_f, inR_t, inR_f, isSo_t, isSo_f] at h2; rw [inR_t]; omega) ?_)
      · simp only [Bool.not_eq_true', Bool.not_eq_false', leI_t, leI_f, eqI_t, eqI_f, inR_t, inR_f, isSo_t, isSo_f] at h2
        rw [posI_out _ _ h2] at hs
        exact leaf_int hs.symm
      · simp only [Bool.not_eq_true', Bool.not_eq_false', leI_t, leI_f, eqI_t, eqI_f, inR_t, inR_f, isSo_t, isSo_f] at h2
        rw [posI_one _ _ (by omega) (by omega)] at hs
        rw [show w64 (i + 1) = i + 1 from w64_in (by omega)]
        have f1 : ∀ b, i + 1 ≤ b → C b := fun b hb => hC (by omega) b (by omega)
        have f2 : (0 : Int) < i + 1 := by omega
        have f3 : i + 1 ≤ (xs.length : Int) := by omega
        refine fork_ok (fun h3 => need_so ⟨rfl, rfl⟩ (need_so ⟨hx, f1, Int.le_refl 0, f2, f3⟩ (span_fin ?_))) (fun h3 => fork_ok (fun h4 => need_so ⟨rfl, rfl⟩ (need_so ⟨hx, f1, Int.le_refl 0, f2, f3⟩ (span_fin ?_))) (fun h4 => fork_ok (fun h5 => need_so ⟨rfl, rfl⟩ (need_so ⟨hx, f1, Int.le_refl 0, f2, f3⟩ (span_fin ?_))) (fun h5 => fork_ok (fun h6 => need_so ⟨rfl, rfl⟩ (need_so ⟨hx, f1, Int.le_refl 0, f2, f3⟩ (span_fin ?_))) (fun h6 => leaf_int ?_))))
        · simp only [Bool.not_eq_true', Bool.not_eq_false', leI_t, leI_f, eqI_t, eqI_f, inR_t, inR_f, isSo_t, isSo_f] at h3
          have e : hasI (xs.getD i.toNat QNodeV.zero).kind (xs.getD i.toNat QNodeV.zero).count = if (xs.getD i.toNat QNodeV.zero).count < 0 then 0 else (xs.getD i.toNat QNodeV.zero).count := by unfold hasI; rw [if_pos (.inl h3)]
          rw [e, if_neg (by split <;> omega)] at hs
          rw [hs]
          congr 1
          show (if (xs.getD i.toNat QNodeV.zero).count < 0 then 0 else (xs.getD i.toNat QNodeV.zero).count).toNat = ((xs.getD i.toNat QNodeV.zero).count - 0).toNat
          split <;> omega
        · simp only [Bool.not_eq_true', Bool.not_eq_false', leI_t, leI_f, eqI_t, eqI_f, inR_t, inR_f, isSo_t, isSo_f] at h4
          have e : hasI (xs.getD i.toNat QNodeV.zero).kind (xs.getD i.toNat QNodeV.zero).count = if (xs.getD i.toNat QNodeV.zero).count < 0 then 0 else (xs.getD i.toNat QNodeV.zero).count := by unfold hasI; rw [if_pos (.inr h4)]
          rw [e, if_neg (by split <;> omega)] at hs
          rw [hs]
          congr 1
          show (if (xs.getD i.toNat QNodeV.zero).count < 0 then 0 else (xs.getD i.toNat QNodeV.zero).count).toNat = ((xs.getD i.toNat QNodeV.zero).count - 0).toNat
          split <;> omega
        · simp only [Bool.not_eq_true', Bool.not_eq_false', leI_t, leI_f, eqI_t, eqI_f, inR_t, inR_f, isSo_t, isSo_f] at h3
          simp only [Bool.not_eq_true', Bool.not_eq_false', leI_t, leI_f, eqI_t, eqI_f, inR_t, inR_f, isSo_t, isSo_f] at h4
          simp only [Bool.not_eq_true', Bool.not_eq_false', leI_t, leI_f, eqI_t, eqI_f, inR_t, inR_f, isSo_t, isSo_f] at h5
          have e : hasI (xs.getD i.toNat QNodeV.zero).kind (xs.getD i.toNat QNodeV.zero).count = 1 := by unfold hasI; rw [if_neg (by omega), if_pos h5]
          rw [e, if_neg (by omega)] at hs
          exact hs
        · simp only [Bool.not_eq_true', Bool.not_eq_false', leI_t, leI_f, eqI_t, eqI_f, inR_t, inR_f, isSo_t, isSo_f] at h3
          simp only [Bool.not_eq_true', Bool.not_eq_false', leI_t, leI_f, eqI_t, eqI_f, inR_t, inR_f, isSo_t, isSo_f] at h4
          simp only [Bool.not_eq_true', Bool.not_eq_false', leI_t, leI_f, eqI_t, eqI_f, inR_t, inR_f, isSo_t, isSo_f] at h5
          simp only [Bool.not_eq_true', Bool.not_eq_false', leI_t, leI_f, eqI_t, eqI_f, inR_t, inR_f, isSo_t, isSo_f] at h6
          have e : hasI (xs.getD i.toNat QNodeV.zero).kind (xs.getD i.toNat QNodeV.zero).count = 0 := by unfold hasI; rw [if_neg (by omega), if_neg h5, if_pos h6]
          rw [e, if_neg (by omega)] at hs
          exact hs
        · simp only [Bool.not_eq_true', Bool.not_eq_false', leI_t, leI_f, eqI_t, eqI_f, inR_t, inR_f, isSo_t, isSo_f] at h3
          simp only [Bool.not_eq_true', Bool.not_eq_false', leI_t, leI_f, eqI_t, eqI_f, inR_t, inR_f, isSo_t, isSo_f] at h4
          simp only [Bool.not_eq_true', Bool.not_eq_false', leI_t, leI_f, eqI_t, eqI_f, inR_t, inR_f, isSo_t, isSo_f] at h5
          simp only [Bool.not_eq_true', Bool.not_eq_false', leI_t, leI_f, eqI_t, eqI_f, inR_t, inR_f, isSo_t, isSo_f] at h6
          have e : hasI (xs.getD i.toNat QNodeV.zero).kind (xs.getD i.toNat QNodeV.zero).count = -1 := by unfold hasI; rw [if_neg (by omega), if_neg h5, if_neg h6]
          rw [e, if_pos (by omega)] at hs
          exact hs.symm
    · simp only [Bool.not_eq_true', Bool.not_eq_false', leI_t, leI_f, eqI_t, eqI_f, inR_t, inR_f, isSo_t, isSo_f] at h1
      rw [if_pos (by omega)] at hs
      exact leaf_int hs.symm)
theorem Sy.span_ref (s : ByteArray) (xs : List QNodeV) (hx : xs.length ≤ 17592186044416) (i : Int) : CallTo Try.prog 9 [Sy.query s xs, int i] M0 fun v _ => v = int (spanI xs i) := by
  have key : ∀ (n : Nat) (i : Int), (xs.length : Int) - i < n → CallTo Try.prog 9 [Sy.query s xs, int i] M0 fun v _ => v = int (spanI xs i) := by
    intro n
    induction n with
    | zero => intro i hi; exact Sy.span_ref0 s xs hx (fun _ => False) (fun _ hb => hb.elim) i (fun hl => by omega)
    | succ n ih => intro i hi; exact Sy.span_ref0 s xs hx (fun b => (xs.length : Int) - b < n) ih i (fun _ b hb => by omega)
  exact key ((xs.length - i).toNat + 1) i (by omega)
noncomputable abbrev Sy.cSpanRef (s : ByteArray) (xs : List QNodeV) : Con Try.prog := cSpanR s xs (fun _ => xs.length ≤ 17592186044416) (fun i h => Sy.span_ref s xs h i)
/-sy rightr_p
fun (s : ByteArray) (xs : List QNodeV) (hn : bytesEq s.data.toList [] = true) (d : D) => probeV SyTool.probe [cNameR, cReservedR] 400 30 7 [Sy.query s xs] M0 d
-/
end Go.Proofs.Ytedooldplfjodaa
