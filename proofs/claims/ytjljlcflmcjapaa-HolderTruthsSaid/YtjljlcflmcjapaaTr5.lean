/-
  What a query says: the program's Eval; the reference's Node begun.
-/
import Derived.Test.YtjljlcflmcjapaaTr4
namespace Go.Proofs.Ytjljlcflmcjapaa
open Go Go.RowKit Pl Sy
set_option linter.unusedVariables false
set_option linter.unusedSimpArgs false

/-- the block of one who is asked -/
abbrev Sy.askBlk (s : ByteArray) (xs : List QNodeV) (ty : Int) (en : ByteArray) (w h : Int) : Blk := ⟨askB s xs ty en w h, 67, none⟩
/-- what a query says of an extent -/
noncomputable def evalQ (s : ByteArray) (xs : List QNodeV) (ty w h : Int) : Int := if rightQ s xs = true then E (phi ty w h) 32 xs else 2
noncomputable abbrev Sy.cRightP (s : ByteArray) (xs : List QNodeV) : Con Try.prog := at1 46 [Sy.query s xs] (boo (rightQ s xs)) (s.size ≤ maxLen ∧ xs.length ≤ 17592186044416) fun h => ⟨⟨⟨⟨trivial, viewOf_free QNodeV.cells QNodeV.zero 9 xs, trivial⟩, trivial⟩, trivial⟩, right_q0 s xs h.1 h.2⟩
theorem wrongL_none : ∀ {xs : List QNodeV}, (wrongL xs).isSome = false → ∀ n ∈ xs, rightV n.kind n.count n.feat n.lo n.ln n.ld n.ho n.hn n.hd = true
  | [], _, n, hn => by cases hn
  | x :: xs, h, n, hn => by
    unfold wrongL at h
    split at h
    · rename_i hx
      rcases List.mem_cons.1 hn with rfl | hn
      · exact hx
      · exact wrongL_none (by cases hw : wrongL xs <;> simp [hw] at h ⊢) n hn
    · cases h
theorem rightQ_parts {s : ByteArray} {xs : List QNodeV} (h : rightQ s xs = true) : xs.length ≤ 32 ∧ 1 ≤ xs.length ∧ sU xs 1 = some xs.length ∧ (∀ n ∈ xs, rightV n.kind n.count n.feat n.lo n.ln n.ld n.ho n.hn n.hd = true) := by
  unfold rightQ at h
  simp only [Bool.and_eq_true, decide_eq_true_eq, Bool.not_eq_true'] at h
  obtain ⟨_, ⟨h1, h2⟩, h3, h4⟩ := h
  refine ⟨h2, h1, ?_, wrongL_none h4⟩
  rw [spanI_eq, if_neg (by omega)] at h3
  unfold posI at h3
  rw [show (0 : Int).toNat = 0 from rfl, List.drop_zero] at h3
  cases hs : sU xs 1 with
  | none => rw [hs] at h3; simp at h3; omega
  | some k => rw [hs] at h3; simp at h3; rw [show k = xs.length by omega]
theorem rightQ_node {s : ByteArray} {xs : List QNodeV} (h : rightQ s xs = true) : xs.length ≤ 17592186044416 ∧ (∀ n ∈ xs, okN n) ∧ Sy.NodeAt xs 32 0 := by
  obtain ⟨h1, h2, h3, h4⟩ := rightQ_parts h
  exact ⟨by omega, fun n hn => right_ok (h4 n hn), by omega, xs.length, h3, h1⟩
noncomputable abbrev Sy.cNode0 (s : ByteArray) (xs : List QNodeV) (ty : Int) (en : ByteArray) (w h : Int) : Con Try.prog :=
  atP 47 2 (askBlk s xs ty en w h) [int 0] (.tup [int (E (phi ty w h) 32 xs), int (posI xs 0 1)]) (rightQ s xs = true) fun hr => by
    obtain ⟨h1, h2, h3⟩ := rightQ_node hr
    refine ⟨⟨⟨trivial, trivial⟩, ⟨trivial, trivial, trivial⟩, ⟨trivial, viewOf_free QNodeV.cells QNodeV.zero 9 xs, trivial, trivial, trivial, trivial, trivial⟩⟩, ?_⟩
    exact node_all s xs ty en w h h1 h2 32 0 h3
/-sy eval_t
fun (s : ByteArray) (xs : List QNodeV) (ty : Int) (en : ByteArray) (w h : Int) (d : D) => reckV [cRightP s xs, cNode0 s xs ty en w h] [] 400 30 22 [Sy.query s xs, ext ty en w h] M0 d
-/
theorem Sy.eval_t (s : ByteArray) (xs : List QNodeV) (ty : Int) (en : ByteArray) (w h : Int) (hs : s.size ≤ maxLen) (hx : xs.length ≤ 17592186044416) : CallTo Try.prog 22 [Sy.query s xs, ext ty en w h] M0 fun v _ => v = int (evalQ s xs ty w h) :=
  toV [cRightP s xs, cNode0 s xs ty en w h] [] 400 30 (.yes (.br .done (.yes .done))) (.need (@isSo (@And ([(@AV.agg [(@AV.lit (@Value.string s)), (@qview xs)])] = [(@query s xs)]) (@And ((@ByteArray.size s) ≤ 9223372036854775807) ((xs).length ≤ 17592186044416)))) (.fork (!(@rightQ s xs)) (.leaf (int (2 : Int))) (.need (@isSo (@And ([(@AV.ptr ((0 + 1) + 1) 0), (int (0 : Int))] = [(@AV.ptr 2 0), (int (0 : Int))]) (@And ((some (@Blk.mk [(@AV.lit (@Value.string s)), (@qview xs), (int ty), (@AV.lit (@Value.string en)), (int w), (int h)] 67 none)) = (some (@Blk.mk [(@AV.lit (@Value.string s)), (@qview xs), (int ty), (@AV.lit (@Value.string en)), (int w), (int h)] 67 none))) ((@rightQ s xs) = true)))) (.leaf (int (@E (@phi ty w h) 32 xs)))))) (by kernel_rfl) (by
    refine need_so ⟨rfl, hs, hx⟩ (fork_ok (fun h1 => ?_) (fun h1 => need_so ⟨rfl, rfl, ?_⟩ ?_))
    · refine leaf_int ?_
      unfold evalQ
      rw [if_neg (by simpa using h1)]
    · simpa using h1
    · refine leaf_int ?_
      unfold evalQ
      rw [if_pos (by simpa using h1)])
/-! The reference's -/
abbrev Sy.RefHas (s : ByteArray) (xs : List QNodeV) (ty : Int) (en : ByteArray) (w h : Int) (f : Nat) : Prop := ∀ i, NodeAt xs f i → CallTo Try.prog 48 [Sy.query s xs, int i, ext ty en w h] M0 fun v _ => v = int (E (phi ty w h) f (xs.drop i.toNat))
noncomputable abbrev Sy.cRef (s : ByteArray) (xs : List QNodeV) (ty : Int) (en : ByteArray) (w h : Int) (f : Nat) (H : RefHas s xs ty en w h f) : Con Try.prog := atX 48 (fun args => match args with | [_, .lit (.int .i64 i), _] => some i | _ => none) (fun i => [Sy.query s xs, int i, ext ty en w h]) (fun i => int (E (phi ty w h) f (xs.drop i.toNat))) (NodeAt xs f) fun i hi => ⟨⟨⟨⟨trivial, viewOf_free QNodeV.cells QNodeV.zero 9 xs, trivial⟩, trivial, ⟨trivial, trivial, trivial, trivial, trivial⟩, trivial⟩, trivial⟩, H i hi⟩
noncomputable abbrev Sy.cFeatR2 (ty : Int) (en : ByteArray) (w h : Int) : Con Try.prog := atX 78 (fun args => match args with | [.agg [.lit (.int .i64 k), .lit (.int .i64 c), .lit (.int .i64 f), .lit (.int .i64 lo), .lit (.int .i64 ln), .lit (.int .i64 ld), .lit (.int .i64 ho), .lit (.int .i64 hn), .lit (.int .i64 hd)], _] => some (QNodeV.mk k c f lo ln ld ho hn hd) | _ => none) (fun n => [qa n.kind n.count n.feat n.lo n.ln n.ld n.ho n.hn n.hd, ext ty en w h]) (fun n => int (phi ty w h n)) (fun n => (1 ≤ n.feat ∧ n.feat ≤ 6) ∧ fitsV n.feat n.lo n.ln n.ld n.ho n.hn n.hd = true) fun n hn => ⟨⟨⟨⟨trivial, trivial, trivial, trivial, trivial, trivial, trivial, trivial, trivial, trivial⟩, ⟨trivial, trivial, trivial, trivial, trivial⟩, trivial⟩, trivial⟩, (feat_r n.kind n.count n.feat n.lo n.ln n.ld n.ho n.hn n.hd ty en w h).mono fun v _ e => by rw [e, featR_eq _ _ _ _ _ _ _ _ _ _ hn.1 hn.2]; rfl⟩
/-sy notr_t
fun (a : Int) (d : D) => reckV [] [] 400 30 16 [int a] M0 d
-/
/-sy andr_t
fun (a b : Int) (d : D) => reckV [] [] 400 30 18 [int a, int b] M0 d
-/
theorem Sy.notr_t (a : Int) : CallTo Try.prog 16 [int a] M0 fun v _ => v = int (tN a) :=
  toV [] [] 400 30 (.br (.auto 1 (.br .done .done)) (.auto 2 .done)) (.fork (!(eqI a (0 : Int))) (.fork (eqI a (1 : Int)) (.leaf (int (w64 ((1 : Int) - a)))) (.leaf (int (2 : Int)))) (.leaf (int (w64 ((1 : Int) - a))))) (by kernel_rfl) (by
    have hw : 0 ≤ a → a ≤ 1 → w64 (1 - a) = 1 - a := fun _ _ => w64_in (by omega)
    generalize w64 (1 - a) = W at *
    exact (by
    repeat' (first
      | refine fork_ok (fun _ => ?_) (fun _ => ?_)
      | refine need_so ⟨rfl, by (first | assumption | trivial | (try simp only [eqI_t, eqI_f, leI_t, leI_f, inR_t, inR_f, isSo_t, isSo_f, eqI_d, leI_d, decide_eq_true_eq, decide_eq_false_iff_not, Bool.not_eq_true', Bool.not_eq_false', Bool.false_eq_true, Bool.and_eq_true, Bool.or_eq_true, Bool.not_not, iff_false, false_iff, iff_true, true_iff] at *) <;> first | omega | grind)⟩ ?_
      | refine need_so (by (first | assumption | trivial | (try simp only [eqI_t, eqI_f, leI_t, leI_f, inR_t, inR_f, isSo_t, isSo_f, eqI_d, leI_d, decide_eq_true_eq, decide_eq_false_iff_not, Bool.not_eq_true', Bool.not_eq_false', Bool.false_eq_true, Bool.and_eq_true, Bool.or_eq_true, Bool.not_not, iff_false, false_iff, iff_true, true_iff] at *) <;> first | omega | grind)) ?_
      | refine need_t (by (first | assumption | trivial | (try simp only [eqI_t, eqI_f, leI_t, leI_f, inR_t, inR_f, isSo_t, isSo_f, eqI_d, leI_d, decide_eq_true_eq, decide_eq_false_iff_not, Bool.not_eq_true', Bool.not_eq_false', Bool.false_eq_true, Bool.and_eq_true, Bool.or_eq_true, Bool.not_not, iff_false, false_iff, iff_true, true_iff] at *) <;> first | omega | grind)) ?_)
    all_goals (first | refine leaf_boo ?_ | refine leaf_int ?_)
    all_goals (unfold tN; try simp only [eqI_t, eqI_f, leI_t, leI_f, inR_t, inR_f, isSo_t, isSo_f, eqI_d, leI_d, decide_eq_true_eq, decide_eq_false_iff_not, Bool.not_eq_true', Bool.not_eq_false', Bool.false_eq_true, Bool.and_eq_true, Bool.or_eq_true, Bool.not_not, iff_false, false_iff, iff_true, true_iff] at *)
    all_goals (first | omega | grind)))
theorem Sy.andr_t (a b : Int) : CallTo Try.prog 18 [int a, int b] M0 fun v _ => v = int (tA a b) :=
  toV [] [] 400 30 (.br (.auto 1 (.br .done (.br (.auto 1 (.br .done .done)) (.auto 2 .done)))) (.auto 2 .done)) (.fork (!(eqI a (0 : Int))) (.fork (eqI b (0 : Int)) (.leaf (int (0 : Int))) (.fork (eqI a (1 : Int)) (.fork (eqI b (1 : Int)) (.leaf (int (1 : Int))) (.leaf (int (2 : Int)))) (.leaf (int (2 : Int))))) (.leaf (int (0 : Int)))) (by kernel_rfl) (by
    repeat' (first
      | refine fork_ok (fun _ => ?_) (fun _ => ?_)
      | refine need_so ⟨rfl, by (first | assumption | trivial | (try simp only [eqI_t, eqI_f, leI_t, leI_f, inR_t, inR_f, isSo_t, isSo_f, eqI_d, leI_d, decide_eq_true_eq, decide_eq_false_iff_not, Bool.not_eq_true', Bool.not_eq_false', Bool.false_eq_true, Bool.and_eq_true, Bool.or_eq_true, Bool.not_not, iff_false, false_iff, iff_true, true_iff] at *) <;> first | omega | grind)⟩ ?_
      | refine need_so (by (first | assumption | trivial | (try simp only [eqI_t, eqI_f, leI_t, leI_f, inR_t, inR_f, isSo_t, isSo_f, eqI_d, leI_d, decide_eq_true_eq, decide_eq_false_iff_not, Bool.not_eq_true', Bool.not_eq_false', Bool.false_eq_true, Bool.and_eq_true, Bool.or_eq_true, Bool.not_not, iff_false, false_iff, iff_true, true_iff] at *) <;> first | omega | grind)) ?_
      | refine need_t (by (first | assumption | trivial | (try simp only [eqI_t, eqI_f, leI_t, leI_f, inR_t, inR_f, isSo_t, isSo_f, eqI_d, leI_d, decide_eq_true_eq, decide_eq_false_iff_not, Bool.not_eq_true', Bool.not_eq_false', Bool.false_eq_true, Bool.and_eq_true, Bool.or_eq_true, Bool.not_not, iff_false, false_iff, iff_true, true_iff] at *) <;> first | omega | grind)) ?_)
    all_goals (first | refine leaf_boo ?_ | refine leaf_int ?_)
    all_goals (unfold tA; try simp only [eqI_t, eqI_f, leI_t, leI_f, inR_t, inR_f, isSo_t, isSo_f, eqI_d, leI_d, decide_eq_true_eq, decide_eq_false_iff_not, Bool.not_eq_true', Bool.not_eq_false', Bool.false_eq_true, Bool.and_eq_true, Bool.or_eq_true, Bool.not_not, iff_false, false_iff, iff_true, true_iff] at *)
    all_goals (first | omega | grind))
noncomputable abbrev Sy.cNotR : Con Try.prog := int1 16 (fun a => int (tN a)) (fun _ => trivial) Sy.notr_t
noncomputable abbrev Sy.cAndR : Con Try.prog := int2 18 (fun a b => int (tA a b)) (fun _ _ => trivial) Sy.andr_t
theorem tNAN (a b : Int) : tN (tA (tN a) (tN b)) = tO a b := by
  unfold tN tA tO
  repeat' split
  all_goals omega
/-sy orr_t
fun (a b : Int) (d : D) => reckV [cNotR, cAndR] [] 400 30 20 [int a, int b] M0 d
-/
theorem Sy.orr_t (a b : Int) : CallTo Try.prog 20 [int a, int b] M0 fun v _ => v = int (tO a b) :=
  toV [cNotR, cAndR] [] 400 30 .done (.leaf (int (@tN (@tA (@tN a) (@tN b))))) (by kernel_rfl) (leaf_int (tNAN a b))
noncomputable abbrev Sy.cOrR : Con Try.prog := int2 20 (fun a b => int (tO a b)) (fun _ _ => trivial) Sy.orr_t
/-sy ref_p
fun (s : ByteArray) (xs : List QNodeV) (ty : Int) (en : ByteArray) (w h : Int) (f : Nat) (H : RefHas s xs ty en w h f) (i : Int) (d : D) => probeV SyTool.probe [cNotR, cAndR, cOrR, cRef s xs ty en w h f H, cFeatR2 ty en w h, cSpanRef s xs] 400 30 48 [Sy.query s xs, int i, ext ty en w h] M0 d
-/
end Go.Proofs.Ytjljlcflmcjapaa
