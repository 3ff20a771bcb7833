/-
  Queries: whether one may be, by the reference.
-/
import Derived.Test.YtedooldplfjodaaQu5
namespace Go.Proofs.Ytedooldplfjodaa
open Go Go.RowKit Pl Sy
set_option linter.unusedVariables false
set_option linter.unusedSimpArgs false

namespace Sy
abbrev rrM (s : ByteArray) (xs : List QNodeV) : Mem := (@Mem.mk 1 0 [(some (@Blk.mk [(@AV.lit (@Value.string s)), (@qview xs)] 24 none))])
abbrev rrF (s : ByteArray) (xs : List QNodeV) (i : Int) : Fr := [none, some ((@AV.ptr 0 0)), some ((boo false)), some (int i), none, none, none, none, none, none, none, none, none, none, none, none, none, none, none, none, none, none, none, none, none, none, none, none, none, none, none, none, none, none, none, none, none, none, none, none, none, none, none, none, none, none, none, none, none, none]
abbrev rrN (s : ByteArray) (xs : List QNodeV) : Fr := [none, some ((@AV.ptr 0 0)), some ((boo false)), none, none, none, none, none, none, none, none, none, none, none, none, none, none, none, none, none, none, none, none, none, none, none, none, none, none, none, none, none, none, none, none, none, none, none, none, none, none, none, none, none, none, none, none, none, none, none]
end Sy
/-sy rightr_r
fun (s : ByteArray) (xs : List QNodeV) (i : Int) (d : D) => reckL [cRightNode] [] 400 30 7 5 [false, true, true, true, false, false, false, false, false, false, false, false, false, false, false, false, false, false, false, false, false, false, false, false, false, false, false, false, false, false, false, false, false, false, false, false, false, false, false, false, false, false, false, false, false, false, false, false, false, false] (rrF s xs i) (rrM s xs) d
-/
theorem Sy.rr_loop (s : ByteArray) (xs : List QNodeV) (hx : xs.length ≤ 17592186044416) : ∀ (l pre : List QNodeV) (i : Int), xs = pre ++ l → i = pre.length →
    LoopTo Try.prog (theBody Try.prog 7 5) (l.length + 1) (rrF s xs i) (rrM s xs) fun ex F M => M = rrM s xs ∧ (((wrongL l).isSome = true ∧ ex = .ret ∧ ∃ j, F = rrF s xs j) ∨ ((wrongL l).isSome = false ∧ ex = .exit 0 ∧ ∃ j, F = rrF s xs j)) := by
  intro l
  induction l with
  | nil =>
    intro pre i hxs hi
    have hl : xs.length = pre.length := by rw [hxs]; simp
    refine roundL [cRightNode] [] 400 30 7 5 Try.func7 rfl (by kernel_rfl) [false, true, true, true, false, false, false, false, false, false, false, false, false, false, false, false, false, false, false, false, false, false, false, false, false, false, false, false, false, false, false, false, false, false, false, false, false, false, false, false, false, false, false, false, false, false, false, false, false, false] (.br (.yes (.br .done .done)) .done) (.fork (!(leI (((xs).length : Nat) : Int) i)) (.need (@inR i (xs).length) (.fork (!(@rightV ((xs.getD (i).toNat QNodeV.zero)).kind ((xs.getD (i).toNat QNodeV.zero)).count ((xs.getD (i).toNat QNodeV.zero)).feat ((xs.getD (i).toNat QNodeV.zero)).lo ((xs.getD (i).toNat QNodeV.zero)).ln ((xs.getD (i).toNat QNodeV.zero)).ld ((xs.getD (i).toNat QNodeV.zero)).ho ((xs.getD (i).toNat QNodeV.zero)).hn ((xs.getD (i).toNat QNodeV.zero)).hd)) (.leaf (Ex.ret, ([none, (some (@AV.ptr 0 0)), (some (boo false)), (some (int i)), none, none, none, none, none, none, none, none, none, none, none, none, none, none, none, none, none, none, none, none, none, none, none, none, none, none, none, none, none, none, none, none, none, none, none, none, none, none, none, none, none, none, none, none, none, none], (@Mem.mk 1 0 [(some (@Blk.mk [(@AV.lit (@Value.string s)), (@qview xs)] 24 none))])))) (.leaf (Ex.norm, ([none, (some (@AV.ptr 0 0)), (some (boo false)), (some (int (w64 (i + (1 : Int))))), none, none, none, none, none, none, none, none, none, none, none, none, none, none, none, none, none, none, none, none, none, none, none, none, none, none, none, none, none, none, none, none, none, none, none, none, none, none, none, none, none, none, none, none, none, none], (@Mem.mk 1 0 [(some (@Blk.mk [(@AV.lit (@Value.string s)), (@qview xs)] 24 none))])))))) (.leaf ((@Ex.exit 0), ([none, (some (@AV.ptr 0 0)), (some (boo false)), (some (int i)), none, none, none, none, none, none, none, none, none, none, none, none, none, none, none, none, none, none, none, none, none, none, none, none, none, none, none, none, none, none, none, none, none, none, none, none, none, none, none, none, none, none, none, none, none, none], (@Mem.mk 1 0 [(some (@Blk.mk [(@AV.lit (@Value.string s)), (@qview xs)] 24 none))]))))) (by kernel_rfl) ?_
    refine fork_ok (fun h => ?_) (fun h => ⟨rfl, .inr ⟨rfl, rfl, i, rfl⟩⟩)
    simp only [Bool.not_eq_true', Bool.not_eq_false', leI_t, leI_f, eqI_t, eqI_f, inR_t, inR_f, isSo_t, isSo_f] at h
    omega
  | cons n l ih =>
    intro pre i hxs hi
    have hl : xs.length = pre.length + l.length + 1 := by rw [hxs]; simp; omega
    have hg : xs.getD i.toNat QNodeV.zero = n := by rw [hxs]; exact getD_at _ _ _ _ _ hi
    refine roundL [cRightNode] [] 400 30 7 5 Try.func7 rfl (by kernel_rfl) [false, true, true, true, false, false, false, false, false, false, false, false, false, false, false, false, false, false, false, false, false, false, false, false, false, false, false, false, false, false, false, false, false, false, false, false, false, false, false, false, false, false, false, false, false, false, false, false, false, false] (.br (.yes (.br .done .done)) .done) (.fork (!(leI (((xs).length : Nat) : Int) i)) (.need (@inR i (xs).length) (.fork (!(@rightV ((xs.getD (i).toNat QNodeV.zero)).kind ((xs.getD (i).toNat QNodeV.zero)).count ((xs.getD (i).toNat QNodeV.zero)).feat ((xs.getD (i).toNat QNodeV.zero)).lo ((xs.getD (i).toNat QNodeV.zero)).ln ((xs.getD (i).toNat QNodeV.zero)).ld ((xs.getD (i).toNat QNodeV.zero)).ho ((xs.getD (i).toNat QNodeV.zero)).hn ((xs.getD (i).toNat QNodeV.zero)).hd)) (.leaf (Ex.ret, ([none, (some (@AV.ptr 0 0)), (some (boo false)), (some (int i)), none, none, none, none, none, none, none, none, none, none, none, none, none, none, none, none, none, none, none, none, none, none, none, none, none, none, none, none, none, none, none, none, none, none, none, none, none, none, none, none, none, none, none, none, none, none], (@Mem.mk 1 0 [(some (@Blk.mk [(@AV.lit (@Value.string s)), (@qview xs)] 24 none))])))) (.leaf (Ex.norm, ([none, (some (@AV.ptr 0 0)), (some (boo false)), (some (int (w64 (i + (1 : Int))))), none, none, none, none, none, none, none, none, none, none, none, none, none, none, none, none, none, none, none, none, none, none, none, none, none, none, none, none, none, none, none, none, none, none, none, none, none, none, none, none, none, none, none, none, none, none], (@Mem.mk 1 0 [(some (@Blk.mk [(@AV.lit (@Value.string s)), (@qview xs)] 24 none))])))))) (.leaf ((@Ex.exit 0), ([none, (some (@AV.ptr 0 0)), (some (boo false)), (some (int i)), none, none, none, none, none, none, none, none, none, none, none, none, none, none, none, none, none, none, none, none, none, none, none, none, none, none, none, none, none, none, none, none, none, none, none, none, none, none, none, none, none, none, none, none, none, none], (@Mem.mk 1 0 [(some (@Blk.mk [(@AV.lit (@Value.string s)), (@qview xs)] 24 none))]))))) (by kernel_rfl) ?_
    have hr : inR i xs.length = true := by rw [inR_t]; omega
    rw [hg]
    refine fork_ok (fun h => need_t hr (fork_ok (fun h2 => ?_) (fun h2 => ?_))) (fun h => ?_)
    · simp only [Bool.not_eq_true', Bool.not_eq_false', leI_t, leI_f, eqI_t, eqI_f, inR_t, inR_f, isSo_t, isSo_f] at h2
      have hw : (wrongL (n :: l)).isSome = true := by unfold wrongL; rw [if_neg (by rw [h2]; simp)]; rfl
      exact ⟨rfl, .inl ⟨hw, rfl, i, rfl⟩⟩
    · simp only [Bool.not_eq_true', Bool.not_eq_false', leI_t, leI_f, eqI_t, eqI_f, inR_t, inR_f, isSo_t, isSo_f] at h2
      have hw : (wrongL (n :: l)).isSome = (wrongL l).isSome := by rw [wrongL, if_pos h2]; cases wrongL l <;> rfl
      rw [w64_in (r := i + 1) (by omega)]
      refine (ih (pre ++ [n]) (i + 1) (by rw [hxs]; simp) (by simp; omega)).mono fun ex F M hg => ?_
      rw [hw]
      exact hg
    · simp only [Bool.not_eq_true', Bool.not_eq_false', leI_t, leI_f, eqI_t, eqI_f, inR_t, inR_f, isSo_t, isSo_f] at h
      omega
namespace Sy
noncomputable abbrev rrRes (s : ByteArray) (xs : List QNodeV) (x : Int) : Tr (Ex × Fr × Mem) :=
  .fork (wrongL (xs.drop x.toNat)).isSome (.leaf (.ret, rrN s xs, rrM s xs)) (.leaf (.exit 0, rrN s xs, rrM s xs))
noncomputable abbrev rrLp (s : ByteArray) (xs : List QNodeV) : Lp Try.prog where
  f := 7
  key := 5
  S := formS (fun F M => slotI F 3) (fun x => rrF s xs x) (fun _ => rrM s xs) (fun x => xs.length ≤ 17592186044416 ∧ 0 ≤ x ∧ x ≤ xs.length) (rrRes s xs) [false, true, true, true, false, false, false, false, false, false, false, false, false, false, false, false, false, false, false, false, false, false, false, false, false, false, false, false, false, false, false, false, false, false, false, false, false, false, false, false, false, false, false, false, false, false, false, false, false, false]
  one := by kernel_rfl
  ok := formS_ok fun x ⟨h1, h2, h3⟩ => by
    refine ⟨(xs.drop x.toNat).length + 1, ?_⟩
    have h6 := Sy.rr_loop s xs h1 (xs.drop x.toNat) (xs.take x.toNat) x (by simp) (by simp; omega)
    refine (h6.out [false, true, true, false, false, false, false, false, false, false, false, false, false, false, false, false, false, false, false, false, false, false, false, false, false, false, false, false, false, false, false, false, false, false, false, false, false, false, false, false, false, false, false, false, false, false, false, false, false, false]).mono fun ex F M hg => ?_
    obtain ⟨F0, ⟨hM, hg⟩, rfl⟩ := hg
    rcases hg with ⟨q1, rfl, k', rfl⟩ | ⟨q1, rfl, k', rfl⟩
    · exact .inl ⟨q1, by rw [hM]; rfl⟩
    · exact .inr ⟨q1, by rw [hM]; rfl⟩
end Sy
/-sy right_ref
fun (s : ByteArray) (xs : List QNodeV) (d : D) => reckV [cNameR, cReservedR, cSpanRef s xs] [rrLp s xs] 400 30 7 [Sy.query s xs] M0 d
-/
theorem Sy.right_ref (s : ByteArray) (xs : List QNodeV) (hs : s.size ≤ maxLen) (hx : xs.length ≤ 17592186044416) : CallTo Try.prog 7 [Sy.query s xs] M0 fun v _ => v = boo (rightQ s xs) :=
  toV [cNameR, cReservedR, cSpanRef s xs] [rrLp s xs] 400 30 (.br (.auto 1 (.yes (.auto 1 (.br (.auto 1 (.yes (.auto 2 (.br .done (.br .done (.br (.auto 3 (.br (.auto 0 (.yes (.auto 4 .done))) (.auto 5 .done))) (.auto 10 .done))))))) (.auto 5 .done))))) (.auto 9 (.br .done (.br (.auto 3 (.br (.auto 0 (.yes (.auto 4 .done))) (.auto 5 .done))) (.auto 10 .done))))) (.fork (!(@bytesEq (@Array.toList _ (@ByteArray.data s)) (@Array.toList _ (@ByteArray.data (@ByteArray.mk (@Array.mk _ [])))))) (.need (@isSo ((@ByteArray.size s) ≤ 9223372036854775807)) (.fork (!(!(@Pl.nameL (@Array.toList _ (@ByteArray.data s))))) (.need (@isSo True) (.fork (@resB s) (.leaf (boo false)) (.need (@isSo (@And ((none :: [(some (@AV.ptr 0 0)), (some (boo false)), (some (int (0 : Int))), none, none, none, none, none, none, none, none, none, none, none, none, none, none, none, none, none, none, none, none, none, none, none, none, none, none, none, none, none, none, none, none, none, none, none, none, none, none, none, none, none, none, none, none, none, none]) = [none, (some (@AV.ptr 0 0)), (some (boo false)), (some (int (0 : Int))), none, none, none, none, none, none, none, none, none, none, none, none, none, none, none, none, none, none, none, none, none, none, none, none, none, none, none, none, none, none, none, none, none, none, none, none, none, none, none, none, none, none, none, none, none, none]) ((@Mem.mk 1 0 [(some (@Blk.mk [(@AV.lit (@Value.string s)), (@qview xs)] 24 none))]) = (@Mem.mk 1 0 [(some (@Blk.mk [(@AV.lit (@Value.string s)), (@qview xs)] 24 none))])))) (.need (@isSo (@And ((xs).length ≤ 17592186044416) (@And ((0 : Int) ≤ (0 : Int)) ((0 : Int) ≤ (((xs).length : Nat) : Int))))) (.fork (@Option.isSome _ (@wrongL xs)) (.leaf (boo false)) (.fork (!(leI (((xs).length : Nat) : Int) (0 : Int))) (.fork (leI (((xs).length : Nat) : Int) (32 : Int)) (.need (@isSo (@And ([(@AV.agg [(@AV.lit (@Value.string s)), (@qview xs)]), (int (0 : Int))] = [(@query s xs), (int (0 : Int))]) ((xs).length ≤ 17592186044416))) (.leaf (boo (eqI (@spanI xs (0 : Int)) (((xs).length : Nat) : Int))))) (.leaf (boo false))) (.leaf (boo false)))))))) (.leaf (boo false)))) (.need (@isSo (@And ((none :: [(some (@AV.ptr 0 0)), (some (boo false)), (some (int (0 : Int))), none, none, none, none, none, none, none, none, none, none, none, none, none, none, none, none, none, none, none, none, none, none, none, none, none, none, none, none, none, none, none, none, none, none, none, none, none, none, none, none, none, none, none, none, none, none]) = [none, (some (@AV.ptr 0 0)), (some (boo false)), (some (int (0 : Int))), none, none, none, none, none, none, none, none, none, none, none, none, none, none, none, none, none, none, none, none, none, none, none, none, none, none, none, none, none, none, none, none, none, none, none, none, none, none, none, none, none, none, none, none, none, none]) ((@Mem.mk 1 0 [(some (@Blk.mk [(@AV.lit (@Value.string s)), (@qview xs)] 24 none))]) = (@Mem.mk 1 0 [(some (@Blk.mk [(@AV.lit (@Value.string s)), (@qview xs)] 24 none))])))) (.need (@isSo (@And ((xs).length ≤ 17592186044416) (@And ((0 : Int) ≤ (0 : Int)) ((0 : Int) ≤ (((xs).length : Nat) : Int))))) (.fork (@Option.isSome _ (@wrongL xs)) (.leaf (boo false)) (.fork (!(leI (((xs).length : Nat) : Int) (0 : Int))) (.fork (leI (((xs).length : Nat) : Int) (32 : Int)) (.need (@isSo (@And ([(@AV.agg [(@AV.lit (@Value.string s)), (@qview xs)]), (int (0 : Int))] = [(@query s xs), (int (0 : Int))]) ((xs).length ≤ 17592186044416))) (.leaf (boo (eqI (@spanI xs (0 : Int)) (((xs).length : Nat) : Int))))) (.leaf (boo false))) (.leaf (boo false))))))) (by kernel_rfl) (by
    repeat' (first
      | refine fork_ok (fun _ => ?_) (fun _ => ?_)
      | refine need_so ⟨rfl, by (first | assumption | trivial | (try simp only [eqI_t, eqI_f, leI_t, leI_f, inR_t, inR_f, isSo_t, isSo_f, eqI_d, leI_d, decide_eq_true_eq, decide_eq_false_iff_not, Bool.not_eq_true', Bool.not_eq_false', Bool.false_eq_true, Bool.and_eq_true, Bool.or_eq_true, Bool.not_not, iff_false, false_iff, iff_true, true_iff] at *) <;> first | omega | grind)⟩ ?_
      | refine need_so (by (first | assumption | trivial | (try simp only [eqI_t, eqI_f, leI_t, leI_f, inR_t, inR_f, isSo_t, isSo_f, eqI_d, leI_d, decide_eq_true_eq, decide_eq_false_iff_not, Bool.not_eq_true', Bool.not_eq_false', Bool.false_eq_true, Bool.and_eq_true, Bool.or_eq_true, Bool.not_not, iff_false, false_iff, iff_true, true_iff] at *) <;> first | omega | grind)) ?_
      | refine need_t (by (first | assumption | trivial | (try simp only [eqI_t, eqI_f, leI_t, leI_f, inR_t, inR_f, isSo_t, isSo_f, eqI_d, leI_d, decide_eq_true_eq, decide_eq_false_iff_not, Bool.not_eq_true', Bool.not_eq_false', Bool.false_eq_true, Bool.and_eq_true, Bool.or_eq_true, Bool.not_not, iff_false, false_iff, iff_true, true_iff] at *) <;> first | omega | grind)) ?_)
    all_goals (first | refine leaf_boo ?_ | refine leaf_int ?_)
    all_goals (unfold rightQ; try simp only [eqI_t, eqI_f, leI_t, leI_f, inR_t, inR_f, isSo_t, isSo_f, eqI_d, leI_d, decide_eq_true_eq, decide_eq_false_iff_not, Bool.not_eq_true', Bool.not_eq_false', Bool.false_eq_true, Bool.and_eq_true, Bool.or_eq_true, Bool.not_not, iff_false, false_iff, iff_true, true_iff] at *)
    all_goals (first | omega | grind))
end Go.Proofs.Ytedooldplfjodaa
