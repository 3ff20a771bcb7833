/-
  Layer 8's law QuerySame.
-/
import Derived.Test.YtedooldplfjodaaLaw08
namespace Go.Proofs.Ytedooldplfjodaa
open Go Go.RowKit Pl Sy
set_option linter.unusedVariables false
set_option linter.unusedSimpArgs false

namespace Sy
abbrev eqF (xs ys : List QNodeV) (k : Int) : Fr := [some (qview xs), some (qview ys), none, none, some ((boo false)), none, none, none, none, none, none, none, some ((int (((xs).length : Nat) : Int))), some (int k), none, none, none, none, none, none, none, none, none, none, none, none]
abbrev seF (s t : ByteArray) (xs ys : List QNodeV) (k : Int) : Fr := [none, none, some ((@AV.ptr 0 0)), some ((@AV.ptr (0 + 1) 0)), some ((boo false)), some (int k), none, none, none, none, none, none, none, none, none, none, none, none, none, none, none, none, none, none, none, none, none, none, none, none, none, none, none, none, none, none, none, none]
abbrev seM (s t : ByteArray) (xs ys : List QNodeV) : Mem := (@Mem.mk ((0 + 1) + 1) 0 [(some (@Blk.mk [(@AV.lit (@Value.string t)), (@qview ys)] 24 none)), (some (@Blk.mk [(@AV.lit (@Value.string s)), (@qview xs)] 24 none))])
abbrev eqG (xs ys : List QNodeV) : Fr := [some (qview xs), some (qview ys), none, none, some ((boo false)), none, none, none, none, none, none, none, some ((int (((xs).length : Nat) : Int))), none, none, none, none, none, none, none, none, none, none, none, none, none]
abbrev seG (s t : ByteArray) (xs ys : List QNodeV) : Fr := [none, none, some ((@AV.ptr 0 0)), some ((@AV.ptr (0 + 1) 0)), some ((boo false)), none, none, none, none, none, none, none, none, none, none, none, none, none, none, none, none, none, none, none, none, none, none, none, none, none, none, none, none, none, none, none, none, none]
end Sy
/-- are two nodes the same? -/
noncomputable def eqN (x y : QNodeV) : Bool := ((eqI x.kind y.kind) && ((eqI x.count y.count) && ((eqI x.feat y.feat) && (((eqI x.lo y.lo) && ((eqI x.ln y.ln) && ((eqI x.ld y.ld) && true))) && (((eqI x.ho y.ho) && ((eqI x.hn y.hn) && ((eqI x.hd y.hd) && true))) && true)))))
noncomputable def eqFrom : List QNodeV → List QNodeV → Bool
  | x :: l, y :: m => eqN x y && eqFrom l m
  | _, _ => true
theorem eqI_self (a : Int) : eqI a a = true := by rw [eqI_t]
theorem eqFrom_self : ∀ l, eqFrom l l = true
  | [] => rfl
  | x :: l => by rw [eqFrom, eqFrom_self l]; unfold eqN; simp only [eqI_self]; rfl
theorem bytesEq_self : ∀ l, bytesEq l l = true := fun l => by
  induction l with
  | nil => rfl
  | cons x l ih => simp [bytesEq, ih]
/-sy eqs_r
fun (xs ys : List QNodeV) (k : Int) (d : D) => reckL [] [] 400 30 25 5 [true, true, false, false, true, false, false, false, false, false, false, false, true, true, false, false, false, false, false, false, false, false, false, false, false, false] (eqF xs ys k) M0 d
-/
/-sy ser_r
fun (s t : ByteArray) (xs ys : List QNodeV) (k : Int) (d : D) => reckL [] [] 400 30 11 5 [false, false, true, true, true, true, false, false, false, false, false, false, false, false, false, false, false, false, false, false, false, false, false, false, false, false, false, false, false, false, false, false, false, false, false, false, false, false] (seF s t xs ys k) (seM s t xs ys) d
-/
theorem Sy.loopEq (xs ys : List QNodeV) (hx : xs.length ≤ 17592186044416) : ∀ (r r2 pre pre2 : List QNodeV) (k : Int), xs = pre ++ r → ys = pre2 ++ r2 → k = pre.length → pre2.length = pre.length → r2.length = r.length →
    LoopTo Try.prog (theBody Try.prog 25 5) (r.length + 1) (eqF xs ys k) M0 fun ex F M => M = M0 ∧ ((eqFrom r r2 = true ∧ ex = .exit 0 ∧ ∃ j, F = eqF xs ys j) ∨ (eqFrom r r2 = false ∧ ex = .ret ∧ ∃ j, F = eqF xs ys j)) := by
  intro r
  induction r with
  | nil =>
    intro r2 pre pre2 k hxs hys hk hp hr
    have hl : xs.length = pre.length := by rw [hxs]; simp
    refine roundL [] [] 400 30 25 5 Try.func25 rfl (by kernel_rfl) [true, true, false, false, true, false, false, false, false, false, false, false, true, true, false, false, false, false, false, false, false, false, false, false, false, false] (.br (.yes (.yes (.br .done .done))) .done) (.fork (!(leI (((xs).length : Nat) : Int) k)) (.need (@inR k (xs).length) (.need (@inR k (ys).length) (.fork (!((eqI ((xs.getD (k).toNat QNodeV.zero)).kind ((ys.getD (k).toNat QNodeV.zero)).kind) && ((eqI ((xs.getD (k).toNat QNodeV.zero)).count ((ys.getD (k).toNat QNodeV.zero)).count) && ((eqI ((xs.getD (k).toNat QNodeV.zero)).feat ((ys.getD (k).toNat QNodeV.zero)).feat) && (((eqI ((xs.getD (k).toNat QNodeV.zero)).lo ((ys.getD (k).toNat QNodeV.zero)).lo) && ((eqI ((xs.getD (k).toNat QNodeV.zero)).ln ((ys.getD (k).toNat QNodeV.zero)).ln) && ((eqI ((xs.getD (k).toNat QNodeV.zero)).ld ((ys.getD (k).toNat QNodeV.zero)).ld) && true))) && (((eqI ((xs.getD (k).toNat QNodeV.zero)).ho ((ys.getD (k).toNat QNodeV.zero)).ho) && ((eqI ((xs.getD (k).toNat QNodeV.zero)).hn ((ys.getD (k).toNat QNodeV.zero)).hn) && ((eqI ((xs.getD (k).toNat QNodeV.zero)).hd ((ys.getD (k).toNat QNodeV.zero)).hd) && true))) && true)))))) (.leaf (Ex.ret, ([(some (@qview xs)), (some (@qview ys)), none, none, (some (boo false)), none, none, none, none, none, none, none, (some (int (((xs).length : Nat) : Int))), (some (int k)), none, none, none, none, none, none, none, none, none, none, none, none], (@Mem.mk 0 0 [])))) (.leaf (Ex.norm, ([(some (@qview xs)), (some (@qview ys)), none, none, (some (boo false)), none, none, none, none, none, none, none, (some (int (((xs).length : Nat) : Int))), (some (int (w64 (k + (1 : Int))))), none, none, none, none, none, none, none, none, none, none, none, none], (@Mem.mk 0 0 []))))))) (.leaf ((@Ex.exit 0), ([(some (@qview xs)), (some (@qview ys)), none, none, (some (boo false)), none, none, none, none, none, none, none, (some (int (((xs).length : Nat) : Int))), (some (int k)), none, none, none, none, none, none, none, none, none, none, none, none], (@Mem.mk 0 0 []))))) (by kernel_rfl) ?_
    refine fork_ok (fun h => ?_) (fun h => ⟨rfl, .inl ⟨rfl, rfl, k, rfl⟩⟩)
    simp only [Bool.not_eq_true', Bool.not_eq_false', leI_t, leI_f, eqI_t, eqI_f, inR_t, inR_f, isSo_t, isSo_f] at h
    omega
  | cons x r ih =>
    intro r2 pre pre2 k hxs hys hk hp hr
    cases r2 with
    | nil => simp at hr
    | cons y r2 =>
      have hl : xs.length = pre.length + r.length + 1 := by rw [hxs]; simp; omega
      have hl2 : ys.length = pre.length + r.length + 1 := by
        rw [hys]
        simp only [List.length_append, List.length_cons] at hr ⊢
        omega
      have hg : xs.getD k.toNat QNodeV.zero = x := by rw [hxs]; exact getD_at _ _ _ _ _ hk
      have hg2 : ys.getD k.toNat QNodeV.zero = y := by rw [hys]; exact getD_at _ _ _ _ _ (by omega)
      refine roundL [] [] 400 30 25 5 Try.func25 rfl (by kernel_rfl) [true, true, false, false, true, false, false, false, false, false, false, false, true, true, false, false, false, false, false, false, false, false, false, false, false, false] (.br (.yes (.yes (.br .done .done))) .done) (.fork (!(leI (((xs).length : Nat) : Int) k)) (.need (@inR k (xs).length) (.need (@inR k (ys).length) (.fork (!((eqI ((xs.getD (k).toNat QNodeV.zero)).kind ((ys.getD (k).toNat QNodeV.zero)).kind) && ((eqI ((xs.getD (k).toNat QNodeV.zero)).count ((ys.getD (k).toNat QNodeV.zero)).count) && ((eqI ((xs.getD (k).toNat QNodeV.zero)).feat ((ys.getD (k).toNat QNodeV.zero)).feat) && (((eqI ((xs.getD (k).toNat QNodeV.zero)).lo ((ys.getD (k).toNat QNodeV.zero)).lo) && ((eqI ((xs.getD (k).toNat QNodeV.zero)).ln ((ys.getD (k).toNat QNodeV.zero)).ln) && ((eqI ((xs.getD (k).toNat QNodeV.zero)).ld ((ys.getD (k).toNat QNodeV.zero)).ld) && true))) && (((eqI ((xs.getD (k).toNat QNodeV.zero)).ho ((ys.getD (k).toNat QNodeV.zero)).ho) && ((eqI ((xs.getD (k).toNat QNodeV.zero)).hn ((ys.getD (k).toNat QNodeV.zero)).hn) && ((eqI ((xs.getD (k).toNat QNodeV.zero)).hd ((ys.getD (k).toNat QNodeV.zero)).hd) && true))) && true)))))) (.leaf (Ex.ret, ([(some (@qview xs)), (some (@qview ys)), none, none, (some (boo false)), none, none, none, none, none, none, none, (some (int (((xs).length : Nat) : Int))), (some (int k)), none, none, none, none, none, none, none, none, none, none, none, none], (@Mem.mk 0 0 [])))) (.leaf (Ex.norm, ([(some (@qview xs)), (some (@qview ys)), none, none, (some (boo false)), none, none, none, none, none, none, none, (some (int (((xs).length : Nat) : Int))), (some (int (w64 (k + (1 : Int))))), none, none, none, none, none, none, none, none, none, none, none, none], (@Mem.mk 0 0 []))))))) (.leaf ((@Ex.exit 0), ([(some (@qview xs)), (some (@qview ys)), none, none, (some (boo false)), none, none, none, none, none, none, none, (some (int (((xs).length : Nat) : Int))), (some (int k)), none, none, none, none, none, none, none, none, none, none, none, none], (@Mem.mk 0 0 []))))) (by kernel_rfl) ?_
      have hr1 : inR k xs.length = true := by rw [inR_t]; omega
      have hr2 : inR k ys.length = true := by rw [inR_t]; omega
      rw [hg, hg2]
      refine fork_ok (fun h => need_t hr1 (need_t hr2 (fork_ok (fun h2 => ?_) (fun h2 => ?_)))) (fun h => ?_)
      · have h3 : (!eqN x y) = true := h2
        have hw : eqFrom (x :: r) (y :: r2) = false := by rw [eqFrom]; cases he : eqN x y with
          | false => rfl
          | true => rw [he] at h3; cases h3
        exact ⟨rfl, .inr ⟨hw, rfl, k, rfl⟩⟩
      · have h3 : (!eqN x y) = false := h2
        have hw : eqFrom (x :: r) (y :: r2) = eqFrom r r2 := by rw [eqFrom]; cases he : eqN x y with
          | true => rfl
          | false => rw [he] at h3; cases h3
        rw [w64_in (r := k + 1) (by omega)]
        refine (ih r2 (pre ++ [x]) (pre2 ++ [y]) (k + 1) (by rw [hxs]; simp) (by rw [hys]; simp) (by simp; omega) (by simp; omega) (by simpa using hr)).mono fun ex F M hg => ?_
        rw [hw]
        exact hg
      · simp only [Bool.not_eq_true', Bool.not_eq_false', leI_t, leI_f, eqI_t, eqI_f, inR_t, inR_f, isSo_t, isSo_f] at h
        omega
namespace Sy
noncomputable abbrev lpEq (xs ys : List QNodeV) : Lp Try.prog where
  f := 25
  key := 5
  S := formS (fun F M => slotI F 13) (fun k => eqF xs ys k) (fun _ => M0) (fun k => xs.length ≤ 17592186044416 ∧ k = 0 ∧ ys.length = xs.length) (fun k => .fork (eqFrom xs ys) (.leaf (.exit 0, eqG xs ys, M0)) (.leaf (.ret, eqG xs ys, M0))) [true, true, false, false, true, false, false, false, false, false, false, false, true, true, false, false, false, false, false, false, false, false, false, false, false, false]
  one := by kernel_rfl
  ok := formS_ok fun k ⟨h1, h2, h3⟩ => by
    subst h2
    refine ⟨xs.length + 1, ?_⟩
    have h6 := Sy.loopEq xs ys h1 xs ys [] [] 0 rfl rfl rfl rfl h3
    refine (h6.out [true, true, false, false, true, false, false, false, false, false, false, false, true, false, false, false, false, false, false, false, false, false, false, false, false, false]).mono fun ex F M hg => ?_
    obtain ⟨F0, ⟨hM, hg⟩, rfl⟩ := hg
    rcases hg with ⟨q1, rfl, k', rfl⟩ | ⟨q1, rfl, k', rfl⟩
    · exact .inl ⟨q1, by rw [hM]; rfl⟩
    · exact .inr ⟨q1, by rw [hM]; rfl⟩
end Sy
theorem Sy.loopSe (s t : ByteArray) (xs ys : List QNodeV) (hx : xs.length ≤ 17592186044416) : ∀ (r r2 pre pre2 : List QNodeV) (k : Int), xs = pre ++ r → ys = pre2 ++ r2 → k = pre.length → pre2.length = pre.length → r2.length = r.length →
    LoopTo Try.prog (theBody Try.prog 11 5) (r.length + 1) (seF s t xs ys k) (seM s t xs ys) fun ex F M => M = seM s t xs ys ∧ ((eqFrom r r2 = true ∧ ex = .exit 0 ∧ ∃ j, F = seF s t xs ys j) ∨ (eqFrom r r2 = false ∧ ex = .ret ∧ ∃ j, F = seF s t xs ys j)) := by
  intro r
  induction r with
  | nil =>
    intro r2 pre pre2 k hxs hys hk hp hr
    have hl : xs.length = pre.length := by rw [hxs]; simp
    refine roundL [] [] 400 30 11 5 Try.func11 rfl (by kernel_rfl) [false, false, true, true, true, true, false, false, false, false, false, false, false, false, false, false, false, false, false, false, false, false, false, false, false, false, false, false, false, false, false, false, false, false, false, false, false, false] (.br (.yes (.yes (.br .done .done))) .done) (.fork (!(leI (((xs).length : Nat) : Int) k)) (.need (@inR k (xs).length) (.need (@inR k (ys).length) (.fork (!((eqI ((xs.getD (k).toNat QNodeV.zero)).kind ((ys.getD (k).toNat QNodeV.zero)).kind) && ((eqI ((xs.getD (k).toNat QNodeV.zero)).count ((ys.getD (k).toNat QNodeV.zero)).count) && ((eqI ((xs.getD (k).toNat QNodeV.zero)).feat ((ys.getD (k).toNat QNodeV.zero)).feat) && (((eqI ((xs.getD (k).toNat QNodeV.zero)).lo ((ys.getD (k).toNat QNodeV.zero)).lo) && ((eqI ((xs.getD (k).toNat QNodeV.zero)).ln ((ys.getD (k).toNat QNodeV.zero)).ln) && ((eqI ((xs.getD (k).toNat QNodeV.zero)).ld ((ys.getD (k).toNat QNodeV.zero)).ld) && true))) && (((eqI ((xs.getD (k).toNat QNodeV.zero)).ho ((ys.getD (k).toNat QNodeV.zero)).ho) && ((eqI ((xs.getD (k).toNat QNodeV.zero)).hn ((ys.getD (k).toNat QNodeV.zero)).hn) && ((eqI ((xs.getD (k).toNat QNodeV.zero)).hd ((ys.getD (k).toNat QNodeV.zero)).hd) && true))) && true)))))) (.leaf (Ex.ret, ([none, none, (some (@AV.ptr 0 0)), (some (@AV.ptr 1 0)), (some (boo false)), (some (int k)), none, none, none, none, none, none, none, none, none, none, none, none, none, none, none, none, none, none, none, none, none, none, none, none, none, none, none, none, none, none, none, none], (@Mem.mk 2 0 [(some (@Blk.mk [(@AV.lit (@Value.string t)), (@qview ys)] 24 none)), (some (@Blk.mk [(@AV.lit (@Value.string s)), (@qview xs)] 24 none))])))) (.leaf (Ex.norm, ([none, none, (some (@AV.ptr 0 0)), (some (@AV.ptr 1 0)), (some (boo false)), (some (int (w64 (k + (1 : Int))))), none, none, none, none, none, none, none, none, none, none, none, none, none, none, none, none, none, none, none, none, none, none, none, none, none, none, none, none, none, none, none, none], (@Mem.mk 2 0 [(some (@Blk.mk [(@AV.lit (@Value.string t)), (@qview ys)] 24 none)), (some (@Blk.mk [(@AV.lit (@Value.string s)), (@qview xs)] 24 none))]))))))) (.leaf ((@Ex.exit 0), ([none, none, (some (@AV.ptr 0 0)), (some (@AV.ptr 1 0)), (some (boo false)), (some (int k)), none, none, none, none, none, none, none, none, none, none, none, none, none, none, none, none, none, none, none, none, none, none, none, none, none, none, none, none, none, none, none, none], (@Mem.mk 2 0 [(some (@Blk.mk [(@AV.lit (@Value.string t)), (@qview ys)] 24 none)), (some (@Blk.mk [(@AV.lit (@Value.string s)), (@qview xs)] 24 none))]))))) (by kernel_rfl) ?_
    refine fork_ok (fun h => ?_) (fun h => ⟨rfl, .inl ⟨rfl, rfl, k, rfl⟩⟩)
    simp only [Bool.not_eq_true', Bool.not_eq_false', leI_t, leI_f, eqI_t, eqI_f, inR_t, inR_f, isSo_t, isSo_f] at h
    omega
  | cons x r ih =>
    intro r2 pre pre2 k hxs hys hk hp hr
    cases r2 with
    | nil => simp at hr
    | cons y r2 =>
      have hl : xs.length = pre.length + r.length + 1 := by rw [hxs]; simp; omega
      have hl2 : ys.length = pre.length + r.length + 1 := by
        rw [hys]
        simp only [List.length_append, List.length_cons] at hr ⊢
        omega
      have hg : xs.getD k.toNat QNodeV.zero = x := by rw [hxs]; exact getD_at _ _ _ _ _ hk
      have hg2 : ys.getD k.toNat QNodeV.zero = y := by rw [hys]; exact getD_at _ _ _ _ _ (by omega)
      refine roundL [] [] 400 30 11 5 Try.func11 rfl (by kernel_rfl) [false, false, true, true, true, true, false, false, false, false, false, false, false, false, false, false, false, false, false, false, false, false, false, false, false, false, false, false, false, false, false, false, false, false, false, false, false, false] (.br (.yes (.yes (.br .done .done))) .done) (.fork (!(leI (((xs).length : Nat) : Int) k)) (.need (@inR k (xs).length) (.need (@inR k (ys).length) (.fork (!((eqI ((xs.getD (k).toNat QNodeV.zero)).kind ((ys.getD (k).toNat QNodeV.zero)).kind) && ((eqI ((xs.getD (k).toNat QNodeV.zero)).count ((ys.getD (k).toNat QNodeV.zero)).count) && ((eqI ((xs.getD (k).toNat QNodeV.zero)).feat ((ys.getD (k).toNat QNodeV.zero)).feat) && (((eqI ((xs.getD (k).toNat QNodeV.zero)).lo ((ys.getD (k).toNat QNodeV.zero)).lo) && ((eqI ((xs.getD (k).toNat QNodeV.zero)).ln ((ys.getD (k).toNat QNodeV.zero)).ln) && ((eqI ((xs.getD (k).toNat QNodeV.zero)).ld ((ys.getD (k).toNat QNodeV.zero)).ld) && true))) && (((eqI ((xs.getD (k).toNat QNodeV.zero)).ho ((ys.getD (k).toNat QNodeV.zero)).ho) && ((eqI ((xs.getD (k).toNat QNodeV.zero)).hn ((ys.getD (k).toNat QNodeV.zero)).hn) && ((eqI ((xs.getD (k).toNat QNodeV.zero)).hd ((ys.getD (k).toNat QNodeV.zero)).hd) && true))) && true)))))) (.leaf (Ex.ret, ([none, none, (some (@AV.ptr 0 0)), (some (@AV.ptr 1 0)), (some (boo false)), (some (int k)), none, none, none, none, none, none, none, none, none, none, none, none, none, none, none, none, none, none, none, none, none, none, none, none, none, none, none, none, none, none, none, none], (@Mem.mk 2 0 [(some (@Blk.mk [(@AV.lit (@Value.string t)), (@qview ys)] 24 none)), (some (@Blk.mk [(@AV.lit (@Value.string s)), (@qview xs)] 24 none))])))) (.leaf (Ex.norm, ([none, none, (some (@AV.ptr 0 0)), (some (@AV.ptr 1 0)), (some (boo false)), (some (int (w64 (k + (1 : Int))))), none, none, none, none, none, none, none, none, none, none, none, none, none, none, none, none, none, none, none, none, none, none, none, none, none, none, none, none, none, none, none, none], (@Mem.mk 2 0 [(some (@Blk.mk [(@AV.lit (@Value.string t)), (@qview ys)] 24 none)), (some (@Blk.mk [(@AV.lit (@Value.string s)), (@qview xs)] 24 none))]))))))) (.leaf ((@Ex.exit 0), ([none, none, (some (@AV.ptr 0 0)), (some (@AV.ptr 1 0)), (some (boo false)), (some (int k)), none, none, none, none, none, none, none, none, none, none, none, none, none, none, none, none, none, none, none, none, none, none, none, none, none, none, none, none, none, none, none, none], (@Mem.mk 2 0 [(some (@Blk.mk [(@AV.lit (@Value.string t)), (@qview ys)] 24 none)), (some (@Blk.mk [(@AV.lit (@Value.string s)), (@qview xs)] 24 none))]))))) (by kernel_rfl) ?_
      have hr1 : inR k xs.length = true := by rw [inR_t]; omega
      have hr2 : inR k ys.length = true := by rw [inR_t]; omega
      rw [hg, hg2]
      refine fork_ok (fun h => need_t hr1 (need_t hr2 (fork_ok (fun h2 => ?_) (fun h2 => ?_)))) (fun h => ?_)
      · have h3 : (!eqN x y) = true := h2
        have hw : eqFrom (x :: r) (y :: r2) = false := by rw [eqFrom]; cases he : eqN x y with
          | false => rfl
          | true => rw [he] at h3; cases h3
        exact ⟨rfl, .inr ⟨hw, rfl, k, rfl⟩⟩
      · have h3 : (!eqN x y) = false := h2
        have hw : eqFrom (x :: r) (y :: r2) = eqFrom r r2 := by rw [eqFrom]; cases he : eqN x y with
          | true => rfl
          | false => rw [he] at h3; cases h3
        rw [w64_in (r := k + 1) (by omega)]
        refine (ih r2 (pre ++ [x]) (pre2 ++ [y]) (k + 1) (by rw [hxs]; simp) (by rw [hys]; simp) (by simp; omega) (by simp; omega) (by simpa using hr)).mono fun ex F M hg => ?_
        rw [hw]
        exact hg
      · simp only [Bool.not_eq_true', Bool.not_eq_false', leI_t, leI_f, eqI_t, eqI_f, inR_t, inR_f, isSo_t, isSo_f] at h
        omega
namespace Sy
noncomputable abbrev lpSe (s t : ByteArray) (xs ys : List QNodeV) : Lp Try.prog where
  f := 11
  key := 5
  S := formS (fun F M => slotI F 5) (fun k => seF s t xs ys k) (fun _ => seM s t xs ys) (fun k => xs.length ≤ 17592186044416 ∧ k = 0 ∧ ys.length = xs.length) (fun k => .fork (eqFrom xs ys) (.leaf (.exit 0, seG s t xs ys, seM s t xs ys)) (.leaf (.ret, seG s t xs ys, seM s t xs ys))) [false, false, true, true, true, true, false, false, false, false, false, false, false, false, false, false, false, false, false, false, false, false, false, false, false, false, false, false, false, false, false, false, false, false, false, false, false, false]
  one := by kernel_rfl
  ok := formS_ok fun k ⟨h1, h2, h3⟩ => by
    subst h2
    refine ⟨xs.length + 1, ?_⟩
    have h6 := Sy.loopSe s t xs ys h1 xs ys [] [] 0 rfl rfl rfl rfl h3
    refine (h6.out [false, false, true, true, true, false, false, false, false, false, false, false, false, false, false, false, false, false, false, false, false, false, false, false, false, false, false, false, false, false, false, false, false, false, false, false, false, false]).mono fun ex F M hg => ?_
    obtain ⟨F0, ⟨hM, hg⟩, rfl⟩ := hg
    rcases hg with ⟨q1, rfl, k', rfl⟩ | ⟨q1, rfl, k', rfl⟩
    · exact .inl ⟨q1, by rw [hM]; rfl⟩
    · exact .inr ⟨q1, by rw [hM]; rfl⟩
end Sy
/-sy eqs_t
fun (xs ys : List QNodeV) (d : D) => reckV [] [lpEq xs ys] 400 30 25 [qview xs, qview ys] M0 d
-/
/-sy ser_t
fun (s t : ByteArray) (xs ys : List QNodeV) (d : D) => reckV [] [lpSe s t xs ys] 400 30 11 [Sy.query s xs, Sy.query t ys] M0 d
-/
noncomputable def sameQ (s t : ByteArray) (xs ys : List QNodeV) : Bool := bytesEq s.data.toList t.data.toList && (decide (xs.length = ys.length) && eqFrom xs ys)
theorem Sy.eqs_t (xs ys : List QNodeV) (hx : xs.length ≤ 17592186044416) : CallTo Try.prog 25 [qview xs, qview ys] M0 fun v _ => v = boo (decide (xs.length = ys.length) && eqFrom xs ys) :=
  toV [] [lpEq xs ys] 400 30 (.br .done (.br .done .done)) (.fork (!(eqI (((xs).length : Nat) : Int) (((ys).length : Nat) : Int))) (.leaf (boo false)) (.need (@isSo (@And (((some (@qview xs)) :: (some (@qview ys)) :: [none, none, (some (boo false)), none, none, none, none, none, none, none, (some (int (((xs).length : Nat) : Int))), (some (int (0 : Int))), none, none, none, none, none, none, none, none, none, none, none, none]) = [(some (@qview xs)), (some (@qview ys)), none, none, (some (boo false)), none, none, none, none, none, none, none, (some (int (((xs).length : Nat) : Int))), (some (int (0 : Int))), none, none, none, none, none, none, none, none, none, none, none, none]) ((@Mem.mk 0 0 []) = M0))) (.need (@isSo (@And ((xs).length ≤ 17592186044416) (@And ((0 : Int) = (0 : Int)) ((ys).length = (xs).length)))) (.fork (@eqFrom xs ys) (.leaf (boo true)) (.leaf (boo false)))))) (by kernel_rfl) (by
    refine fork_ok (fun h => ?_) (fun h => need_so ⟨rfl, rfl⟩ (need_so ⟨hx, rfl, ?_⟩ (fork_ok (fun h2 => ?_) (fun h2 => ?_))))
    · simp only [Bool.not_eq_true', Bool.not_eq_false', leI_t, leI_f, eqI_t, eqI_f, inR_t, inR_f, isSo_t, isSo_f] at h
      rw [decide_eq_false (by omega)]; exact rfl
    · simp only [Bool.not_eq_true', Bool.not_eq_false', leI_t, leI_f, eqI_t, eqI_f, inR_t, inR_f, isSo_t, isSo_f] at h
      omega
    · simp only [Bool.not_eq_true', Bool.not_eq_false', leI_t, leI_f, eqI_t, eqI_f, inR_t, inR_f, isSo_t, isSo_f] at h
      rw [decide_eq_true (by omega), h2]; exact rfl
    · simp only [Bool.not_eq_true', Bool.not_eq_false', leI_t, leI_f, eqI_t, eqI_f, inR_t, inR_f, isSo_t, isSo_f] at h
      rw [decide_eq_true (by omega), h2]; exact rfl)
noncomputable abbrev Sy.cEqs (xs ys : List QNodeV) : Con Try.prog := at1 25 [qview xs, qview ys] (boo (decide (xs.length = ys.length) && eqFrom xs ys)) (xs.length ≤ 17592186044416) fun h => ⟨⟨⟨viewOf_free QNodeV.cells QNodeV.zero 9 xs, viewOf_free QNodeV.cells QNodeV.zero 9 ys, trivial⟩, trivial⟩, eqs_t xs ys h⟩
theorem Sy.ser_t (s t : ByteArray) (xs ys : List QNodeV) (hx : xs.length ≤ 17592186044416) : CallTo Try.prog 11 [Sy.query s xs, Sy.query t ys] M0 fun v _ => v = boo (sameQ s t xs ys) :=
  toV [] [lpSe s t xs ys] 400 30 (.br (.auto 6 (.br .done (.br .done .done))) (.auto 7 .done)) (.fork (!(!(@bytesEq (@Array.toList _ (@ByteArray.data s)) (@Array.toList _ (@ByteArray.data t))))) (.fork (!(eqI (((xs).length : Nat) : Int) (((ys).length : Nat) : Int))) (.leaf (boo false)) (.need (@isSo (@And ((none :: none :: [(some (@AV.ptr 0 0)), (some (@AV.ptr (0 + 1) 0)), (some (boo false)), (some (int (0 : Int))), none, none, none, none, none, none, none, none, none, none, none, none, none, none, none, none, none, none, none, none, none, none, none, none, none, none, none, none, none, none, none, none]) = [none, none, (some (@AV.ptr 0 0)), (some (@AV.ptr 1 0)), (some (boo false)), (some (int (0 : Int))), none, none, none, none, none, none, none, none, none, none, none, none, none, none, none, none, none, none, none, none, none, none, none, none, none, none, none, none, none, none, none, none]) ((@Mem.mk ((0 + 1) + 1) 0 [(some (@Blk.mk [(@AV.lit (@Value.string t)), (@qview ys)] 24 none)), (some (@Blk.mk [(@AV.lit (@Value.string s)), (@qview xs)] 24 none))]) = (@Mem.mk 2 0 [(some (@Blk.mk [(@AV.lit (@Value.string t)), (@qview ys)] 24 none)), (some (@Blk.mk [(@AV.lit (@Value.string s)), (@qview xs)] 24 none))])))) (.need (@isSo (@And ((xs).length ≤ 17592186044416) (@And ((0 : Int) = (0 : Int)) ((ys).length = (xs).length)))) (.fork (@eqFrom xs ys) (.leaf (boo true)) (.leaf (boo false)))))) (.leaf (boo false))) (by kernel_rfl) (by
    unfold sameQ
    refine fork_ok (fun h0 => fork_ok (fun h => ?_) (fun h => need_so ⟨rfl, rfl⟩ (need_so ⟨hx, rfl, ?_⟩ (fork_ok (fun h2 => ?_) (fun h2 => ?_))))) (fun h0 => ?_)
    · simp only [Bool.not_eq_true', Bool.not_eq_false', leI_t, leI_f, eqI_t, eqI_f, inR_t, inR_f, isSo_t, isSo_f] at h
      rw [decide_eq_false (by omega), Bool.false_and, Bool.and_false]; exact rfl
    · simp only [Bool.not_eq_true', Bool.not_eq_false', leI_t, leI_f, eqI_t, eqI_f, inR_t, inR_f, isSo_t, isSo_f] at h
      omega
    · simp only [Bool.not_eq_true', Bool.not_eq_false', leI_t, leI_f, eqI_t, eqI_f, inR_t, inR_f, isSo_t, isSo_f] at h
      have h0' : bytesEq s.data.toList t.data.toList = true := by simpa using h0
      rw [decide_eq_true (by omega), h2, h0']; exact rfl
    · simp only [Bool.not_eq_true', Bool.not_eq_false', leI_t, leI_f, eqI_t, eqI_f, inR_t, inR_f, isSo_t, isSo_f] at h
      rw [h2, Bool.and_false, Bool.and_false]; exact rfl
    · have h0' : bytesEq s.data.toList t.data.toList = false := by simpa using h0
      rw [h0']; exact rfl)
/-sy same_t
fun (s t : ByteArray) (xs ys : List QNodeV) (d : D) => reckV [cEqs xs ys] [] 400 30 10 [Sy.query s xs, Sy.query t ys] M0 d
-/
theorem Sy.same_t (s t : ByteArray) (xs ys : List QNodeV) (hx : xs.length ≤ 17592186044416) : CallTo Try.prog 10 [Sy.query s xs, Sy.query t ys] M0 fun v _ => v = boo (sameQ s t xs ys) :=
  toV [cEqs xs ys] [] 400 30 (.br (.auto 3 (.yes (.auto 0 .done))) (.auto 4 .done)) (.fork (@bytesEq (@Array.toList _ (@ByteArray.data s)) (@Array.toList _ (@ByteArray.data t))) (.need (@isSo (@And ([(@AV.view (xs).length 9 (fun x835983 => (fun x642219 => (@AV.lit ([(@Value.int IntKind.i64 ((xs.getD x835983 QNodeV.zero)).kind), (@Value.int IntKind.i64 ((xs.getD x835983 QNodeV.zero)).count), (@Value.int IntKind.i64 ((xs.getD x835983 QNodeV.zero)).feat), (@Value.int IntKind.i64 ((xs.getD x835983 QNodeV.zero)).lo), (@Value.int IntKind.i64 ((xs.getD x835983 QNodeV.zero)).ln), (@Value.int IntKind.i64 ((xs.getD x835983 QNodeV.zero)).ld), (@Value.int IntKind.i64 ((xs.getD x835983 QNodeV.zero)).ho), (@Value.int IntKind.i64 ((xs.getD x835983 QNodeV.zero)).hn), (@Value.int IntKind.i64 ((xs.getD x835983 QNodeV.zero)).hd)].getD x642219 (@Value.tuple (@Array.mk _ []))))))), (@AV.view (ys).length 9 (fun x385948 => (fun x570185 => (@AV.lit ([(@Value.int IntKind.i64 ((ys.getD x385948 QNodeV.zero)).kind), (@Value.int IntKind.i64 ((ys.getD x385948 QNodeV.zero)).count), (@Value.int IntKind.i64 ((ys.getD x385948 QNodeV.zero)).feat), (@Value.int IntKind.i64 ((ys.getD x385948 QNodeV.zero)).lo), (@Value.int IntKind.i64 ((ys.getD x385948 QNodeV.zero)).ln), (@Value.int IntKind.i64 ((ys.getD x385948 QNodeV.zero)).ld), (@Value.int IntKind.i64 ((ys.getD x385948 QNodeV.zero)).ho), (@Value.int IntKind.i64 ((ys.getD x385948 QNodeV.zero)).hn), (@Value.int IntKind.i64 ((ys.getD x385948 QNodeV.zero)).hd)].getD x570185 (@Value.tuple (@Array.mk _ [])))))))] = [(@qview xs), (@qview ys)]) ((xs).length ≤ 17592186044416))) (.leaf (boo ((@Decidable.decide ((xs).length = (ys).length) _) && (@eqFrom xs ys))))) (.leaf (boo false))) (by kernel_rfl) (by
    unfold sameQ
    refine fork_ok (fun h0 => need_so ⟨rfl, hx⟩ ?_) (fun h0 => ?_)
    · rw [h0]; exact rfl
    · rw [h0]; exact rfl)
theorem qview_inj {xs ys : List QNodeV} (h : Sy.qview xs = Sy.qview ys) : xs = ys := by
  simp only [Sy.viewOf, AV.view.injEq, true_and] at h
  obtain ⟨hl, hc⟩ := h
  apply List.ext_getElem hl
  intro i h1 h2
  have key : ∀ j, ((QNodeV.cells (xs.getD i QNodeV.zero)).getD j undef) = ((QNodeV.cells (ys.getD i QNodeV.zero)).getD j undef) := fun j => by
    have := congrFun (congrFun hc i) j
    simpa using this
  have g1 : xs.getD i QNodeV.zero = xs[i] := by rw [List.getD_eq_getElem?_getD, List.getElem?_eq_getElem h1]; rfl
  have g2 : ys.getD i QNodeV.zero = ys[i] := by rw [List.getD_eq_getElem?_getD, List.getElem?_eq_getElem h2]; rfl
  rw [g1, g2] at key
  have k0 := key 0; have k1 := key 1; have k2 := key 2; have k3 := key 3; have k4 := key 4; have k5 := key 5; have k6 := key 6; have k7 := key 7; have k8 := key 8
  generalize xs[i] = a at *
  generalize ys[i] = b at *
  cases a
  cases b
  simp [QNodeV.cells] at k0 k1 k2 k3 k4 k5 k6 k7 k8
  subst k0 k1 k2 k3 k4 k5 k6 k7 k8
  rfl
open Classical in
noncomputable def sameV (s t : ByteArray) (vx vy : AV) : Bool := if h : ∃ p : List QNodeV × List QNodeV, vx = Sy.qview p.1 ∧ vy = Sy.qview p.2 then sameQ s t h.choose.1 h.choose.2 else false
theorem sameV_eq (s t : ByteArray) (xs ys : List QNodeV) : sameV s t (Sy.qview xs) (Sy.qview ys) = sameQ s t xs ys := by
  unfold sameV
  have h : ∃ p : List QNodeV × List QNodeV, Sy.qview xs = Sy.qview p.1 ∧ Sy.qview ys = Sy.qview p.2 := ⟨(xs, ys), rfl, rfl⟩
  rw [dif_pos h]
  obtain ⟨h1, h2⟩ := h.choose_spec
  rw [← qview_inj h1, ← qview_inj h2]
theorem sameQ_self (s : ByteArray) (xs : List QNodeV) : sameQ s s xs xs = true := by
  unfold sameQ
  rw [bytesEq_self, eqFrom_self]
  simp
noncomputable abbrev Sy.cSame : Con Try.prog := atX 10 (fun args => match args with | [.agg [.lit (.string s), vx], .agg [.lit (.string t), vy]] => some (s, t, vx, vy) | _ => none) (fun x => [.agg [.lit (.string x.1), x.2.2.1], .agg [.lit (.string x.2.1), x.2.2.2]]) (fun x => boo (sameV x.1 x.2.1 x.2.2.1 x.2.2.2)) (fun x => ∃ xs ys, x.2.2.1 = qview xs ∧ x.2.2.2 = qview ys ∧ xs.length ≤ 17592186044416) fun x h => by
  obtain ⟨s, t, vx, vy⟩ := x
  obtain ⟨xs, ys, h1, h2, h3⟩ := h
  simp only at h1 h2
  subst h1 h2
  refine ⟨⟨⟨⟨trivial, viewOf_free QNodeV.cells QNodeV.zero 9 xs, trivial⟩, ⟨trivial, viewOf_free QNodeV.cells QNodeV.zero 9 ys, trivial⟩, trivial⟩, trivial⟩, ?_⟩
  simp only [sameV_eq]
  exact same_t s t xs ys h3
noncomputable abbrev Sy.cSameR (s t : ByteArray) (xs ys : List QNodeV) : Con Try.prog := at1 11 [Sy.query s xs, Sy.query t ys] (boo (sameQ s t xs ys)) (xs.length ≤ 17592186044416) fun h => ⟨⟨⟨⟨trivial, viewOf_free QNodeV.cells QNodeV.zero 9 xs, trivial⟩, ⟨trivial, viewOf_free QNodeV.cells QNodeV.zero 9 ys, trivial⟩, trivial⟩, trivial⟩, ser_t s t xs ys h⟩
/-sy lsame_t
fun (s t : ByteArray) (xs ys : List QNodeV) (d : D) => reckV [cKnown08, cSame, cSameR s t xs ys] [] 400 30 4 [Sy.query s xs, Sy.query t ys] M0 d
-/
theorem Sy.lsame_t (s t : ByteArray) (xs ys : List QNodeV) (hx : xs.length ≤ 17592186044416) : CallTo Try.prog 4 [Sy.query s xs, Sy.query t ys] M0 fun v _ => v = boo true :=
  toV [cKnown08, cSame, cSameR s t xs ys] [] 400 30 (.yes (.yes (.br (.auto 1 (.yes (.auto 0 (.br (.yes (.auto 0 .done)) (.auto 0 .done))))) (.auto 4 .done)))) (.need (@isSo (@And ([(@AV.agg [(@AV.lit (@Value.string s)), (@qview xs)]), (@AV.agg [(@AV.lit (@Value.string t)), (@qview ys)])] = [(@AV.agg [(@AV.lit (@Value.string s)), (@AV.view (xs).length 9 (fun x42844 => (fun x425521 => (@AV.lit ([(@Value.int IntKind.i64 ((xs.getD x42844 QNodeV.zero)).kind), (@Value.int IntKind.i64 ((xs.getD x42844 QNodeV.zero)).count), (@Value.int IntKind.i64 ((xs.getD x42844 QNodeV.zero)).feat), (@Value.int IntKind.i64 ((xs.getD x42844 QNodeV.zero)).lo), (@Value.int IntKind.i64 ((xs.getD x42844 QNodeV.zero)).ln), (@Value.int IntKind.i64 ((xs.getD x42844 QNodeV.zero)).ld), (@Value.int IntKind.i64 ((xs.getD x42844 QNodeV.zero)).ho), (@Value.int IntKind.i64 ((xs.getD x42844 QNodeV.zero)).hn), (@Value.int IntKind.i64 ((xs.getD x42844 QNodeV.zero)).hd)].getD x425521 (@Value.tuple (@Array.mk _ [])))))))]), (@AV.agg [(@AV.lit (@Value.string t)), (@AV.view (ys).length 9 (fun x576009 => (fun x9118 => (@AV.lit ([(@Value.int IntKind.i64 ((ys.getD x576009 QNodeV.zero)).kind), (@Value.int IntKind.i64 ((ys.getD x576009 QNodeV.zero)).count), (@Value.int IntKind.i64 ((ys.getD x576009 QNodeV.zero)).feat), (@Value.int IntKind.i64 ((ys.getD x576009 QNodeV.zero)).lo), (@Value.int IntKind.i64 ((ys.getD x576009 QNodeV.zero)).ln), (@Value.int IntKind.i64 ((ys.getD x576009 QNodeV.zero)).ld), (@Value.int IntKind.i64 ((ys.getD x576009 QNodeV.zero)).ho), (@Value.int IntKind.i64 ((ys.getD x576009 QNodeV.zero)).hn), (@Value.int IntKind.i64 ((ys.getD x576009 QNodeV.zero)).hd)].getD x9118 (@Value.tuple (@Array.mk _ [])))))))])]) (@Exists _ (fun x78919 => (@Exists _ (fun x996443 => (@And ((@AV.view (xs).length 9 (fun x205048 => (fun x997296 => (@AV.lit ([(@Value.int IntKind.i64 ((xs.getD x205048 QNodeV.zero)).kind), (@Value.int IntKind.i64 ((xs.getD x205048 QNodeV.zero)).count), (@Value.int IntKind.i64 ((xs.getD x205048 QNodeV.zero)).feat), (@Value.int IntKind.i64 ((xs.getD x205048 QNodeV.zero)).lo), (@Value.int IntKind.i64 ((xs.getD x205048 QNodeV.zero)).ln), (@Value.int IntKind.i64 ((xs.getD x205048 QNodeV.zero)).ld), (@Value.int IntKind.i64 ((xs.getD x205048 QNodeV.zero)).ho), (@Value.int IntKind.i64 ((xs.getD x205048 QNodeV.zero)).hn), (@Value.int IntKind.i64 ((xs.getD x205048 QNodeV.zero)).hd)].getD x997296 (@Value.tuple (@Array.mk _ []))))))) = (@qview x78919)) (@And ((@AV.view (ys).length 9 (fun x609405 => (fun x402426 => (@AV.lit ([(@Value.int IntKind.i64 ((ys.getD x609405 QNodeV.zero)).kind), (@Value.int IntKind.i64 ((ys.getD x609405 QNodeV.zero)).count), (@Value.int IntKind.i64 ((ys.getD x609405 QNodeV.zero)).feat), (@Value.int IntKind.i64 ((ys.getD x609405 QNodeV.zero)).lo), (@Value.int IntKind.i64 ((ys.getD x609405 QNodeV.zero)).ln), (@Value.int IntKind.i64 ((ys.getD x609405 QNodeV.zero)).ld), (@Value.int IntKind.i64 ((ys.getD x609405 QNodeV.zero)).ho), (@Value.int IntKind.i64 ((ys.getD x609405 QNodeV.zero)).hn), (@Value.int IntKind.i64 ((ys.getD x609405 QNodeV.zero)).hd)].getD x402426 (@Value.tuple (@Array.mk _ []))))))) = (@qview x996443)) ((x78919).length ≤ 17592186044416))))))))) (.need (@isSo (@And ([(@AV.agg [(@AV.lit (@Value.string s)), (@qview xs)]), (@AV.agg [(@AV.lit (@Value.string t)), (@qview ys)])] = [(@query s xs), (@query t ys)]) ((xs).length ≤ 17592186044416))) (.fork (@Decidable.decide ((@sameV s t (@AV.view (xs).length 9 (fun x537494 => (fun x206719 => (@AV.lit ([(@Value.int IntKind.i64 ((xs.getD x537494 QNodeV.zero)).kind), (@Value.int IntKind.i64 ((xs.getD x537494 QNodeV.zero)).count), (@Value.int IntKind.i64 ((xs.getD x537494 QNodeV.zero)).feat), (@Value.int IntKind.i64 ((xs.getD x537494 QNodeV.zero)).lo), (@Value.int IntKind.i64 ((xs.getD x537494 QNodeV.zero)).ln), (@Value.int IntKind.i64 ((xs.getD x537494 QNodeV.zero)).ld), (@Value.int IntKind.i64 ((xs.getD x537494 QNodeV.zero)).ho), (@Value.int IntKind.i64 ((xs.getD x537494 QNodeV.zero)).hn), (@Value.int IntKind.i64 ((xs.getD x537494 QNodeV.zero)).hd)].getD x206719 (@Value.tuple (@Array.mk _ []))))))) (@AV.view (ys).length 9 (fun x274388 => (fun x292436 => (@AV.lit ([(@Value.int IntKind.i64 ((ys.getD x274388 QNodeV.zero)).kind), (@Value.int IntKind.i64 ((ys.getD x274388 QNodeV.zero)).count), (@Value.int IntKind.i64 ((ys.getD x274388 QNodeV.zero)).feat), (@Value.int IntKind.i64 ((ys.getD x274388 QNodeV.zero)).lo), (@Value.int IntKind.i64 ((ys.getD x274388 QNodeV.zero)).ln), (@Value.int IntKind.i64 ((ys.getD x274388 QNodeV.zero)).ld), (@Value.int IntKind.i64 ((ys.getD x274388 QNodeV.zero)).ho), (@Value.int IntKind.i64 ((ys.getD x274388 QNodeV.zero)).hn), (@Value.int IntKind.i64 ((ys.getD x274388 QNodeV.zero)).hd)].getD x292436 (@Value.tuple (@Array.mk _ [])))))))) = (@sameQ s t xs ys)) _) (.need (@isSo (@And ([(@AV.agg [(@AV.lit (@Value.string s)), (@qview xs)]), (@AV.agg [(@AV.lit (@Value.string s)), (@qview xs)])] = [(@AV.agg [(@AV.lit (@Value.string s)), (@AV.view (xs).length 9 (fun x320353 => (fun x338833 => (@AV.lit ([(@Value.int IntKind.i64 ((xs.getD x320353 QNodeV.zero)).kind), (@Value.int IntKind.i64 ((xs.getD x320353 QNodeV.zero)).count), (@Value.int IntKind.i64 ((xs.getD x320353 QNodeV.zero)).feat), (@Value.int IntKind.i64 ((xs.getD x320353 QNodeV.zero)).lo), (@Value.int IntKind.i64 ((xs.getD x320353 QNodeV.zero)).ln), (@Value.int IntKind.i64 ((xs.getD x320353 QNodeV.zero)).ld), (@Value.int IntKind.i64 ((xs.getD x320353 QNodeV.zero)).ho), (@Value.int IntKind.i64 ((xs.getD x320353 QNodeV.zero)).hn), (@Value.int IntKind.i64 ((xs.getD x320353 QNodeV.zero)).hd)].getD x338833 (@Value.tuple (@Array.mk _ [])))))))]), (@AV.agg [(@AV.lit (@Value.string s)), (@AV.view (xs).length 9 (fun x934618 => (fun x151587 => (@AV.lit ([(@Value.int IntKind.i64 ((xs.getD x934618 QNodeV.zero)).kind), (@Value.int IntKind.i64 ((xs.getD x934618 QNodeV.zero)).count), (@Value.int IntKind.i64 ((xs.getD x934618 QNodeV.zero)).feat), (@Value.int IntKind.i64 ((xs.getD x934618 QNodeV.zero)).lo), (@Value.int IntKind.i64 ((xs.getD x934618 QNodeV.zero)).ln), (@Value.int IntKind.i64 ((xs.getD x934618 QNodeV.zero)).ld), (@Value.int IntKind.i64 ((xs.getD x934618 QNodeV.zero)).ho), (@Value.int IntKind.i64 ((xs.getD x934618 QNodeV.zero)).hn), (@Value.int IntKind.i64 ((xs.getD x934618 QNodeV.zero)).hd)].getD x151587 (@Value.tuple (@Array.mk _ [])))))))])]) (@Exists _ (fun x210223 => (@Exists _ (fun x412168 => (@And ((@AV.view (xs).length 9 (fun x604640 => (fun x253869 => (@AV.lit ([(@Value.int IntKind.i64 ((xs.getD x604640 QNodeV.zero)).kind), (@Value.int IntKind.i64 ((xs.getD x604640 QNodeV.zero)).count), (@Value.int IntKind.i64 ((xs.getD x604640 QNodeV.zero)).feat), (@Value.int IntKind.i64 ((xs.getD x604640 QNodeV.zero)).lo), (@Value.int IntKind.i64 ((xs.getD x604640 QNodeV.zero)).ln), (@Value.int IntKind.i64 ((xs.getD x604640 QNodeV.zero)).ld), (@Value.int IntKind.i64 ((xs.getD x604640 QNodeV.zero)).ho), (@Value.int IntKind.i64 ((xs.getD x604640 QNodeV.zero)).hn), (@Value.int IntKind.i64 ((xs.getD x604640 QNodeV.zero)).hd)].getD x253869 (@Value.tuple (@Array.mk _ []))))))) = (@qview x210223)) (@And ((@AV.view (xs).length 9 (fun x390366 => (fun x752242 => (@AV.lit ([(@Value.int IntKind.i64 ((xs.getD x390366 QNodeV.zero)).kind), (@Value.int IntKind.i64 ((xs.getD x390366 QNodeV.zero)).count), (@Value.int IntKind.i64 ((xs.getD x390366 QNodeV.zero)).feat), (@Value.int IntKind.i64 ((xs.getD x390366 QNodeV.zero)).lo), (@Value.int IntKind.i64 ((xs.getD x390366 QNodeV.zero)).ln), (@Value.int IntKind.i64 ((xs.getD x390366 QNodeV.zero)).ld), (@Value.int IntKind.i64 ((xs.getD x390366 QNodeV.zero)).ho), (@Value.int IntKind.i64 ((xs.getD x390366 QNodeV.zero)).hn), (@Value.int IntKind.i64 ((xs.getD x390366 QNodeV.zero)).hd)].getD x752242 (@Value.tuple (@Array.mk _ []))))))) = (@qview x412168)) ((x210223).length ≤ 17592186044416))))))))) (.fork (@sameV s s (@AV.view (xs).length 9 (fun x678827 => (fun x996684 => (@AV.lit ([(@Value.int IntKind.i64 ((xs.getD x678827 QNodeV.zero)).kind), (@Value.int IntKind.i64 ((xs.getD x678827 QNodeV.zero)).count), (@Value.int IntKind.i64 ((xs.getD x678827 QNodeV.zero)).feat), (@Value.int IntKind.i64 ((xs.getD x678827 QNodeV.zero)).lo), (@Value.int IntKind.i64 ((xs.getD x678827 QNodeV.zero)).ln), (@Value.int IntKind.i64 ((xs.getD x678827 QNodeV.zero)).ld), (@Value.int IntKind.i64 ((xs.getD x678827 QNodeV.zero)).ho), (@Value.int IntKind.i64 ((xs.getD x678827 QNodeV.zero)).hn), (@Value.int IntKind.i64 ((xs.getD x678827 QNodeV.zero)).hd)].getD x996684 (@Value.tuple (@Array.mk _ []))))))) (@AV.view (xs).length 9 (fun x90884 => (fun x156569 => (@AV.lit ([(@Value.int IntKind.i64 ((xs.getD x90884 QNodeV.zero)).kind), (@Value.int IntKind.i64 ((xs.getD x90884 QNodeV.zero)).count), (@Value.int IntKind.i64 ((xs.getD x90884 QNodeV.zero)).feat), (@Value.int IntKind.i64 ((xs.getD x90884 QNodeV.zero)).lo), (@Value.int IntKind.i64 ((xs.getD x90884 QNodeV.zero)).ln), (@Value.int IntKind.i64 ((xs.getD x90884 QNodeV.zero)).ld), (@Value.int IntKind.i64 ((xs.getD x90884 QNodeV.zero)).ho), (@Value.int IntKind.i64 ((xs.getD x90884 QNodeV.zero)).hn), (@Value.int IntKind.i64 ((xs.getD x90884 QNodeV.zero)).hd)].getD x156569 (@Value.tuple (@Array.mk _ [])))))))) (.need (@isSo (@And (([] : List AV) = []) True)) (.leaf (boo true))) (.leaf (boo false)))) (.leaf (boo false))))) (by kernel_rfl) (by
    refine need_so ⟨rfl, xs, ys, rfl, rfl, hx⟩ (need_so ⟨rfl, hx⟩ (fork_ok (fun h => need_so ⟨rfl, xs, xs, rfl, rfl, hx⟩ (fork_ok (fun h2 => need_so ⟨rfl, trivial⟩ rfl) (fun h2 => ?_))) (fun h => ?_)))
    · have h3 : sameV s s (qview xs) (qview xs) = false := h2
      rw [sameV_eq, sameQ_self] at h3
      cases h3
    · have h3 : decide (sameV s t (qview xs) (qview ys) = sameQ s t xs ys) = false := h
      rw [sameV_eq] at h3
      simp at h3)
theorem same_walk {s t : ByteArray} {a a' : Option Addr} {cap cap' : Nat} {xs ys : List QNodeV} {W : World} (hq : Rows QNodeV.cells 9 W a cap xs) (hq' : Rows QNodeV.cells 9 W a' cap' ys) :
    Calls Try.prog 4 #[.agg #[.string s, .slice a xs.length cap], .agg #[.string t, .slice a' ys.length cap']] W fun e w' => e = .returned (.bool true) ∧ Below W.heap.size W w' :=
  Sy.law_true (Sy.lsame_t s t xs ys hq.sm) (us := [_, _]) ⟨_, _, rfl, rel_query hq, _, _, rfl, rel_query hq', rfl⟩
end Go.Proofs.Ytedooldplfjodaa
