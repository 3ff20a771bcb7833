/-
  Lemmas for SelectorTexts, part 6; no conditions.
-/
import Derived.Test.YtconlneohilnmaaTxpE
set_option linter.unusedVariables false
set_option linter.unusedSimpArgs false
namespace Go.Proofs.Ytconlneohilnmaa
open Go Go.RowKit Pl Sy
noncomputable abbrev Sy.cNameR : Con Try.prog := str1 67 (fun s => boo (nameL s.data.toList)) (fun s => s.size ≤ maxLen) (fun _ => trivial) fun s h => old (us := [.string s]) (fun w => name_r s w h)
noncomputable abbrev Sy.cTextR : Con Try.prog := str1 88 (fun s => boo (textL s.data.toList)) (fun s => s.size ≤ maxLen) (fun _ => trivial) fun s h => old (us := [.string s]) (fun w => text_r s w h)
def rtestB (t : TestV) : Bool := nameL t.name.data.toList && (textL t.value.data.toList && (t.equal || bytesEq t.value.data.toList []))
theorem Sy.rtest_t (t : TestV) (h : t.Ok) : CallTo Try.prog 68 [testA t] M0 fun v _ => v = boo (rtestB t) :=
  toV [cNameR, cTextR] [] 400 30 (.yes (.br (.auto 1 (.yes (.auto 0 (.br (.auto 1 (.br (.auto 4 .done) (.auto 4 .done))) (.auto 6 .done))))) (.auto 10 .done))) (.need (@isSo ((@ByteArray.size (t).name) ≤ 9223372036854775807)) (.fork (@Pl.nameL (@Array.toList _ (@ByteArray.data (t).name))) (.need (@isSo ((@ByteArray.size (t).value) ≤ 9223372036854775807)) (.fork (@Pl.textL (@Array.toList _ (@ByteArray.data (t).value))) (.fork (!(t).equal) (.leaf (boo (@bytesEq (@Array.toList _ (@ByteArray.data (t).value)) (@Array.toList _ (@ByteArray.data (@ByteArray.mk (@Array.mk _ []))))))) (.leaf (boo true))) (.leaf (boo false)))) (.leaf (boo false)))) (by kernel_rfl) (by
    have e : ([] : List UInt8) = (ByteArray.mk #[]).data.toList := rfl
    unfold rtestB
    rw [e]
    repeat' (first
      | refine fork_ok (fun _ => ?_) (fun _ => ?_)
      | refine need_so h.1 ?_
      | refine need_so h.2 ?_)
    all_goals refine leaf_boo ?_
    all_goals (simp only [Bool.not_eq_true', Bool.not_eq_false', Bool.not_not] at *)
    all_goals simp only [*, Bool.not_true, Bool.not_false, Bool.true_and, Bool.false_and, Bool.and_false, Bool.and_true, Bool.or_true, Bool.true_or, Bool.or_false, Bool.false_or])
noncomputable abbrev Sy.cRTest (t : TestV) : Con Try.prog := at1 68 [testA t] (boo (rtestB t)) t.Ok fun h => ⟨⟨⟨⟨trivial, trivial, trivial, trivial⟩, trivial⟩, trivial⟩, rtest_t t h⟩
theorem Sy.scanOk {α : Type} {P : Program} {body : Code} (xs : List α) (g : α → Bool) (d : α) (F : Int → Bool → Fr) (M : Mem) (id : Nat)
    (step : ∀ (k : Int) (b : Bool) (n : Nat) (G : Ex → Fr → Mem → Prop), 0 ≤ k → k ≤ xs.length → (k < xs.length → b = true → LoopTo P body n (F (k + 1) (g (xs.getD k.toNat d))) M G) → (k = xs.length ∨ b = false → G (.exit id) (F k b) M) → LoopTo P body (n + 1) (F k b) M G) (b : Bool) :
    LoopTo P body (xs.length + 1) (F 0 b) M fun ex F' M' => M' = M ∧ ex = .exit id ∧ ∃ k, F' = F k (b && xs.all g) := by
  have key : ∀ (l pre : List α) (k : Int) (b : Bool), xs = pre ++ l → k = pre.length → LoopTo P body (l.length + 1) (F k b) M fun ex F' M' => M' = M ∧ ex = .exit id ∧ ∃ k, F' = F k (b && l.all g) := by
    intro l
    induction l with
    | nil =>
      intro pre k b h hk
      have hl : xs.length = pre.length := by rw [h]; simp
      exact step k b _ _ (by omega) (by omega) (fun h1 _ => by omega) (fun _ => ⟨rfl, rfl, k, by simp⟩)
    | cons x l ih =>
      intro pre k b h hk
      have hl : xs.length = pre.length + l.length + 1 := by rw [h]; simp; omega
      have hg : xs.getD k.toNat d = x := by rw [h]; exact getD_at _ _ _ _ _ hk
      refine step k b _ _ (by omega) (by omega) (fun h1 h2 => ?_) (fun h1 => ?_)
      · rw [hg]
        refine (ih (pre ++ [x]) (k + 1) (g x) (by rw [h]; simp) (by simp; omega)).mono fun ex F' M' ⟨q1, q2, j, q3⟩ => ⟨q1, q2, j, ?_⟩
        rw [q3, h2, List.all_cons, Bool.true_and]
      · rcases h1 with h1 | h1
        · omega
        · exact ⟨rfl, rfl, k, by rw [h1, Bool.false_and]⟩
  exact key xs [] 0 b rfl rfl
namespace Sy
abbrev repM (p : PartV) : Mem := (@Mem.mk 1 0 [(some (@Blk.mk [(int (p).comb), (@AV.lit (@Value.string (p).tag)), (@AV.lit (@Value.string (p).id)), (@AV.view ((p).cls).length 1 (fun x174334 => (fun x966889 => (@AV.lit ([(@Value.string ((p).cls.getD x174334 (@ByteArray.mk (@Array.mk _ []))))].getD x966889 (@Value.tuple (@Array.mk _ []))))))), (@AV.view ((p).tests).length 3 (fun x287937 => (fun x137532 => (@AV.lit ([(@Value.string (((p).tests.getD x287937 testNone)).name), (@Value.bool (((p).tests.getD x287937 testNone)).equal), (@Value.string (((p).tests.getD x287937 testNone)).value)].getD x137532 (@Value.tuple (@Array.mk _ []))))))), (int (p).states)] 55 none))])
abbrev recF (k : Int) (b : Bool) : Fr := (none :: some ((@AV.ptr 0 0)) :: none :: some (boo b) :: some (int k) :: (nn26 (nn48 [])))
noncomputable def slotIB (F : Fr) (i j : Nat) : Option (Int × Bool) := match nth F i, nth F j with
  | some (some (.lit (.int .i64 k))), some (some (.lit (.bool b))) => some (k, b)
  | _, _ => none
end Sy
def allS (g : ByteArray → Bool) (xs : List ByteArray) : Bool := xs.all g
def allT (g : TestV → Bool) (xs : List TestV) : Bool := xs.all g
def nameB (s : ByteArray) : Bool := nameL s.data.toList
theorem Sy.rc_scan (p : PartV) (hx : StrsOk p.cls) (b : Bool) : LoopTo Try.prog (theBody Try.prog 40 4) (p.cls.length + 1) (recF 0 b) (repM p) fun ex F' M' => M' = repM p ∧ ex = .exit 0 ∧ ∃ k, F' = recF k (b && p.cls.all nameB) :=
  scanOk p.cls nameB ⟨#[]⟩ recF (repM p) 0 (fun k b n G h0 h1 c1 c2 => by
    refine roundL [cNameR] [] 400 30 40 4 Try.func40 rfl (by kernel_rfl) (false :: true :: false :: true :: true :: (ff26 (ff48 []))) (.br (.auto 0 (.br (.yes (.yes .done)) .done)) (.auto 1 .done)) (let e1 := (@ByteArray.mk (@Array.mk _ [])); let e2 := (@Value.tuple (@Array.mk _ [])); let e3 := (@Mem.mk 1 0 [(some (@Blk.mk [(int (p).comb), (@AV.lit (@Value.string (p).tag)), (@AV.lit (@Value.string (p).id)), (@AV.view ((p).cls).length 1 (fun y0 => (fun y1 => (@AV.lit ([(@Value.string ((p).cls.getD y0 e1))].getD y1 e2))))), (@AV.view ((p).tests).length 3 (fun y0 => (fun y1 => (@AV.lit ([(@Value.string (((p).tests.getD y0 testNone)).name), (@Value.bool (((p).tests.getD y0 testNone)).equal), (@Value.string (((p).tests.getD y0 testNone)).value)].getD y1 e2))))), (int (p).states)] 55 none))]); (.fork (!(leI ((((p).cls).length : Nat) : Int) k)) (.fork b (.need (@inR k ((p).cls).length) (.need (@isSo ((@ByteArray.size ((p).cls.getD (k).toNat e1)) ≤ 9223372036854775807)) (.leaf (Ex.norm, ((none :: (some (@AV.ptr 0 0)) :: none :: (some (boo (@Pl.nameL (@Array.toList _ (@ByteArray.data ((p).cls.getD (k).toNat e1)))))) :: (some (int (w64 (k + (1 : Int))))) :: (nn26 (nn48 []))), e3))))) (.leaf ((@Ex.exit 0), ((none :: (some (@AV.ptr 0 0)) :: none :: (some (boo b)) :: (some (int k)) :: (nn26 (nn48 []))), e3)))) (.leaf ((@Ex.exit 0), ((none :: (some (@AV.ptr 0 0)) :: none :: (some (boo b)) :: (some (int k)) :: (nn26 (nn48 []))), e3))))) (by kernel_rfl) ?_
    have hl := hx.1
    refine fork_ok (fun h => fork_ok (fun h2 => ?_) (fun h2 => c2 (.inr h2))) (fun h => ?_)
    · simp only [Bool.not_eq_true', Bool.not_eq_false', leI_t, leI_f, eqI_t, eqI_f, inR_t, inR_f, isSo_t, isSo_f] at h
      have hr : inR k p.cls.length = true := by rw [inR_t]; omega
      refine need_t hr (need_so (hx.2 _ (getD_mem p.cls k _ h0 (by omega))) ?_)
      rw [w64_in (r := k + 1) (by omega)]
      exact c1 (by omega) h2
    · simp only [Bool.not_eq_true', Bool.not_eq_false', leI_t, leI_f, eqI_t, eqI_f, inR_t, inR_f, isSo_t, isSo_f] at h
      exact c2 (.inl (by omega))) b
namespace Sy
noncomputable abbrev lpRc (p : PartV) : Lp Try.prog where
  f := 40
  key := 4
  S := formS (fun F M => slotIB F 4 3) (fun x => recF x.1 x.2) (fun _ => repM p) (fun x => StrsOk p.cls ∧ x.1 = 0) (fun x => .leaf (.exit 0, (none :: some ((@AV.ptr 0 0)) :: none :: some (boo (x.2 && allS nameB p.cls)) :: (nn27 (nn48 []))), repM p)) (false :: true :: false :: true :: true :: (ff26 (ff48 [])))
  one := by kernel_rfl
  ok := formS_ok fun x ⟨h1, h2⟩ => by
    obtain ⟨k, b⟩ := x
    simp only at h2
    subst h2
    refine ⟨p.cls.length + 1, ?_⟩
    refine ((Sy.rc_scan p h1 b).out (false :: true :: false :: true :: (ff27 (ff48 [])))).mono fun ex F M hg => ?_
    obtain ⟨F0, ⟨hM, rfl, j, rfl⟩, rfl⟩ := hg
    rw [hM]; rfl
end Sy
namespace Sy
abbrev retF (k : Int) (b : Bool) : Fr := (none :: some ((@AV.ptr 0 0)) :: none :: some (boo b) :: none :: some (int k) :: (nn25 (nn48 [])))
end Sy
theorem Sy.rt_scan (p : PartV) (hx : TestsOk p.tests) (b : Bool) : LoopTo Try.prog (theBody Try.prog 40 8) (p.tests.length + 1) (retF 0 b) (repM p) fun ex F' M' => M' = repM p ∧ ex = .exit 2 ∧ ∃ k, F' = retF k (b && p.tests.all rtestB) :=
  scanOk p.tests rtestB testNone retF (repM p) 2 (fun k b n G h0 h1 c1 c2 => by
    refine roundL [cRTest (p.tests.getD k.toNat testNone)] [] 400 30 40 8 Try.func40 rfl (by kernel_rfl) (false :: true :: false :: true :: false :: true :: (ff25 (ff48 []))) (.br (.auto 0 (.br (.yes (.yes .done)) .done)) (.auto 1 .done)) (let e1 := ((p).tests.getD (k).toNat testNone); let e2 := (@AV.agg [(@AV.lit (@Value.string (e1).name)), (boo (e1).equal), (@AV.lit (@Value.string (e1).value))]); let e3 := (@Value.tuple (@Array.mk _ [])); let e4 := (@Mem.mk 1 0 [(some (@Blk.mk [(int (p).comb), (@AV.lit (@Value.string (p).tag)), (@AV.lit (@Value.string (p).id)), (@AV.view ((p).cls).length 1 (fun y0 => (fun y1 => (@AV.lit ([(@Value.string ((p).cls.getD y0 (@ByteArray.mk (@Array.mk _ []))))].getD y1 e3))))), (@AV.view ((p).tests).length 3 (fun y0 => (fun y1 => (@AV.lit ([(@Value.string (((p).tests.getD y0 testNone)).name), (@Value.bool (((p).tests.getD y0 testNone)).equal), (@Value.string (((p).tests.getD y0 testNone)).value)].getD y1 e3))))), (int (p).states)] 55 none))]); (.fork (!(leI ((((p).tests).length : Nat) : Int) k)) (.fork b (.need (@inR k ((p).tests).length) (.need (@isSo (@And ((@HAppend.hAppend _ _ _ _ (@HAppend.hAppend _ _ _ _ [] [e2]) []) = [e2]) (@And ((@ByteArray.size (e1).name) ≤ 9223372036854775807) ((@ByteArray.size (e1).value) ≤ 9223372036854775807)))) (.leaf (Ex.norm, ((none :: (some (@AV.ptr 0 0)) :: none :: (some (boo (@rtestB e1))) :: none :: (some (int (w64 (k + (1 : Int))))) :: (nn25 (nn48 []))), e4))))) (.leaf ((@Ex.exit 2), ((none :: (some (@AV.ptr 0 0)) :: none :: (some (boo b)) :: none :: (some (int k)) :: (nn25 (nn48 []))), e4)))) (.leaf ((@Ex.exit 2), ((none :: (some (@AV.ptr 0 0)) :: none :: (some (boo b)) :: none :: (some (int k)) :: (nn25 (nn48 []))), e4))))) (by kernel_rfl) ?_
    have hl := hx.1
    refine fork_ok (fun h => fork_ok (fun h2 => ?_) (fun h2 => c2 (.inr h2))) (fun h => ?_)
    · simp only [Bool.not_eq_true', Bool.not_eq_false', leI_t, leI_f, eqI_t, eqI_f, inR_t, inR_f, isSo_t, isSo_f] at h
      have hr : inR k p.tests.length = true := by rw [inR_t]; omega
      refine need_t hr (need_so ⟨rfl, hx.2 _ (getD_mem p.tests k _ h0 (by omega))⟩ ?_)
      rw [w64_in (r := k + 1) (by omega)]
      exact c1 (by omega) h2
    · simp only [Bool.not_eq_true', Bool.not_eq_false', leI_t, leI_f, eqI_t, eqI_f, inR_t, inR_f, isSo_t, isSo_f] at h
      exact c2 (.inl (by omega))) b
namespace Sy
noncomputable abbrev lpRt (p : PartV) : Lp Try.prog where
  f := 40
  key := 8
  S := formS (fun F M => slotIB F 5 3) (fun x => retF x.1 x.2) (fun _ => repM p) (fun x => TestsOk p.tests ∧ x.1 = 0) (fun x => .leaf (.exit 2, (none :: some ((@AV.ptr 0 0)) :: none :: some (boo (x.2 && allT rtestB p.tests)) :: (nn27 (nn48 []))), repM p)) (false :: true :: false :: true :: false :: true :: (ff25 (ff48 [])))
  one := by kernel_rfl
  ok := formS_ok fun x ⟨h1, h2⟩ => by
    obtain ⟨k, b⟩ := x
    simp only at h2
    subst h2
    refine ⟨p.tests.length + 1, ?_⟩
    refine ((Sy.rt_scan p h1 b).out (false :: true :: false :: true :: (ff27 (ff48 [])))).mono fun ex F M hg => ?_
    obtain ⟨F0, ⟨hM, rfl, j, rfl⟩, rfl⟩ := hg
    rw [hM]; rfl
end Sy
def rpartB (p : PartV) : Bool := (bytesEq p.tag.data.toList [] || nameB p.tag) && ((bytesEq p.id.data.toList [] || nameB p.id) && (leI 0 p.states && (leI p.states 7 && (leI p.cls.length 8 && (leI p.tests.length 8 && (allS nameB p.cls && allT rtestB p.tests))))))
theorem Sy.rpart_t (p : PartV) (h : PartOk p) : CallTo Try.prog 40 [partG p] M0 fun v _ => v = boo (rpartB p) :=
  toV [cNameR] [lpRc p, lpRt p] 400 30 (.br (.auto 1 (.yes (.auto 0 (.br (.auto 2 (.br (.auto 1 (.yes (.auto 2 (.br (.auto 2 (.br (.auto 2 (.br (.auto 3 (.br (.auto 3 .done) (.auto 3 .done))) (.auto 8 .done))) (.auto 12 .done))) (.auto 16 .done))))) (.auto 8 (.br (.auto 2 (.br (.auto 3 (.br (.auto 3 .done) (.auto 3 .done))) (.auto 8 .done))) (.auto 12 .done))))) (.auto 25 .done))))) (.auto 6 (.br (.auto 1 (.yes (.auto 2 (.br (.auto 2 (.br (.auto 2 (.br (.auto 3 (.br (.auto 3 .done) (.auto 3 .done))) (.auto 8 .done))) (.auto 12 .done))) (.auto 16 .done))))) (.auto 8 (.br (.auto 2 (.br (.auto 3 (.br (.auto 3 .done) (.auto 3 .done))) (.auto 8 .done))) (.auto 12 .done)))))) (let e1 := (@Array.toList _ (@ByteArray.data (p).tag)); let e2 := (@ByteArray.mk (@Array.mk _ [])); let e3 := (@Array.toList _ (@ByteArray.data e2)); let e4 := (@Array.toList _ (@ByteArray.data (p).id)); let e5 := (some (@AV.ptr 0 0)); let e6 := (leI ((((p).tests).length : Nat) : Int) (8 : Int)); let e7 := (some (int (0 : Int))); let e8 := (some (int (Int.ofNat 0))); let e9 := (@Value.tuple (@Array.mk _ [])); let e10 := (@Mem.mk 1 0 [(some (@Blk.mk [(int (p).comb), (@AV.lit (@Value.string (p).tag)), (@AV.lit (@Value.string (p).id)), (@AV.view ((p).cls).length 1 (fun y0 => (fun y1 => (@AV.lit ([(@Value.string ((p).cls.getD y0 e2))].getD y1 e9))))), (@AV.view ((p).tests).length 3 (fun y0 => (fun y1 => (@AV.lit ([(@Value.string (((p).tests.getD y0 testNone)).name), (@Value.bool (((p).tests.getD y0 testNone)).equal), (@Value.string (((p).tests.getD y0 testNone)).value)].getD y1 e9))))), (int (p).states)] 55 none))]); let e11 := (e6 && (@allS nameB (p).cls)); let e12 := (false && (@allS nameB (p).cls)); (.fork (!(@bytesEq e1 e3)) (.need (@isSo ((@ByteArray.size (p).tag) ≤ 9223372036854775807)) (.fork (@Pl.nameL e1) (.fork (!(@bytesEq e4 e3)) (.need (@isSo ((@ByteArray.size (p).id) ≤ 9223372036854775807)) (.fork (@Pl.nameL e4) (.fork (leI (0 : Int) (p).states) (.fork (leI (p).states (7 : Int)) (.fork (leI ((((p).cls).length : Nat) : Int) (8 : Int)) (.need (@isSo (@And ((none :: (e5 :: none :: (some (boo e6)) :: e7 :: (nn26 (nn48 [])))) = (none :: e5 :: none :: (some (boo e6)) :: e8 :: (nn26 (nn48 [])))) (e10 = e10))) (.need (@isSo (@And (@And (((p).cls).length ≤ 17592186044416) (∀ (s : ByteArray), s ∈ p.cls → s.size ≤ maxLen)) ((Int.ofNat 0) = (0 : Int)))) (.need (@isSo (@And ((none :: e5 :: none :: (some (boo e11)) :: none :: e7 :: (nn25 (nn48 []))) = (none :: e5 :: none :: (some (boo e11)) :: none :: e8 :: (nn25 (nn48 [])))) (e10 = e10))) (.need (@isSo (@And (@And (((p).tests).length ≤ 17592186044416) (∀ (t : TestV), t ∈ p.tests → t.Ok)) ((Int.ofNat 0) = (0 : Int)))) (.leaf (boo (e11 && (@allT rtestB (p).tests)))))))) (.need (@isSo (@And ((none :: (e5 :: none :: (some (boo false)) :: e7 :: (nn26 (nn48 [])))) = (none :: e5 :: none :: (some (boo false)) :: e7 :: (nn26 (nn48 [])))) (e10 = e10))) (.need (@isSo (@And (@And (((p).cls).length ≤ 17592186044416) (∀ (s : ByteArray), s ∈ p.cls → s.size ≤ maxLen)) ((0 : Int) = (0 : Int)))) (.need (@isSo (@And ((none :: e5 :: none :: (some (boo e12)) :: none :: e7 :: (nn25 (nn48 []))) = (none :: e5 :: none :: (some (boo e12)) :: none :: e8 :: (nn25 (nn48 [])))) (e10 = e10))) (.need (@isSo (@And (@And (((p).tests).length ≤ 17592186044416) (∀ (t : TestV), t ∈ p.tests → t.Ok)) ((Int.ofNat 0) = (0 : Int)))) (.leaf (boo (e12 && (@allT rtestB (p).tests))))))))) (.need (@isSo (@And ((none :: (e5 :: none :: (some (boo false)) :: e7 :: (nn26 (nn48 [])))) = (none :: e5 :: none :: (some (boo false)) :: e7 :: (nn26 (nn48 [])))) (e10 = e10))) (.need (@isSo (@And (@And (((p).cls).length ≤ 17592186044416) (∀ (s : ByteArray), s ∈ p.cls → s.size ≤ maxLen)) ((0 : Int) = (0 : Int)))) (.need (@isSo (@And ((none :: e5 :: none :: (some (boo e12)) :: none :: e7 :: (nn25 (nn48 []))) = (none :: e5 :: none :: (some (boo e12)) :: none :: e8 :: (nn25 (nn48 [])))) (e10 = e10))) (.need (@isSo (@And (@And (((p).tests).length ≤ 17592186044416) (∀ (t : TestV), t ∈ p.tests → t.Ok)) ((Int.ofNat 0) = (0 : Int)))) (.leaf (boo (e12 && (@allT rtestB (p).tests))))))))) (.need (@isSo (@And ((none :: (e5 :: none :: (some (boo false)) :: e7 :: (nn26 (nn48 [])))) = (none :: e5 :: none :: (some (boo false)) :: e7 :: (nn26 (nn48 [])))) (e10 = e10))) (.need (@isSo (@And (@And (((p).cls).length ≤ 17592186044416) (∀ (s : ByteArray), s ∈ p.cls → s.size ≤ maxLen)) ((0 : Int) = (0 : Int)))) (.need (@isSo (@And ((none :: e5 :: none :: (some (boo e12)) :: none :: e7 :: (nn25 (nn48 []))) = (none :: e5 :: none :: (some (boo e12)) :: none :: e8 :: (nn25 (nn48 [])))) (e10 = e10))) (.need (@isSo (@And (@And (((p).tests).length ≤ 17592186044416) (∀ (t : TestV), t ∈ p.tests → t.Ok)) ((Int.ofNat 0) = (0 : Int)))) (.leaf (boo (e12 && (@allT rtestB (p).tests))))))))) (.need (@isSo (@And ((none :: (e5 :: none :: (some (boo false)) :: e7 :: (nn26 (nn48 [])))) = (none :: e5 :: none :: (some (boo false)) :: e7 :: (nn26 (nn48 [])))) (e10 = e10))) (.need (@isSo (@And (@And (((p).cls).length ≤ 17592186044416) (∀ (s : ByteArray), s ∈ p.cls → s.size ≤ maxLen)) ((0 : Int) = (0 : Int)))) (.need (@isSo (@And ((none :: e5 :: none :: (some (boo e12)) :: none :: e7 :: (nn25 (nn48 []))) = (none :: e5 :: none :: (some (boo e12)) :: none :: e8 :: (nn25 (nn48 [])))) (e10 = e10))) (.need (@isSo (@And (@And (((p).tests).length ≤ 17592186044416) (∀ (t : TestV), t ∈ p.tests → t.Ok)) ((Int.ofNat 0) = (0 : Int)))) (.leaf (boo (e12 && (@allT rtestB (p).tests)))))))))) (.fork (leI (0 : Int) (p).states) (.fork (leI (p).states (7 : Int)) (.fork (leI ((((p).cls).length : Nat) : Int) (8 : Int)) (.need (@isSo (@And ((none :: (e5 :: none :: (some (boo e6)) :: e7 :: (nn26 (nn48 [])))) = (none :: e5 :: none :: (some (boo e6)) :: e8 :: (nn26 (nn48 [])))) (e10 = e10))) (.need (@isSo (@And (@And (((p).cls).length ≤ 17592186044416) (∀ (s : ByteArray), s ∈ p.cls → s.size ≤ maxLen)) ((Int.ofNat 0) = (0 : Int)))) (.need (@isSo (@And ((none :: e5 :: none :: (some (boo e11)) :: none :: e7 :: (nn25 (nn48 []))) = (none :: e5 :: none :: (some (boo e11)) :: none :: e8 :: (nn25 (nn48 [])))) (e10 = e10))) (.need (@isSo (@And (@And (((p).tests).length ≤ 17592186044416) (∀ (t : TestV), t ∈ p.tests → t.Ok)) ((Int.ofNat 0) = (0 : Int)))) (.leaf (boo (e11 && (@allT rtestB (p).tests)))))))) (.need (@isSo (@And ((none :: (e5 :: none :: (some (boo false)) :: e7 :: (nn26 (nn48 [])))) = (none :: e5 :: none :: (some (boo false)) :: e7 :: (nn26 (nn48 [])))) (e10 = e10))) (.need (@isSo (@And (@And (((p).cls).length ≤ 17592186044416) (∀ (s : ByteArray), s ∈ p.cls → s.size ≤ maxLen)) ((0 : Int) = (0 : Int)))) (.need (@isSo (@And ((none :: e5 :: none :: (some (boo e12)) :: none :: e7 :: (nn25 (nn48 []))) = (none :: e5 :: none :: (some (boo e12)) :: none :: e8 :: (nn25 (nn48 [])))) (e10 = e10))) (.need (@isSo (@And (@And (((p).tests).length ≤ 17592186044416) (∀ (t : TestV), t ∈ p.tests → t.Ok)) ((Int.ofNat 0) = (0 : Int)))) (.leaf (boo (e12 && (@allT rtestB (p).tests))))))))) (.need (@isSo (@And ((none :: (e5 :: none :: (some (boo false)) :: e7 :: (nn26 (nn48 [])))) = (none :: e5 :: none :: (some (boo false)) :: e7 :: (nn26 (nn48 [])))) (e10 = e10))) (.need (@isSo (@And (@And (((p).cls).length ≤ 17592186044416) (∀ (s : ByteArray), s ∈ p.cls → s.size ≤ maxLen)) ((0 : Int) = (0 : Int)))) (.need (@isSo (@And ((none :: e5 :: none :: (some (boo e12)) :: none :: e7 :: (nn25 (nn48 []))) = (none :: e5 :: none :: (some (boo e12)) :: none :: e8 :: (nn25 (nn48 [])))) (e10 = e10))) (.need (@isSo (@And (@And (((p).tests).length ≤ 17592186044416) (∀ (t : TestV), t ∈ p.tests → t.Ok)) ((Int.ofNat 0) = (0 : Int)))) (.leaf (boo (e12 && (@allT rtestB (p).tests))))))))) (.need (@isSo (@And ((none :: (e5 :: none :: (some (boo false)) :: e7 :: (nn26 (nn48 [])))) = (none :: e5 :: none :: (some (boo false)) :: e7 :: (nn26 (nn48 [])))) (e10 = e10))) (.need (@isSo (@And (@And (((p).cls).length ≤ 17592186044416) (∀ (s : ByteArray), s ∈ p.cls → s.size ≤ maxLen)) ((0 : Int) = (0 : Int)))) (.need (@isSo (@And ((none :: e5 :: none :: (some (boo e12)) :: none :: e7 :: (nn25 (nn48 []))) = (none :: e5 :: none :: (some (boo e12)) :: none :: e8 :: (nn25 (nn48 [])))) (e10 = e10))) (.need (@isSo (@And (@And (((p).tests).length ≤ 17592186044416) (∀ (t : TestV), t ∈ p.tests → t.Ok)) ((Int.ofNat 0) = (0 : Int)))) (.leaf (boo (e12 && (@allT rtestB (p).tests)))))))))) (.need (@isSo (@And ((none :: (e5 :: none :: (some (boo false)) :: e7 :: (nn26 (nn48 [])))) = (none :: e5 :: none :: (some (boo false)) :: e7 :: (nn26 (nn48 [])))) (e10 = e10))) (.need (@isSo (@And (@And (((p).cls).length ≤ 17592186044416) (∀ (s : ByteArray), s ∈ p.cls → s.size ≤ maxLen)) ((0 : Int) = (0 : Int)))) (.need (@isSo (@And ((none :: e5 :: none :: (some (boo e12)) :: none :: e7 :: (nn25 (nn48 []))) = (none :: e5 :: none :: (some (boo e12)) :: none :: e8 :: (nn25 (nn48 [])))) (e10 = e10))) (.need (@isSo (@And (@And (((p).tests).length ≤ 17592186044416) (∀ (t : TestV), t ∈ p.tests → t.Ok)) ((Int.ofNat 0) = (0 : Int)))) (.leaf (boo (e12 && (@allT rtestB (p).tests)))))))))) (.fork (!(@bytesEq e4 e3)) (.need (@isSo ((@ByteArray.size (p).id) ≤ 9223372036854775807)) (.fork (@Pl.nameL e4) (.fork (leI (0 : Int) (p).states) (.fork (leI (p).states (7 : Int)) (.fork (leI ((((p).cls).length : Nat) : Int) (8 : Int)) (.need (@isSo (@And ((none :: (e5 :: none :: (some (boo e6)) :: e7 :: (nn26 (nn48 [])))) = (none :: e5 :: none :: (some (boo e6)) :: e8 :: (nn26 (nn48 [])))) (e10 = e10))) (.need (@isSo (@And (@And (((p).cls).length ≤ 17592186044416) (∀ (s : ByteArray), s ∈ p.cls → s.size ≤ maxLen)) ((Int.ofNat 0) = (0 : Int)))) (.need (@isSo (@And ((none :: e5 :: none :: (some (boo e11)) :: none :: e7 :: (nn25 (nn48 []))) = (none :: e5 :: none :: (some (boo e11)) :: none :: e8 :: (nn25 (nn48 [])))) (e10 = e10))) (.need (@isSo (@And (@And (((p).tests).length ≤ 17592186044416) (∀ (t : TestV), t ∈ p.tests → t.Ok)) ((Int.ofNat 0) = (0 : Int)))) (.leaf (boo (e11 && (@allT rtestB (p).tests)))))))) (.need (@isSo (@And ((none :: (e5 :: none :: (some (boo false)) :: e7 :: (nn26 (nn48 [])))) = (none :: e5 :: none :: (some (boo false)) :: e7 :: (nn26 (nn48 [])))) (e10 = e10))) (.need (@isSo (@And (@And (((p).cls).length ≤ 17592186044416) (∀ (s : ByteArray), s ∈ p.cls → s.size ≤ maxLen)) ((0 : Int) = (0 : Int)))) (.need (@isSo (@And ((none :: e5 :: none :: (some (boo e12)) :: none :: e7 :: (nn25 (nn48 []))) = (none :: e5 :: none :: (some (boo e12)) :: none :: e8 :: (nn25 (nn48 [])))) (e10 = e10))) (.need (@isSo (@And (@And (((p).tests).length ≤ 17592186044416) (∀ (t : TestV), t ∈ p.tests → t.Ok)) ((Int.ofNat 0) = (0 : Int)))) (.leaf (boo (e12 && (@allT rtestB (p).tests))))))))) (.need (@isSo (@And ((none :: (e5 :: none :: (some (boo false)) :: e7 :: (nn26 (nn48 [])))) = (none :: e5 :: none :: (some (boo false)) :: e7 :: (nn26 (nn48 [])))) (e10 = e10))) (.need (@isSo (@And (@And (((p).cls).length ≤ 17592186044416) (∀ (s : ByteArray), s ∈ p.cls → s.size ≤ maxLen)) ((0 : Int) = (0 : Int)))) (.need (@isSo (@And ((none :: e5 :: none :: (some (boo e12)) :: none :: e7 :: (nn25 (nn48 []))) = (none :: e5 :: none :: (some (boo e12)) :: none :: e8 :: (nn25 (nn48 [])))) (e10 = e10))) (.need (@isSo (@And (@And (((p).tests).length ≤ 17592186044416) (∀ (t : TestV), t ∈ p.tests → t.Ok)) ((Int.ofNat 0) = (0 : Int)))) (.leaf (boo (e12 && (@allT rtestB (p).tests))))))))) (.need (@isSo (@And ((none :: (e5 :: none :: (some (boo false)) :: e7 :: (nn26 (nn48 [])))) = (none :: e5 :: none :: (some (boo false)) :: e7 :: (nn26 (nn48 [])))) (e10 = e10))) (.need (@isSo (@And (@And (((p).cls).length ≤ 17592186044416) (∀ (s : ByteArray), s ∈ p.cls → s.size ≤ maxLen)) ((0 : Int) = (0 : Int)))) (.need (@isSo (@And ((none :: e5 :: none :: (some (boo e12)) :: none :: e7 :: (nn25 (nn48 []))) = (none :: e5 :: none :: (some (boo e12)) :: none :: e8 :: (nn25 (nn48 [])))) (e10 = e10))) (.need (@isSo (@And (@And (((p).tests).length ≤ 17592186044416) (∀ (t : TestV), t ∈ p.tests → t.Ok)) ((Int.ofNat 0) = (0 : Int)))) (.leaf (boo (e12 && (@allT rtestB (p).tests))))))))) (.need (@isSo (@And ((none :: (e5 :: none :: (some (boo false)) :: e7 :: (nn26 (nn48 [])))) = (none :: e5 :: none :: (some (boo false)) :: e7 :: (nn26 (nn48 [])))) (e10 = e10))) (.need (@isSo (@And (@And (((p).cls).length ≤ 17592186044416) (∀ (s : ByteArray), s ∈ p.cls → s.size ≤ maxLen)) ((0 : Int) = (0 : Int)))) (.need (@isSo (@And ((none :: e5 :: none :: (some (boo e12)) :: none :: e7 :: (nn25 (nn48 []))) = (none :: e5 :: none :: (some (boo e12)) :: none :: e8 :: (nn25 (nn48 [])))) (e10 = e10))) (.need (@isSo (@And (@And (((p).tests).length ≤ 17592186044416) (∀ (t : TestV), t ∈ p.tests → t.Ok)) ((Int.ofNat 0) = (0 : Int)))) (.leaf (boo (e12 && (@allT rtestB (p).tests)))))))))) (.fork (leI (0 : Int) (p).states) (.fork (leI (p).states (7 : Int)) (.fork (leI ((((p).cls).length : Nat) : Int) (8 : Int)) (.need (@isSo (@And ((none :: (e5 :: none :: (some (boo e6)) :: e7 :: (nn26 (nn48 [])))) = (none :: e5 :: none :: (some (boo e6)) :: e8 :: (nn26 (nn48 [])))) (e10 = e10))) (.need (@isSo (@And (@And (((p).cls).length ≤ 17592186044416) (∀ (s : ByteArray), s ∈ p.cls → s.size ≤ maxLen)) ((Int.ofNat 0) = (0 : Int)))) (.need (@isSo (@And ((none :: e5 :: none :: (some (boo e11)) :: none :: e7 :: (nn25 (nn48 []))) = (none :: e5 :: none :: (some (boo e11)) :: none :: e8 :: (nn25 (nn48 [])))) (e10 = e10))) (.need (@isSo (@And (@And (((p).tests).length ≤ 17592186044416) (∀ (t : TestV), t ∈ p.tests → t.Ok)) ((Int.ofNat 0) = (0 : Int)))) (.leaf (boo (e11 && (@allT rtestB (p).tests)))))))) (.need (@isSo (@And ((none :: (e5 :: none :: (some (boo false)) :: e7 :: (nn26 (nn48 [])))) = (none :: e5 :: none :: (some (boo false)) :: e7 :: (nn26 (nn48 [])))) (e10 = e10))) (.need (@isSo (@And (@And (((p).cls).length ≤ 17592186044416) (∀ (s : ByteArray), s ∈ p.cls → s.size ≤ maxLen)) ((0 : Int) = (0 : Int)))) (.need (@isSo (@And ((none :: e5 :: none :: (some (boo e12)) :: none :: e7 :: (nn25 (nn48 []))) = (none :: e5 :: none :: (some (boo e12)) :: none :: e8 :: (nn25 (nn48 [])))) (e10 = e10))) (.need (@isSo (@And (@And (((p).tests).length ≤ 17592186044416) (∀ (t : TestV), t ∈ p.tests → t.Ok)) ((Int.ofNat 0) = (0 : Int)))) (.leaf (boo (e12 && (@allT rtestB (p).tests))))))))) (.need (@isSo (@And ((none :: (e5 :: none :: (some (boo false)) :: e7 :: (nn26 (nn48 [])))) = (none :: e5 :: none :: (some (boo false)) :: e7 :: (nn26 (nn48 [])))) (e10 = e10))) (.need (@isSo (@And (@And (((p).cls).length ≤ 17592186044416) (∀ (s : ByteArray), s ∈ p.cls → s.size ≤ maxLen)) ((0 : Int) = (0 : Int)))) (.need (@isSo (@And ((none :: e5 :: none :: (some (boo e12)) :: none :: e7 :: (nn25 (nn48 []))) = (none :: e5 :: none :: (some (boo e12)) :: none :: e8 :: (nn25 (nn48 [])))) (e10 = e10))) (.need (@isSo (@And (@And (((p).tests).length ≤ 17592186044416) (∀ (t : TestV), t ∈ p.tests → t.Ok)) ((Int.ofNat 0) = (0 : Int)))) (.leaf (boo (e12 && (@allT rtestB (p).tests))))))))) (.need (@isSo (@And ((none :: (e5 :: none :: (some (boo false)) :: e7 :: (nn26 (nn48 [])))) = (none :: e5 :: none :: (some (boo false)) :: e7 :: (nn26 (nn48 [])))) (e10 = e10))) (.need (@isSo (@And (@And (((p).cls).length ≤ 17592186044416) (∀ (s : ByteArray), s ∈ p.cls → s.size ≤ maxLen)) ((0 : Int) = (0 : Int)))) (.need (@isSo (@And ((none :: e5 :: none :: (some (boo e12)) :: none :: e7 :: (nn25 (nn48 []))) = (none :: e5 :: none :: (some (boo e12)) :: none :: e8 :: (nn25 (nn48 [])))) (e10 = e10))) (.need (@isSo (@And (@And (((p).tests).length ≤ 17592186044416) (∀ (t : TestV), t ∈ p.tests → t.Ok)) ((Int.ofNat 0) = (0 : Int)))) (.leaf (boo (e12 && (@allT rtestB (p).tests)))))))))))) (by kernel_rfl) (by
    obtain ⟨h1, h2, h3, h4⟩ := h
    have e : ([] : List UInt8) = (ByteArray.mk #[]).data.toList := rfl
    unfold rpartB
    rw [e]
    have n1 : nameB p.tag = nameL p.tag.data.toList := rfl
    have n2 : nameB p.id = nameL p.id.data.toList := rfl
    rw [n1, n2]
    repeat' (first
      | refine fork_ok (fun _ => ?_) (fun _ => ?_)
      | refine need_so h1 ?_
      | refine need_so h2 ?_
      | refine need_so ⟨rfl, rfl⟩ ?_
      | refine need_so ⟨h3, rfl⟩ ?_
      | refine need_so ⟨h4, rfl⟩ ?_)
    all_goals refine leaf_boo ?_
    all_goals (simp only [Bool.not_eq_true', Bool.not_eq_false', Bool.not_not] at *)
    all_goals simp only [*, Bool.not_true, Bool.not_false, Bool.true_and, Bool.false_and, Bool.and_false, Bool.and_true, Bool.or_true, Bool.true_or, Bool.or_false, Bool.false_or, Bool.and_assoc])
noncomputable abbrev Sy.cRPart (p : PartV) : Con Try.prog := at1 40 [partG p] (boo (rpartB p)) (PartOk p) fun h => ⟨⟨⟨partG_free p, trivial⟩, trivial⟩, rpart_t p h⟩
end Go.Proofs.Ytconlneohilnmaa
namespace Go.Proofs.Ytconlneohilnmaa
open Go Go.RowKit Pl Sy
namespace Sy
abbrev rrF (k : Int) : Fr := (none :: some ((@AV.ptr 0 0)) :: some ((boo false)) :: some (int k) :: (nn6 (nn48 [])))
end Sy
def rbad (xs : List PartV) (k : Nat) : Bool := !rpartB (xs.getD k partNone) || (!leI k 0 && (!leI 1 (xs.getD k partNone).comb || !leI (xs.getD k partNone).comb 4))
theorem Sy.rr_scan (xs : List PartV) (hx : PartsOk xs) : LoopTo Try.prog (theBody Try.prog 23 5) (xs.length + 1) (rrF 0) (riM xs) fun ex F' M' => M' = riM xs ∧ ((0 ≤ idxN (rbad xs) xs.length ∧ ex = .ret ∧ F' = rrF (idxN (rbad xs) xs.length)) ∨ (idxN (rbad xs) xs.length = -1 ∧ ex = .exit 0 ∧ F' = rrF xs.length)) :=
  scanN xs.length (rbad xs) (fun k => rrF k) (fun k => rrF k) (riM xs) fun k n G h0 h1 c1 c2 c3 => by
    refine roundL [cRPart (xs.getD k.toNat partNone)] [] 400 30 23 5 Try.func23 rfl (by kernel_rfl) (false :: true :: true :: true :: (ff6 (ff48 []))) (.br (.yes (.yes (.br (.auto 1 (.br (.auto 2 (.yes (.auto 3 (.br (.auto 2 (.yes (.auto 7 (.br .done .done)))) (.auto 11 .done))))) (.auto 18 .done))) (.auto 20 .done)))) .done) (let e1 := (@inR k (xs).length); let e2 := (((xs.getD (k).toNat partNone)).cls); let e3 := (@Value.tuple (@Array.mk _ [])); let e4 := (((xs.getD (k).toNat partNone)).tests); let e5 := (@Mem.mk 1 0 [(some (@Blk.mk [(@AV.view (xs).length 6 (@pcell xs))] 43 none))]); (.fork (!(leI (((xs).length : Nat) : Int) k)) (.need e1 (.need (@isSo (@And ((@HAppend.hAppend _ _ _ _ (@HAppend.hAppend _ _ _ _ [] [(@AV.agg [(@pcell xs (k).toNat 0), (@pcell xs (k).toNat 1), (@pcell xs (k).toNat 2), (@pcell xs (k).toNat 3), (@pcell xs (k).toNat 4), (@pcell xs (k).toNat 5)])]) []) = [(@AV.agg [(int ((xs.getD (k).toNat partNone)).comb), (@AV.lit (@Value.string ((xs.getD (k).toNat partNone)).tag)), (@AV.lit (@Value.string ((xs.getD (k).toNat partNone)).id)), (@AV.view e2.length 1 (fun y0 => (fun y1 => (@AV.lit ([(@Value.string (((xs.getD (k).toNat partNone)).cls.getD y0 (@ByteArray.mk (@Array.mk _ []))))].getD y1 e3))))), (@AV.view e4.length 3 (fun y0 => (fun y1 => (@AV.lit ([(@Value.string ((((xs.getD (k).toNat partNone)).tests.getD y0 testNone)).name), (@Value.bool ((((xs.getD (k).toNat partNone)).tests.getD y0 testNone)).equal), (@Value.string ((((xs.getD (k).toNat partNone)).tests.getD y0 testNone)).value)].getD y1 e3))))), (int ((xs.getD (k).toNat partNone)).states)])]) (@And ((@ByteArray.size ((xs.getD (k).toNat partNone)).tag) ≤ 9223372036854775807) (@And ((@ByteArray.size ((xs.getD (k).toNat partNone)).id) ≤ 9223372036854775807) (@And (@And (e2.length ≤ 17592186044416) (∀ (s : ByteArray), s ∈ (xs.getD k.toNat partNone).cls → s.size ≤ maxLen)) (@And (e4.length ≤ 17592186044416) (∀ (t : TestV), t ∈ (xs.getD k.toNat partNone).tests → t.Ok))))))) (.fork (!(!(@rpartB (xs.getD (k).toNat partNone)))) (.fork (!(leI k (0 : Int))) (.need e1 (.fork (!(!(leI (1 : Int) ((xs.getD (k).toNat partNone)).comb))) (.need e1 (.fork (!(leI ((xs.getD (k).toNat partNone)).comb (4 : Int))) (.leaf (Ex.ret, ((none :: (some (@AV.ptr 0 0)) :: (some (boo false)) :: (some (int k)) :: (nn6 (nn48 []))), e5))) (.leaf (Ex.norm, ((none :: (some (@AV.ptr 0 0)) :: (some (boo false)) :: (some (int (w64 (k + (1 : Int))))) :: (nn6 (nn48 []))), e5))))) (.leaf (Ex.ret, ((none :: (some (@AV.ptr 0 0)) :: (some (boo false)) :: (some (int k)) :: (nn6 (nn48 []))), e5))))) (.leaf (Ex.norm, ((none :: (some (@AV.ptr 0 0)) :: (some (boo false)) :: (some (int (w64 (k + (1 : Int))))) :: (nn6 (nn48 []))), e5)))) (.leaf (Ex.ret, ((none :: (some (@AV.ptr 0 0)) :: (some (boo false)) :: (some (int k)) :: (nn6 (nn48 []))), e5)))))) (.leaf ((@Ex.exit 0), ((none :: (some (@AV.ptr 0 0)) :: (some (boo false)) :: (some (int k)) :: (nn6 (nn48 []))), e5))))) (by kernel_rfl) ?_
    have hl := hx.1
    refine fork_ok (fun h => ?_) (fun h => ?_)
    · simp only [Bool.not_eq_true', Bool.not_eq_false', leI_t, leI_f, eqI_t, eqI_f, inR_t, inR_f, isSo_t, isSo_f] at h
      have hr : inR k xs.length = true := by rw [inR_t]; omega
      have w1 : w64 (k + 1) = k + 1 := w64_in (by omega)
      have ek : ((k.toNat : Nat) : Int) = k := by omega
      have e0 : rbad xs k.toNat = (!rpartB (xs.getD k.toNat partNone) || (!leI k 0 && (!leI 1 (xs.getD k.toNat partNone).comb || !leI (xs.getD k.toNat partNone).comb 4))) := by unfold rbad; rw [ek]
      rw [w1]
      have ret : rbad xs k.toNat = true → G .ret (rrF k) (riM xs) := c2 (by omega)
      have go : rbad xs k.toNat = false → LoopTo Try.prog (theBody Try.prog 23 5) n (rrF (k + 1)) (riM xs) G := c1 (by omega)
      rw [e0] at ret go
      refine need_t hr (need_so ⟨rfl, hx.2 _ (getD_mem xs k _ h0 (by omega))⟩ (fork_ok (fun q0 => fork_ok (fun q1 => need_t hr (fork_ok (fun q2 => need_t hr (fork_ok (fun q3 => ret ?_) (fun q3 => go ?_))) (fun q2 => ret ?_))) (fun q1 => go ?_)) (fun q0 => ret ?_)))
      all_goals simp only [Bool.not_eq_true', Bool.not_eq_false', Bool.not_not] at *
      all_goals simp only [*, Bool.not_true, Bool.not_false, Bool.true_and, Bool.false_and, Bool.and_false, Bool.and_true, Bool.or_true, Bool.true_or, Bool.or_false, Bool.false_or]
    · simp only [Bool.not_eq_true', Bool.not_eq_false', leI_t, leI_f, eqI_t, eqI_f, inR_t, inR_f, isSo_t, isSo_f] at h
      exact c3 (by omega)
namespace Sy
noncomputable abbrev lpRr (xs : List PartV) : Lp Try.prog where
  f := 23
  key := 5
  S := formS (fun F M => slotI F 3) (fun k => rrF k) (fun _ => riM xs) (fun k => PartsOk xs ∧ k = 0) (fun k => .fork (anyN (rbad xs) xs.length) (.leaf (.ret, (none :: some ((@AV.ptr 0 0)) :: some ((boo false)) :: (nn7 (nn48 []))), riM xs)) (.leaf (.exit 0, (none :: some ((@AV.ptr 0 0)) :: some ((boo false)) :: (nn7 (nn48 []))), riM xs))) (false :: true :: true :: true :: (ff6 (ff48 [])))
  one := by kernel_rfl
  ok := formS_ok fun k ⟨h1, h2⟩ => by
    subst h2
    refine ⟨xs.length + 1, ?_⟩
    refine ((Sy.rr_scan xs h1).out (false :: true :: true :: (ff7 (ff48 [])))).mono fun ex F M hg => ?_
    obtain ⟨F0, ⟨hM, hg⟩, rfl⟩ := hg
    rcases hg with ⟨q1, rfl, rfl⟩ | ⟨q1, rfl, rfl⟩
    · exact .inl ⟨by rw [← anyN_idx, leI_t]; exact q1, by rw [hM]; rfl⟩
    · exact .inr ⟨by rw [← anyN_idx, leI_f, q1]; omega, by rw [hM]; rfl⟩
end Sy
def rrightB (xs : List PartV) : Bool := !eqI xs.length 0 && (leI xs.length 8 && (eqI (xs.getD 0 partNone).comb 0 && !anyN (rbad xs) xs.length))
theorem Sy.rright_t (xs : List PartV) (h : PartsOk xs) : CallTo Try.prog 23 [.agg [pview xs]] M0 fun v _ => v = boo (rrightB xs) :=
  toV [] [lpRr xs] 400 30 (.br (.auto 3 (.br (.auto 1 (.yes (.auto 3 (.br .done (.br .done .done))))) (.auto 6 .done))) (.auto 11 .done)) (let e1 := (0 : Int); let e2 := (@Mem.mk 1 0 [(some (@Blk.mk [(@AV.view (xs).length 6 (@pcell xs))] 43 none))]); (.fork (!(eqI (((xs).length : Nat) : Int) e1)) (.fork (!(!(leI (((xs).length : Nat) : Int) (8 : Int)))) (.need (@inR e1 (xs).length) (.fork (!(eqI ((xs.getD 0 partNone)).comb e1)) (.leaf (boo false)) (.need (@isSo (@And ((none :: ((some (@AV.ptr 0 0)) :: (some (boo false)) :: (some (int e1)) :: (nn6 (nn48 [])))) = (none :: (some (@AV.ptr 0 0)) :: (some (boo false)) :: (some (int e1)) :: (nn6 (nn48 [])))) (e2 = e2))) (.need (@isSo (@And (@And ((xs).length ≤ 17592186044416) (∀ (p : PartV), p ∈ xs → PartOk p)) (e1 = e1))) (.fork (@anyN (@rbad xs) (xs).length) (.leaf (boo false)) (.leaf (boo true))))))) (.leaf (boo false))) (.leaf (boo false)))) (by kernel_rfl) (by
    unfold rrightB
    refine fork_ok (fun q0 => fork_ok (fun q1 => need_t ?_ (fork_ok (fun q2 => leaf_boo ?_) (fun q2 => need_so ⟨rfl, rfl⟩ (need_so ⟨h, rfl⟩ (fork_ok (fun q3 => leaf_boo ?_) (fun q3 => leaf_boo ?_)))))) (fun q1 => leaf_boo ?_)) (fun q0 => leaf_boo ?_)
    · simp only [Bool.not_eq_true'] at q0
      rw [eqI_f] at q0
      rw [inR_t]; omega
    all_goals (simp only [Bool.not_eq_true', Bool.not_eq_false', Bool.not_not] at *)
    all_goals simp only [*, Bool.not_true, Bool.not_false, Bool.true_and, Bool.false_and, Bool.and_false, Bool.and_true, Bool.or_true, Bool.true_or, Bool.or_false, Bool.false_or])
noncomputable abbrev Sy.cRightR (xs : List PartV) : Con Try.prog := at1 23 [.agg [pview xs]] (boo (rrightB xs)) (PartsOk xs) fun h => ⟨⟨⟨⟨pview_free xs, trivial⟩, trivial⟩, trivial⟩, rright_t xs h⟩
theorem oddB_eq (t : TestV) : oddB t = !rtestB t := by
  unfold oddB rtestB
  cases nameL t.name.data.toList <;> cases textL t.value.data.toList <;> cases t.equal <;> cases bytesEq t.value.data.toList [] <;> rfl
theorem anyS_eq (xs : List ByteArray) : anyS lacksB xs = !allS nameB xs := by
  unfold anyS allS
  rw [List.not_all_eq_any_not]
  rfl
theorem anyT_eq (xs : List TestV) : anyT oddB xs = !allT rtestB xs := by
  unfold anyT allT
  rw [List.not_all_eq_any_not]
  congr 1
  funext t
  exact oddB_eq t
theorem wrongB_eq (p : PartV) : wrongB p = !rpartB p := by
  unfold wrongB rpartB
  rw [anyS_eq, anyT_eq]
  have e1 : lacksB p.tag = !nameB p.tag := rfl
  have e2 : lacksB p.id = !nameB p.id := rfl
  rw [e1, e2]
  simp only [Bool.not_and, Bool.not_or]
theorem anyP_iff (g : PartV → Bool) (xs : List PartV) : anyP g xs = true ↔ ∃ k, k < xs.length ∧ g (xs.getD k partNone) = true := by
  unfold anyP
  rw [List.any_eq_true]
  constructor
  · rintro ⟨x, hx, hg⟩
    obtain ⟨i, hi, rfl⟩ := List.mem_iff_getElem.1 hx
    exact ⟨i, hi, by rw [List.getD_eq_getElem?_getD, List.getElem?_eq_getElem hi]; exact hg⟩
  · rintro ⟨k, hk, hg⟩
    rw [List.getD_eq_getElem?_getD, List.getElem?_eq_getElem hk] at hg
    exact ⟨_, List.getElem_mem hk, hg⟩
theorem anyN_iff (g : Nat → Bool) (n : Nat) : anyN g n = true ↔ ∃ k, k < n ∧ g k = true := by
  unfold anyN
  rw [List.any_eq_true]
  simp
theorem anyN_no (g : Nat → Bool) (n : Nat) : anyN g n = false ↔ ∀ k, k < n → g k = false := by
  rw [← Bool.not_eq_true, anyN_iff]
  constructor
  · intro h k hk
    cases hg : g k with
    | false => rfl
    | true => exact absurd ⟨k, hk, hg⟩ h
  · rintro h ⟨k, hk, hg⟩
    rw [h k hk] at hg; cases hg
theorem anyP_no (g : PartV → Bool) (xs : List PartV) : anyP g xs = false ↔ ∀ k, k < xs.length → g (xs.getD k partNone) = false := by
  rw [← Bool.not_eq_true, anyP_iff]
  constructor
  · intro h k hk
    cases hg : g (xs.getD k partNone) with
    | false => rfl
    | true => exact absurd ⟨k, hk, hg⟩ h
  · rintro h ⟨k, hk, hg⟩
    rw [h k hk] at hg; cases hg
theorem right_eq (xs : List PartV) : rightB xs = rrightB xs := by
  unfold rightB rrightB
  cases h0 : eqI xs.length 0 with
  | true => rfl
  | false =>
    rw [eqI_f] at h0
    congr 2
    rw [Bool.eq_iff_iff]
    simp only [Bool.and_eq_true, Bool.not_eq_true', anyP_no, anyN_no]
    constructor
    · rintro ⟨h1, h2⟩
      have h20 := h2 0 (by omega)
      unfold combs combB at h20
      simp only [if_true, Bool.not_eq_false'] at h20
      refine ⟨h20, fun k hk => ?_⟩
      have h1k := h1 k hk
      have h2k := h2 k hk
      unfold rbad
      rw [wrongB_eq] at h1k
      rw [h1k, Bool.false_or]
      by_cases k0 : k = 0
      · subst k0
        have : leI ((0 : Nat) : Int) 0 = true := by rw [leI_t]; omega
        rw [this]; rfl
      · unfold combs combB at h2k
        rw [if_neg k0] at h2k
        rw [h2k, Bool.and_false]
    · rintro ⟨h1, h2⟩
      refine ⟨fun k hk => ?_, fun k hk => ?_⟩
      · have := h2 k hk
        unfold rbad at this
        rw [Bool.or_eq_false_iff] at this
        rw [wrongB_eq]; exact this.1
      · have := h2 k hk
        unfold rbad at this
        rw [Bool.or_eq_false_iff] at this
        unfold combs combB
        by_cases k0 : k = 0
        · subst k0
          rw [if_pos rfl, h1]; rfl
        · rw [if_neg k0]
          have q := this.2
          have : leI (k : Int) 0 = false := by rw [leI_f]; omega
          rw [this, Bool.not_false, Bool.true_and] at q
          exact q
end Go.Proofs.Ytconlneohilnmaa
namespace Go.Proofs.Ytconlneohilnmaa
open Go Go.RowKit Pl Sy
def limB (n : Nat) : Prop := n ≤ 100000000
def blankB (c : Int) : Bool := eqI c 32 || (eqI c 9 || (eqI c 10 || (eqI c 12 || eqI c 13)))
theorem Sy.bl_t (c : Int) : CallTo Try.prog 52 [.lit (.int .u8 c)] M0 fun v _ => v = boo (blankB c) :=
  toV [] [] 400 30 (.br (.auto 1 (.br (.auto 1 (.br (.auto 1 (.br (.auto 1 .done) (.auto 1 .done))) (.auto 4 .done))) (.auto 7 .done))) (.auto 10 .done)) (.fork (!(eqI c (32 : Int))) (.fork (!(eqI c (9 : Int))) (.fork (!(eqI c (10 : Int))) (.fork (!(eqI c (12 : Int))) (.leaf (boo (eqI c (13 : Int)))) (.leaf (boo true))) (.leaf (boo true))) (.leaf (boo true))) (.leaf (boo true))) (by kernel_rfl) (by
    unfold blankB
    repeat' (first | refine fork_ok (fun _ => ?_) (fun _ => ?_))
    all_goals refine leaf_boo ?_
    all_goals simp_all)
theorem Sy.beg_t (c : Int) : CallTo Try.prog 81 [.lit (.int .u8 c)] M0 fun v _ => v = boo (begB c) :=
  toV [] [] 400 30 (.br (.auto 1 (.br (.auto 1 (.br (.auto 3 (.br (.auto 1 (.br (.auto 1 .done) (.auto 1 .done))) (.auto 4 .done))) (.auto 6 (.br (.auto 1 .done) (.auto 1 .done))))) (.auto 11 .done))) (.auto 4 (.br (.auto 3 (.br (.auto 1 (.br (.auto 1 .done) (.auto 1 .done))) (.auto 4 .done))) (.auto 6 (.br (.auto 1 .done) (.auto 1 .done)))))) (.fork (leI (97 : Int) c) (.fork (!(leI c (122 : Int))) (.fork (leI (65 : Int) c) (.fork (!(leI c (90 : Int))) (.fork (!(eqI c (95 : Int))) (.leaf (boo (leI (128 : Int) c))) (.leaf (boo true))) (.leaf (boo true))) (.fork (!(eqI c (95 : Int))) (.leaf (boo (leI (128 : Int) c))) (.leaf (boo true)))) (.leaf (boo true))) (.fork (leI (65 : Int) c) (.fork (!(leI c (90 : Int))) (.fork (!(eqI c (95 : Int))) (.leaf (boo (leI (128 : Int) c))) (.leaf (boo true))) (.leaf (boo true))) (.fork (!(eqI c (95 : Int))) (.leaf (boo (leI (128 : Int) c))) (.leaf (boo true))))) (by kernel_rfl) (by
    repeat' (first
      | refine fork_ok (fun _ => ?_) (fun _ => ?_)
      | refine need_so ⟨rfl, by (first | assumption | trivial | (try simp only [eqI_t, eqI_f, leI_t, leI_f, inR_t, inR_f, isSo_t, isSo_f, eqI_d, leI_d, decide_eq_true_eq, decide_eq_false_iff_not, Bool.not_eq_true', Bool.not_eq_false', Bool.false_eq_true, Bool.and_eq_true, Bool.or_eq_true, Bool.not_not, iff_false, false_iff, iff_true, true_iff] at *) <;> first | omega | grind)⟩ ?_
      | refine need_so (by (first | assumption | trivial | (try simp only [eqI_t, eqI_f, leI_t, leI_f, inR_t, inR_f, isSo_t, isSo_f, eqI_d, leI_d, decide_eq_true_eq, decide_eq_false_iff_not, Bool.not_eq_true', Bool.not_eq_false', Bool.false_eq_true, Bool.and_eq_true, Bool.or_eq_true, Bool.not_not, iff_false, false_iff, iff_true, true_iff] at *) <;> first | omega | grind)) ?_
      | refine need_t (by (first | assumption | trivial | (try simp only [eqI_t, eqI_f, leI_t, leI_f, inR_t, inR_f, isSo_t, isSo_f, eqI_d, leI_d, decide_eq_true_eq, decide_eq_false_iff_not, Bool.not_eq_true', Bool.not_eq_false', Bool.false_eq_true, Bool.and_eq_true, Bool.or_eq_true, Bool.not_not, iff_false, false_iff, iff_true, true_iff] at *) <;> first | omega | grind)) ?_)
    all_goals (first | refine leaf_boo ?_ | refine leaf_int ?_)
    all_goals (unfold begB; try simp only [eqI_t, eqI_f, leI_t, leI_f, inR_t, inR_f, isSo_t, isSo_f, eqI_d, leI_d, decide_eq_true_eq, decide_eq_false_iff_not, Bool.not_eq_true', Bool.not_eq_false', Bool.false_eq_true, Bool.and_eq_true, Bool.or_eq_true, Bool.not_not, iff_false, false_iff, iff_true, true_iff] at *)
    all_goals (first | omega | grind))
def u8_get (args : List AV) : Option Int := match args with | [.lit (.int .u8 c)] => some c | _ => none
noncomputable abbrev Sy.cBlank : Con Try.prog := atX 52 (fun args => match args with | [.lit (.int .u8 c)] => some c | _ => none) (fun c => [.lit (.int .u8 c)]) (fun c => boo (blankB c)) (fun _ => True) fun c _ => ⟨⟨⟨trivial, trivial⟩, trivial⟩, bl_t c⟩
noncomputable abbrev Sy.cBeg : Con Try.prog := atX 81 (fun args => match args with | [.lit (.int .u8 c)] => some c | _ => none) (fun c => [.lit (.int .u8 c)]) (fun c => boo (begB c)) (fun _ => True) fun c _ => ⟨⟨⟨trivial, trivial⟩, trivial⟩, beg_t c⟩
theorem Sy.goe_t (c : Int) : CallTo Try.prog 80 [.lit (.int .u8 c)] M0 fun v _ => v = boo (goesB c) :=
  toV [cBeg] [] 400 30 (.yes (.br (.auto 1 (.br (.auto 3 (.br (.auto 1 .done) (.auto 1 .done))) (.auto 6 .done))) (.auto 8 .done))) (.need (@isSo (@And ((@HAppend.hAppend _ _ _ _ (@HAppend.hAppend _ _ _ _ [] [(@AV.lit (@Value.int IntKind.u8 c))]) []) = [(@AV.lit (@Value.int IntKind.u8 c))]) True)) (.fork (!(@Pl.begB c)) (.fork (leI (48 : Int) c) (.fork (!(leI c (57 : Int))) (.leaf (boo (eqI c (45 : Int)))) (.leaf (boo true))) (.leaf (boo (eqI c (45 : Int))))) (.leaf (boo true)))) (by kernel_rfl) (by
    unfold goesB
    refine need_so ⟨rfl, trivial⟩ ?_
    generalize begB c = B
    exact (by
    repeat' (first
      | refine fork_ok (fun _ => ?_) (fun _ => ?_)
      | refine need_so ⟨rfl, by (first | assumption | trivial | (try simp only [eqI_t, eqI_f, leI_t, leI_f, inR_t, inR_f, isSo_t, isSo_f, eqI_d, leI_d, decide_eq_true_eq, decide_eq_false_iff_not, Bool.not_eq_true', Bool.not_eq_false', Bool.false_eq_true, Bool.and_eq_true, Bool.or_eq_true, Bool.not_not, iff_false, false_iff, iff_true, true_iff] at *) <;> first | omega | grind)⟩ ?_
      | refine need_so (by (first | assumption | trivial | (try simp only [eqI_t, eqI_f, leI_t, leI_f, inR_t, inR_f, isSo_t, isSo_f, eqI_d, leI_d, decide_eq_true_eq, decide_eq_false_iff_not, Bool.not_eq_true', Bool.not_eq_false', Bool.false_eq_true, Bool.and_eq_true, Bool.or_eq_true, Bool.not_not, iff_false, false_iff, iff_true, true_iff] at *) <;> first | omega | grind)) ?_
      | refine need_t (by (first | assumption | trivial | (try simp only [eqI_t, eqI_f, leI_t, leI_f, inR_t, inR_f, isSo_t, isSo_f, eqI_d, leI_d, decide_eq_true_eq, decide_eq_false_iff_not, Bool.not_eq_true', Bool.not_eq_false', Bool.false_eq_true, Bool.and_eq_true, Bool.or_eq_true, Bool.not_not, iff_false, false_iff, iff_true, true_iff] at *) <;> first | omega | grind)) ?_)
    all_goals (first | refine leaf_boo ?_ | refine leaf_int ?_)
    all_goals (try simp only [eqI_t, eqI_f, leI_t, leI_f, inR_t, inR_f, isSo_t, isSo_f, eqI_d, leI_d, decide_eq_true_eq, decide_eq_false_iff_not, Bool.not_eq_true', Bool.not_eq_false', Bool.false_eq_true, Bool.and_eq_true, Bool.or_eq_true, Bool.not_not, iff_false, false_iff, iff_true, true_iff] at *)
    all_goals (first | omega | grind)))
noncomputable abbrev Sy.cGoe : Con Try.prog := atX 80 (fun args => match args with | [.lit (.int .u8 c)] => some c | _ => none) (fun c => [.lit (.int .u8 c)]) (fun c => boo (goesB c)) (fun _ => True) fun c _ => ⟨⟨⟨trivial, trivial⟩, trivial⟩, goe_t c⟩
namespace Sy
abbrev blsF (s : ByteArray) (a m : Int) : Fr := (some ((@AV.lit (@Value.string s))) :: some (int a) :: none :: none :: some ((int (0 : Int))) :: some (int m) :: (nn15 []))
abbrev runF (s : ByteArray) (a m : Int) : Fr := (some ((@AV.lit (@Value.string s))) :: some (int a) :: none :: none :: some ((int (0 : Int))) :: some (int m) :: (nn15 []))
abbrev digF (s : ByteArray) (a m : Int) : Fr := (some ((@AV.lit (@Value.string s))) :: some (int a) :: none :: none :: some ((int (0 : Int))) :: some (int m) :: (nn21 []))
end Sy
noncomputable def upI (g : Int → Bool) (s : ByteArray) (a : Int) : Int := (hops (fun j => !g (byteAt s j)) (fun j => j + 1) s.size a.toNat : Nat)
theorem upI_step (g : Int → Bool) (s : ByteArray) (a : Int) (h0 : 0 ≤ a) : upI g s a = if a < s.size ∧ g (byteAt s a.toNat) = true then upI g s (a + 1) else a := by
  unfold upI
  rw [hops_step (fun k _ => Nat.lt_succ_self k)]
  by_cases h : a < s.size ∧ g (byteAt s a.toNat) = true
  · rw [if_pos h, if_pos ⟨by omega, by rw [h.2]; rfl⟩, show (a + 1).toNat = a.toNat + 1 by omega]
  · rw [if_neg h, if_neg (fun ⟨q1, q2⟩ => h ⟨by omega, by simpa using q2⟩)]
    omega
theorem upI_le (g : Int → Bool) (s : ByteArray) (a : Int) (h0 : 0 ≤ a) (h : a ≤ s.size) : a ≤ upI g s a ∧ upI g s a ≤ s.size := by
  have := hops1_le (fun j => !g (byteAt s j)) s.size a.toNat (by omega)
  unfold upI
  omega
theorem span_scan {P : Program} {body : Code} (s : ByteArray) (g : Int → Bool) (F : Int → Int → Fr) (hs : limB s.size)
    (step : ∀ (a m : Int) (n : Nat) (G : Ex → Fr → Mem → Prop), 0 ≤ a → a ≤ s.size → 0 ≤ m → m ≤ a → (a < s.size → g (byteAt s a.toNat) = true → LoopTo P body n (F (a + 1) (m + 1)) M0 G) → (¬ (a < s.size ∧ g (byteAt s a.toNat) = true) → G (.exit 0) (F a m) M0) → LoopTo P body (n + 1) (F a m) M0 G) :
    ∀ (k : Nat) (a m : Int), s.size - a.toNat ≤ k → 0 ≤ a → a ≤ s.size → 0 ≤ m → m ≤ a → LoopTo P body (k + 1) (F a m) M0 fun ex F' M' => ex = .exit 0 ∧ M' = M0 ∧ F' = F (upI g s a) (m + (upI g s a - a)) := by
  intro k
  induction k with
  | zero =>
    intro a m h1 h2 h3 h4 h5
    refine step a m 0 _ h2 h3 h4 h5 (fun h => absurd h (by omega)) (fun h => ⟨rfl, rfl, ?_⟩)
    rw [upI_step g s a h2, if_neg h, show m + (a - a) = m by omega]
  | succ k ih =>
    intro a m h1 h2 h3 h4 h5
    refine step a m (k + 1) _ h2 h3 h4 h5 (fun q1 q2 => ?_) (fun h => ⟨rfl, rfl, ?_⟩)
    · refine (ih (a + 1) (m + 1) (by omega) (by omega) (by omega) (by omega) (by omega)).mono fun ex F' M' ⟨e1, e2, e3⟩ => ⟨e1, e2, ?_⟩
      rw [upI_step g s a h2, if_pos ⟨q1, q2⟩, e3, show m + 1 + (upI g s (a + 1) - (a + 1)) = m + (upI g s (a + 1) - a) by omega]
    · rw [upI_step g s a h2, if_neg h, show m + (a - a) = m by omega]
noncomputable def spanI (g : Int → Bool) (s : ByteArray) (a : Int) : Int := upI g s a - a
def digB (c : Int) : Bool := leI 48 c && leI c 57
theorem Sy.bls_scan (s : ByteArray) (hs : limB s.size) (a : Int) (h0 : 0 ≤ a) (h1 : a ≤ s.size) : LoopTo Try.prog (theBody Try.prog 53 3) (s.size + 1) (blsF s a 0) M0 fun ex F' M' => ex = .exit 0 ∧ M' = M0 ∧ F' = blsF s (upI blankB s a) (spanI blankB s a) := by
  unfold limB at hs
  refine (span_scan s blankB (fun a m => blsF s a m) hs (fun a m n G q0 q1 q2 q3 c1 c2 => ?_) s.size a 0 (by omega) h0 h1 (by omega) h0).mono fun ex F' M' ⟨e1, e2, e3⟩ => ⟨e1, e2, by rw [e3]; unfold spanI; rw [show (0 : Int) + (upI blankB s a - a) = upI blankB s a - a by omega]⟩
  refine roundL [cBlank] [] 400 30 53 3 Try.func53 rfl (by kernel_rfl) (true :: true :: false :: false :: true :: true :: (ff15 [])) (.br (.auto 1 (.yes (.auto 0 (.yes (.auto 0 (.br .done .done)))))) (.auto 4 .done)) (let e1 := (@AV.lit (@Value.int IntKind.u8 (@byteAt s (a).toNat))); let e2 := (some (@AV.lit (@Value.string s))); (.fork (!(leI (((@ByteArray.size s) : Nat) : Int) a)) (.need (@inR a (@ByteArray.size s)) (.need (@isSo (@And ((@HAppend.hAppend _ _ _ _ (@HAppend.hAppend _ _ _ _ [] [e1]) []) = [e1]) True)) (.fork (@blankB (@byteAt s (a).toNat)) (.leaf (Ex.norm, ((e2 :: (some (int (w64 (a + (1 : Int))))) :: none :: none :: (some (int (0 : Int))) :: (some (int (w64 (m + (1 : Int))))) :: (nn15 [])), (@Mem.mk 0 0 [])))) (.leaf ((@Ex.exit 0), ((e2 :: (some (int a)) :: none :: none :: (some (int (0 : Int))) :: (some (int m)) :: (nn15 [])), (@Mem.mk 0 0 []))))))) (.leaf ((@Ex.exit 0), ((e2 :: (some (int a)) :: none :: none :: (some (int (0 : Int))) :: (some (int m)) :: (nn15 [])), (@Mem.mk 0 0 [])))))) (by kernel_rfl) ?_
  refine fork_ok (fun h => ?_) (fun h => ?_)
  · simp only [Bool.not_eq_true', Bool.not_eq_false', leI_t, leI_f, eqI_t, eqI_f, inR_t, inR_f, isSo_t, isSo_f] at h
    have hr : inR a s.size = true := by rw [inR_t]; omega
    refine need_t hr (need_so ⟨rfl, trivial⟩ (fork_ok (fun h2 => ?_) (fun h2 => c2 (fun x => by rw [h2] at x; exact absurd x.2 (by simp)))))
    rw [w64_in (r := a + 1) (by omega), w64_in (r := m + 1) (by omega)]
    exact c1 (by omega) h2
  · simp only [Bool.not_eq_true', Bool.not_eq_false', leI_t, leI_f, eqI_t, eqI_f, inR_t, inR_f, isSo_t, isSo_f] at h
    exact c2 (fun x => by omega)
namespace Sy
noncomputable abbrev lp_bls (s : ByteArray) : Lp Try.prog where
  f := 53
  key := 3
  S := formS (fun F M => slotI F 1) (fun a => blsF s a 0) (fun _ => M0) (fun a => limB s.size ∧ 0 ≤ a ∧ a ≤ s.size) (fun a => .leaf (.exit 0, blsF s (upI blankB s a) (spanI blankB s a), M0)) (true :: true :: false :: false :: true :: true :: (ff15 []))
  one := by kernel_rfl
  ok := formS_ok fun a ⟨h1, h2, h3⟩ => by
    refine ⟨s.size + 1, ?_⟩
    refine (Sy.bls_scan s h1 a h2 h3).mono fun ex F M hg => ?_
    obtain ⟨rfl, rfl, rfl⟩ := hg
    rfl
end Sy
theorem Sy.bls_t (s : ByteArray) (hs : limB s.size) (a : Int) (h0 : 0 ≤ a) (h1 : a ≤ s.size) : CallTo Try.prog 53 [.lit (.string s), int a] M0 fun v _ => v = int (spanI blankB s a) :=
  toV [] [lp_bls s] 400 30 .done (.need (@isSo (@And (((some (@AV.lit (@Value.string s))) :: (some (int a)) :: (none :: none :: (some (int (0 : Int))) :: (some (int (0 : Int))) :: (nn15 []))) = ((some (@AV.lit (@Value.string s))) :: (some (int a)) :: none :: none :: (some (int (0 : Int))) :: (some (int (0 : Int))) :: (nn15 []))) ((@Mem.mk 0 0 []) = M0))) (.need (@isSo (@And ((@ByteArray.size s) ≤ 100000000) (@And ((0 : Int) ≤ a) (a ≤ (((@ByteArray.size s) : Nat) : Int))))) (.leaf (int (@spanI blankB s a))))) (by kernel_rfl) (need_so ⟨rfl, rfl⟩ (need_so ⟨hs, h0, h1⟩ rfl))
theorem Sy.run_scan (s : ByteArray) (hs : limB s.size) (a : Int) (h0 : 0 ≤ a) (h1 : a ≤ s.size) : LoopTo Try.prog (theBody Try.prog 57 3) (s.size + 1) (runF s a 0) M0 fun ex F' M' => ex = .exit 0 ∧ M' = M0 ∧ F' = runF s (upI goesB s a) (spanI goesB s a) := by
  unfold limB at hs
  refine (span_scan s goesB (fun a m => runF s a m) hs (fun a m n G q0 q1 q2 q3 c1 c2 => ?_) s.size a 0 (by omega) h0 h1 (by omega) h0).mono fun ex F' M' ⟨e1, e2, e3⟩ => ⟨e1, e2, by rw [e3]; unfold spanI; rw [show (0 : Int) + (upI goesB s a - a) = upI goesB s a - a by omega]⟩
  refine roundL [cGoe] [] 400 30 57 3 Try.func57 rfl (by kernel_rfl) (true :: true :: false :: false :: true :: true :: (ff15 [])) (.br (.auto 1 (.yes (.auto 0 (.yes (.auto 0 (.br .done .done)))))) (.auto 4 .done)) (let e1 := (@AV.lit (@Value.int IntKind.u8 (@byteAt s (a).toNat))); let e2 := (some (@AV.lit (@Value.string s))); (.fork (!(leI (((@ByteArray.size s) : Nat) : Int) a)) (.need (@inR a (@ByteArray.size s)) (.need (@isSo (@And ((@HAppend.hAppend _ _ _ _ (@HAppend.hAppend _ _ _ _ [] [e1]) []) = [e1]) True)) (.fork (@Pl.goesB (@byteAt s (a).toNat)) (.leaf (Ex.norm, ((e2 :: (some (int (w64 (a + (1 : Int))))) :: none :: none :: (some (int (0 : Int))) :: (some (int (w64 (m + (1 : Int))))) :: (nn15 [])), (@Mem.mk 0 0 [])))) (.leaf ((@Ex.exit 0), ((e2 :: (some (int a)) :: none :: none :: (some (int (0 : Int))) :: (some (int m)) :: (nn15 [])), (@Mem.mk 0 0 []))))))) (.leaf ((@Ex.exit 0), ((e2 :: (some (int a)) :: none :: none :: (some (int (0 : Int))) :: (some (int m)) :: (nn15 [])), (@Mem.mk 0 0 [])))))) (by kernel_rfl) ?_
  refine fork_ok (fun h => ?_) (fun h => ?_)
  · simp only [Bool.not_eq_true', Bool.not_eq_false', leI_t, leI_f, eqI_t, eqI_f, inR_t, inR_f, isSo_t, isSo_f] at h
    have hr : inR a s.size = true := by rw [inR_t]; omega
    refine need_t hr (need_so ⟨rfl, trivial⟩ (fork_ok (fun h2 => ?_) (fun h2 => c2 (fun x => by rw [h2] at x; exact absurd x.2 (by simp)))))
    rw [w64_in (r := a + 1) (by omega), w64_in (r := m + 1) (by omega)]
    exact c1 (by omega) h2
  · simp only [Bool.not_eq_true', Bool.not_eq_false', leI_t, leI_f, eqI_t, eqI_f, inR_t, inR_f, isSo_t, isSo_f] at h
    exact c2 (fun x => by omega)
namespace Sy
noncomputable abbrev lp_run (s : ByteArray) : Lp Try.prog where
  f := 57
  key := 3
  S := formS (fun F M => slotI F 1) (fun a => runF s a 0) (fun _ => M0) (fun a => limB s.size ∧ 0 ≤ a ∧ a ≤ s.size) (fun a => .leaf (.exit 0, runF s (upI goesB s a) (spanI goesB s a), M0)) (true :: true :: false :: false :: true :: true :: (ff15 []))
  one := by kernel_rfl
  ok := formS_ok fun a ⟨h1, h2, h3⟩ => by
    refine ⟨s.size + 1, ?_⟩
    refine (Sy.run_scan s h1 a h2 h3).mono fun ex F M hg => ?_
    obtain ⟨rfl, rfl, rfl⟩ := hg
    rfl
end Sy
theorem Sy.run_t (s : ByteArray) (hs : limB s.size) (a : Int) (h0 : 0 ≤ a) (h1 : a ≤ s.size) : CallTo Try.prog 57 [.lit (.string s), int a] M0 fun v _ => v = int (spanI goesB s a) :=
  toV [] [lp_run s] 400 30 .done (.need (@isSo (@And (((some (@AV.lit (@Value.string s))) :: (some (int a)) :: (none :: none :: (some (int (0 : Int))) :: (some (int (0 : Int))) :: (nn15 []))) = ((some (@AV.lit (@Value.string s))) :: (some (int a)) :: none :: none :: (some (int (0 : Int))) :: (some (int (0 : Int))) :: (nn15 []))) ((@Mem.mk 0 0 []) = M0))) (.need (@isSo (@And ((@ByteArray.size s) ≤ 100000000) (@And ((0 : Int) ≤ a) (a ≤ (((@ByteArray.size s) : Nat) : Int))))) (.leaf (int (@spanI Pl.goesB s a))))) (by kernel_rfl) (need_so ⟨rfl, rfl⟩ (need_so ⟨hs, h0, h1⟩ rfl))
theorem Sy.dig_scan (s : ByteArray) (hs : limB s.size) (a : Int) (h0 : 0 ≤ a) (h1 : a ≤ s.size) : LoopTo Try.prog (theBody Try.prog 78 3) (s.size + 1) (digF s a 0) M0 fun ex F' M' => ex = .exit 0 ∧ M' = M0 ∧ F' = digF s (upI digB s a) (spanI digB s a) := by
  unfold limB at hs
  refine (span_scan s digB (fun a m => digF s a m) hs (fun a m n G q0 q1 q2 q3 c1 c2 => ?_) s.size a 0 (by omega) h0 h1 (by omega) h0).mono fun ex F' M' ⟨e1, e2, e3⟩ => ⟨e1, e2, by rw [e3]; unfold spanI; rw [show (0 : Int) + (upI digB s a - a) = upI digB s a - a by omega]⟩
  refine roundL [] [] 400 30 78 3 Try.func78 rfl (by kernel_rfl) (true :: true :: false :: false :: true :: true :: (ff21 [])) (.br (.auto 1 (.yes (.auto 1 (.br (.auto 1 (.yes (.auto 1 (.br .done .done)))) (.auto 4 .done))))) (.auto 9 .done)) (let e1 := (some (@AV.lit (@Value.string s))); (.fork (!(leI (((@ByteArray.size s) : Nat) : Int) a)) (.need (@inR a (@ByteArray.size s)) (.fork (leI (48 : Int) (@byteAt s (a).toNat)) (.need (@inR a (@ByteArray.size s)) (.fork (leI (@byteAt s (a).toNat) (57 : Int)) (.leaf (Ex.norm, ((e1 :: (some (int (w64 (a + (1 : Int))))) :: none :: none :: (some (int (0 : Int))) :: (some (int (w64 (m + (1 : Int))))) :: (nn21 [])), (@Mem.mk 0 0 [])))) (.leaf ((@Ex.exit 0), ((e1 :: (some (int a)) :: none :: none :: (some (int (0 : Int))) :: (some (int m)) :: (nn21 [])), (@Mem.mk 0 0 [])))))) (.leaf ((@Ex.exit 0), ((e1 :: (some (int a)) :: none :: none :: (some (int (0 : Int))) :: (some (int m)) :: (nn21 [])), (@Mem.mk 0 0 [])))))) (.leaf ((@Ex.exit 0), ((e1 :: (some (int a)) :: none :: none :: (some (int (0 : Int))) :: (some (int m)) :: (nn21 [])), (@Mem.mk 0 0 [])))))) (by kernel_rfl) ?_
  refine fork_ok (fun h => ?_) (fun h => ?_)
  · simp only [Bool.not_eq_true', Bool.not_eq_false', leI_t, leI_f, eqI_t, eqI_f, inR_t, inR_f, isSo_t, isSo_f] at h
    have hr : inR a s.size = true := by rw [inR_t]; omega
    refine need_t hr (fork_ok (fun h2 => need_t hr (fork_ok (fun h3 => ?_) (fun h3 => c2 (fun x => by unfold digB at x; rw [h3] at x; simp at x)))) (fun h2 => c2 (fun x => by unfold digB at x; rw [h2] at x; simp at x)))
    rw [w64_in (r := a + 1) (by omega), w64_in (r := m + 1) (by omega)]
    exact c1 (by omega) (by unfold digB; rw [h2, h3]; rfl)
  · simp only [Bool.not_eq_true', Bool.not_eq_false', leI_t, leI_f, eqI_t, eqI_f, inR_t, inR_f, isSo_t, isSo_f] at h
    exact c2 (fun x => by omega)
namespace Sy
noncomputable abbrev lp_dig (s : ByteArray) : Lp Try.prog where
  f := 78
  key := 3
  S := formS (fun F M => slotI F 1) (fun a => digF s a 0) (fun _ => M0) (fun a => limB s.size ∧ 0 ≤ a ∧ a ≤ s.size) (fun a => .leaf (.exit 0, digF s (upI digB s a) (spanI digB s a), M0)) (true :: true :: false :: false :: true :: true :: (ff21 []))
  one := by kernel_rfl
  ok := formS_ok fun a ⟨h1, h2, h3⟩ => by
    refine ⟨s.size + 1, ?_⟩
    refine (Sy.dig_scan s h1 a h2 h3).mono fun ex F M hg => ?_
    obtain ⟨rfl, rfl, rfl⟩ := hg
    rfl
end Sy
theorem Sy.dig_t (s : ByteArray) (hs : limB s.size) (a : Int) (h0 : 0 ≤ a) (h1 : a ≤ s.size) : CallTo Try.prog 78 [.lit (.string s), int a] M0 fun v _ => v = int (spanI digB s a) :=
  toV [] [lp_dig s] 400 30 .done (.need (@isSo (@And (((some (@AV.lit (@Value.string s))) :: (some (int a)) :: (none :: none :: (some (int (0 : Int))) :: (some (int (0 : Int))) :: (nn21 []))) = ((some (@AV.lit (@Value.string s))) :: (some (int a)) :: none :: none :: (some (int (0 : Int))) :: (some (int (0 : Int))) :: (nn21 []))) ((@Mem.mk 0 0 []) = M0))) (.need (@isSo (@And ((@ByteArray.size s) ≤ 100000000) (@And ((0 : Int) ≤ a) (a ≤ (((@ByteArray.size s) : Nat) : Int))))) (.leaf (int (@spanI digB s a))))) (by kernel_rfl) (need_so ⟨rfl, rfl⟩ (need_so ⟨hs, h0, h1⟩ rfl))
end Go.Proofs.Ytconlneohilnmaa
namespace Go.Proofs.Ytconlneohilnmaa
open Go Go.RowKit Pl Sy
noncomputable abbrev Sy.cRun (s : ByteArray) : Con Try.prog := atX 57 (fun args => match args with | [_, .lit (.int _ a)] => some a | _ => none) (fun a => [.lit (.string s), int a]) (fun a => int (spanI goesB s a)) (fun a => limB s.size ∧ 0 ≤ a ∧ a ≤ s.size) fun a h => ⟨⟨⟨trivial, trivial, trivial⟩, trivial⟩, run_t s h.1 a h.2.1 h.2.2⟩
noncomputable abbrev Sy.cBls (s : ByteArray) : Con Try.prog := atX 53 (fun args => match args with | [_, .lit (.int _ a)] => some a | _ => none) (fun a => [.lit (.string s), int a]) (fun a => int (spanI blankB s a)) (fun a => limB s.size ∧ 0 ≤ a ∧ a ≤ s.size) fun a h => ⟨⟨⟨trivial, trivial, trivial⟩, trivial⟩, bls_t s h.1 a h.2.1 h.2.2⟩
noncomputable abbrev Sy.cDig (s : ByteArray) : Con Try.prog := atX 78 (fun args => match args with | [_, .lit (.int _ a)] => some a | _ => none) (fun a => [.lit (.string s), int a]) (fun a => int (spanI digB s a)) (fun a => limB s.size ∧ 0 ≤ a ∧ a ≤ s.size) fun a h => ⟨⟨⟨trivial, trivial, trivial⟩, trivial⟩, dig_t s h.1 a h.2.1 h.2.2⟩
noncomputable def startsI (s : ByteArray) (a : Int) : Bool := !leI s.size a && (if eqI (byteAt s a.toNat) 45 = true then !leI s.size (a + 1) && (begB (byteAt s (a + 1).toNat) || eqI (byteAt s (a + 1).toNat) 45) else begB (byteAt s a.toNat))
theorem Sy.sta_t (s : ByteArray) (hs : limB s.size) (a : Int) (h0 : 0 ≤ a) (h1 : a ≤ s.size) : CallTo Try.prog 58 [.lit (.string s), int a] M0 fun v _ => v = boo (startsI s a) := by
  unfold limB at hs
  refine toV [cBeg] [] 400 30 (.br .done (.yes (.br (.br (.auto 2 (.yes (.auto 0 (.yes (.auto 0 (.br (.auto 2 (.yes (.auto 3 .done))) (.auto 6 .done))))))) (.auto 11 .done)) (.yes (.yes .done))))) (let e1 := (@ByteArray.size s); let e2 := (@byteAt s (a).toNat); let e3 := (w64 (a + (1 : Int))); let e4 := (@byteAt s (e3).toNat); let e5 := (@AV.lit (@Value.int IntKind.u8 e4)); let e6 := (@AV.lit (@Value.int IntKind.u8 e2)); (.fork (leI ((e1 : Nat) : Int) a) (.leaf (boo false)) (.need (@inR a e1) (.fork (eqI e2 (45 : Int)) (.fork (!(leI ((e1 : Nat) : Int) e3)) (.need (@inR e3 e1) (.need (@isSo (@And ((@HAppend.hAppend _ _ _ _ (@HAppend.hAppend _ _ _ _ [] [e5]) []) = [e5]) True)) (.fork (!(@Pl.begB e4)) (.need (@inR e3 e1) (.leaf (boo (eqI e4 (45 : Int))))) (.leaf (boo true))))) (.leaf (boo false))) (.need (@inR a e1) (.need (@isSo (@And ((@HAppend.hAppend _ _ _ _ (@HAppend.hAppend _ _ _ _ [] [e6]) []) = [e6]) True)) (.leaf (boo (@Pl.begB e2))))))))) (by kernel_rfl) ?_
  conv => zeta
  unfold startsI
  rw [w64_in (r := a + 1) (by omega)]
  refine fork_ok (fun q => by rw [q]; exact rfl) (fun q => ?_)
  have ha : a < s.size := by simp only [Bool.not_eq_true', Bool.not_eq_false', leI_t, leI_f, eqI_t, eqI_f, inR_t, inR_f, isSo_t, isSo_f] at q; omega
  have hr : inR a s.size = true := by rw [inR_t]; omega
  rw [q]
  refine need_t hr (fork_ok (fun e => ?_) (fun e => ?_))
  · rw [e]
    refine fork_ok (fun f => ?_) (fun f => ?_)
    · have hr2 : inR (a + 1) s.size = true := by simp only [Bool.not_eq_true', Bool.not_eq_false', leI_t, leI_f, eqI_t, eqI_f, inR_t, inR_f, isSo_t, isSo_f] at f; rw [inR_t]; omega
      refine need_t hr2 (need_so ⟨rfl, trivial⟩ (fork_ok (fun g => need_t hr2 ?_) (fun g => ?_)))
      · refine leaf_boo ?_
        simp only [Bool.not_eq_true'] at f g
        rw [f, g]; simp
      · refine leaf_boo ?_
        simp only [Bool.not_eq_true', Bool.not_eq_false'] at f g
        rw [f, g]; simp
    · refine leaf_boo ?_
      simp only [Bool.not_eq_false'] at f
      rw [f]; simp
  · rw [e]
    refine need_t hr (need_so ⟨rfl, trivial⟩ ?_)
    refine leaf_boo ?_
    simp
noncomputable abbrev Sy.cSta (s : ByteArray) : Con Try.prog := atX 58 (fun args => match args with | [_, .lit (.int _ a)] => some a | _ => none) (fun a => [.lit (.string s), int a]) (fun a => boo (startsI s a)) (fun a => limB s.size ∧ 0 ≤ a ∧ a ≤ s.size) fun a h => ⟨⟨⟨trivial, trivial, trivial⟩, trivial⟩, sta_t s h.1 a h.2.1 h.2.2⟩
def hasI (s t : ByteArray) (a : Int) : Bool := leI t.size (s.size - a) && bytesEq (s.extract a.toNat (a + t.size).toNat).data.toList t.data.toList
theorem Sy.hst_t (s t : ByteArray) (hs : limB s.size) (ht : limB t.size) (a : Int) (h0 : 0 ≤ a) (h1 : a ≤ s.size) : CallTo Try.prog 50 [.lit (.string s), int a, .lit (.string t)] M0 fun v _ => v = boo (hasI s t a) := by
  unfold limB at hs ht
  have hx : (fun (at_ : Int) => True) a := trivial
  generalize hat : a = at_ at *
  refine toV [] [] 400 30 (.br (.auto 5 (.yes (.auto 2 .done))) (.auto 8 .done)) (.fork (leI (((@ByteArray.size t) : Nat) : Int) (w64 ((((@ByteArray.size s) : Nat) : Int) - at_))) (.need ((leI (0 : Int) at_) && ((leI at_ (w64 (at_ + (((@ByteArray.size t) : Nat) : Int)))) && (leI (w64 (at_ + (((@ByteArray.size t) : Nat) : Int))) (((@ByteArray.size s) : Nat) : Int)))) (.leaf (boo (@bytesEq (@Array.toList _ (@ByteArray.data (@ByteArray.extract s (at_).toNat ((w64 (at_ + (((@ByteArray.size t) : Nat) : Int)))).toNat))) (@Array.toList _ (@ByteArray.data t)))))) (.leaf (boo false))) (by kernel_rfl) ?_
  conv => zeta
  unfold hasI
  rw [w64_in (r := (s.size : Int) - at_) (by omega), w64_in (r := at_ + (t.size : Int)) (by omega)]
  refine fork_ok (fun q => ?_) (fun q => ?_)
  · refine need_t (by simp only [Bool.not_eq_true', Bool.not_eq_false', leI_t, leI_f, eqI_t, eqI_f, inR_t, inR_f, isSo_t, isSo_f] at q; simp only [Bool.and_eq_true, leI_t]; omega) ?_
    refine leaf_boo ?_
    rw [q]; simp
  · refine leaf_boo ?_
    rw [q]; simp
noncomputable abbrev Sy.cHst (s : ByteArray) : Con Try.prog := atX 50 (fun args => match args with | [_, .lit (.int _ a), .lit (.string t)] => some (a, t) | _ => none) (fun x => [.lit (.string s), int x.1, .lit (.string x.2)]) (fun x => boo (hasI s x.2 x.1)) (fun x => (limB s.size ∧ limB x.2.size) ∧ 0 ≤ x.1 ∧ x.1 ≤ s.size) fun x h => ⟨⟨⟨trivial, trivial, trivial, trivial⟩, trivial⟩, hst_t s x.2 h.1.1 h.1.2 x.1 h.2.1 h.2.2⟩
theorem upI_end (g : Int → Bool) (s : ByteArray) (a : Int) (h0 : 0 ≤ a) (h : s.size ≤ a) : upI g s a = a := by
  unfold upI
  rw [hops_end _ _ (by omega)]
  omega
theorem spanI_bd (g : Int → Bool) (s : ByteArray) (a : Int) (h0 : 0 ≤ a) : 0 ≤ spanI g s a ∧ (a ≤ s.size → a + spanI g s a ≤ s.size) ∧ spanI g s a ≤ s.size := by
  unfold spanI
  by_cases h : a ≤ s.size
  · have := upI_le g s a h0 h
    omega
  · rw [upI_end g s a h0 (by omega)]
    omega
noncomputable def numB (s : ByteArray) (b a : Int) : Int :=
  if (!leI s.size (b + spanI digB s b) && (eqI (byteAt s (b + spanI digB s b).toNat) 46 && !leI (spanI digB s (b + spanI digB s b + 1)) 0)) = true then b + spanI digB s b + 1 + spanI digB s (b + spanI digB s b + 1) - a
  else if eqI (spanI digB s b) 0 = true then 0 else b + spanI digB s b - a
noncomputable def numI (s : ByteArray) (a : Int) : Int := if (!leI s.size a && (eqI (byteAt s a.toNat) 43 || eqI (byteAt s a.toNat) 45)) = true then numB s (a + 1) a else numB s a a
theorem Sy.num_t (s : ByteArray) (hs : limB s.size) (a : Int) (h0 : 0 ≤ a) (h1 : a ≤ s.size) : CallTo Try.prog 55 [.lit (.string s), int a] M0 fun v _ => v = int (numI s a) := by
  have hs' := hs
  unfold limB at hs
  refine toV [cDig s] [] 400 30 (.br (.auto 1 (.yes (.auto 1 (.br (.auto 1 (.yes (.auto 3 (.br (.yes (.br (.auto 1 (.yes (.auto 1 (.br (.auto 2 (.yes (.auto 1 (.br (.yes .done) (.br .done .done))))) (.auto 5 (.br .done .done)))))) (.auto 10 (.br .done .done)))) (.yes (.br (.auto 1 (.yes (.auto 1 (.br (.auto 2 (.yes (.auto 1 (.br (.yes .done) (.br .done .done))))) (.auto 5 (.br .done .done)))))) (.auto 10 (.br .done .done)))))))) (.auto 6 (.yes (.br (.auto 1 (.yes (.auto 1 (.br (.auto 2 (.yes (.auto 1 (.br (.yes .done) (.br .done .done))))) (.auto 5 (.br .done .done)))))) (.auto 10 (.br .done .done))))))))) (.auto 10 (.yes (.br (.auto 1 (.yes (.auto 1 (.br (.auto 2 (.yes (.auto 1 (.br (.yes .done) (.br .done .done))))) (.auto 5 (.br .done .done)))))) (.auto 10 (.br .done .done)))))) (let e1 := (@ByteArray.size s); let e2 := ((e1 : Nat) : Int); let e3 := (@AV.lit (@Value.string s)); let e4 := (w64 (a + (1 : Int))); let e5 := (e1 ≤ 100000000); let e6 := (0 : Int); let e7 := (w64 (e4 + (@spanI digB s e4))); let e8 := (w64 (e7 + (1 : Int))); let e9 := (@isSo (@And ((@HAppend.hAppend _ _ _ _ (@HAppend.hAppend _ _ _ _ [] [e3, (int e8)]) []) = [e3, (int e8)]) (@And e5 (@And (e6 ≤ e8) (e8 ≤ e2))))); let e10 := (w64 (a + (@spanI digB s a))); let e11 := (w64 (e10 + (1 : Int))); let e12 := (@isSo (@And ((@HAppend.hAppend _ _ _ _ (@HAppend.hAppend _ _ _ _ [] [e3, (int e11)]) []) = [e3, (int e11)]) (@And e5 (@And (e6 ≤ e11) (e11 ≤ e2))))); (.fork (!(leI e2 a)) (.need (@inR a e1) (.fork (!(eqI (@byteAt s (a).toNat) (43 : Int))) (.need (@inR a e1) (.fork (eqI (@byteAt s (a).toNat) (45 : Int)) (.need (@isSo (@And ((@HAppend.hAppend _ _ _ _ (@HAppend.hAppend _ _ _ _ [] [e3, (int e4)]) []) = [e3, (int e4)]) (@And e5 (@And (e6 ≤ e4) (e4 ≤ e2))))) (.fork (!(leI e2 e7)) (.need (@inR e7 e1) (.fork (eqI (@byteAt s (e7).toNat) (46 : Int)) (.need e9 (.fork (!(leI (@spanI digB s e8) e6)) (.need e9 (.leaf (int (w64 ((w64 (e8 + (@spanI digB s e8))) - a))))) (.fork (eqI (@spanI digB s e4) e6) (.leaf (int e6)) (.leaf (int (w64 (e7 - a))))))) (.fork (eqI (@spanI digB s e4) e6) (.leaf (int e6)) (.leaf (int (w64 (e7 - a))))))) (.fork (eqI (@spanI digB s e4) e6) (.leaf (int e6)) (.leaf (int (w64 (e7 - a))))))) (.need (@isSo (@And ((@HAppend.hAppend _ _ _ _ (@HAppend.hAppend _ _ _ _ [] [e3, (int a)]) []) = [e3, (int a)]) (@And e5 (@And (e6 ≤ a) (a ≤ e2))))) (.fork (!(leI e2 e10)) (.need (@inR e10 e1) (.fork (eqI (@byteAt s (e10).toNat) (46 : Int)) (.need e12 (.fork (!(leI (@spanI digB s e11) e6)) (.need e12 (.leaf (int (w64 ((w64 (e11 + (@spanI digB s e11))) - a))))) (.fork (eqI (@spanI digB s a) e6) (.leaf (int e6)) (.leaf (int (w64 (e10 - a))))))) (.fork (eqI (@spanI digB s a) e6) (.leaf (int e6)) (.leaf (int (w64 (e10 - a))))))) (.fork (eqI (@spanI digB s a) e6) (.leaf (int e6)) (.leaf (int (w64 (e10 - a))))))))) (.need (@isSo (@And ((@HAppend.hAppend _ _ _ _ (@HAppend.hAppend _ _ _ _ [] [e3, (int e4)]) []) = [e3, (int e4)]) (@And e5 (@And (e6 ≤ e4) (e4 ≤ e2))))) (.fork (!(leI e2 e7)) (.need (@inR e7 e1) (.fork (eqI (@byteAt s (e7).toNat) (46 : Int)) (.need e9 (.fork (!(leI (@spanI digB s e8) e6)) (.need e9 (.leaf (int (w64 ((w64 (e8 + (@spanI digB s e8))) - a))))) (.fork (eqI (@spanI digB s e4) e6) (.leaf (int e6)) (.leaf (int (w64 (e7 - a))))))) (.fork (eqI (@spanI digB s e4) e6) (.leaf (int e6)) (.leaf (int (w64 (e7 - a))))))) (.fork (eqI (@spanI digB s e4) e6) (.leaf (int e6)) (.leaf (int (w64 (e7 - a))))))))) (.need (@isSo (@And ((@HAppend.hAppend _ _ _ _ (@HAppend.hAppend _ _ _ _ [] [e3, (int a)]) []) = [e3, (int a)]) (@And e5 (@And (e6 ≤ a) (a ≤ e2))))) (.fork (!(leI e2 e10)) (.need (@inR e10 e1) (.fork (eqI (@byteAt s (e10).toNat) (46 : Int)) (.need e12 (.fork (!(leI (@spanI digB s e11) e6)) (.need e12 (.leaf (int (w64 ((w64 (e11 + (@spanI digB s e11))) - a))))) (.fork (eqI (@spanI digB s a) e6) (.leaf (int e6)) (.leaf (int (w64 (e10 - a))))))) (.fork (eqI (@spanI digB s a) e6) (.leaf (int e6)) (.leaf (int (w64 (e10 - a))))))) (.fork (eqI (@spanI digB s a) e6) (.leaf (int e6)) (.leaf (int (w64 (e10 - a))))))))) (by kernel_rfl) ?_
  conv => zeta
  have hB : ∀ b : Int, 0 ≤ b → b ≤ s.size → numB s b a = if (!leI s.size (b + spanI digB s b) && (eqI (byteAt s (b + spanI digB s b).toNat) 46 && !leI (spanI digB s (b + spanI digB s b + 1)) 0)) = true then b + spanI digB s b + 1 + spanI digB s (b + spanI digB s b + 1) - a
  else if eqI (spanI digB s b) 0 = true then 0 else b + spanI digB s b - a := fun b _ _ => rfl
  have b1 := spanI_bd digB s a h0
  have b2 := spanI_bd digB s (a + 1) (by omega)
  have b3 := spanI_bd digB s (a + spanI digB s a + 1) (by omega)
  have b4 := spanI_bd digB s (a + 1 + spanI digB s (a + 1) + 1) (by omega)
  rw [w64_in (r := a + 1) (by omega), w64_in (r := a + spanI digB s a) (by omega), w64_in (r := a + 1 + spanI digB s (a + 1)) (by omega),
    w64_in (r := a + spanI digB s a + 1) (by omega), w64_in (r := a + 1 + spanI digB s (a + 1) + 1) (by omega),
    w64_in (r := a + spanI digB s a + 1 + spanI digB s (a + spanI digB s a + 1)) (by omega), w64_in (r := a + 1 + spanI digB s (a + 1) + 1 + spanI digB s (a + 1 + spanI digB s (a + 1) + 1)) (by omega),
    w64_in (r := a + spanI digB s a - a) (by omega), w64_in (r := a + 1 + spanI digB s (a + 1) - a) (by omega),
    w64_in (r := a + spanI digB s a + 1 + spanI digB s (a + spanI digB s a + 1) - a) (by omega), w64_in (r := a + 1 + spanI digB s (a + 1) + 1 + spanI digB s (a + 1 + spanI digB s (a + 1) + 1) - a) (by omega)]
  have sub : ∀ b : Int, 0 ≤ b → b ≤ s.size → (numI s a = numB s b a) → True := fun _ _ _ _ => trivial
  refine fork_ok (fun q => ?_) (fun q => ?_)
  · have q' := q
    simp only [Bool.not_eq_true', Bool.not_eq_false', leI_t, leI_f, eqI_t, eqI_f, inR_t, inR_f, isSo_t, isSo_f] at q'
    have hr : inR a s.size = true := by rw [inR_t]; omega
    refine need_t hr (fork_ok (fun e => need_t hr (fork_ok (fun f => ?_) (fun f => ?_))) (fun e => ?_))
    · have eN : numI s a = numB s (a + 1) a := by unfold numI; rw [q, f]; simp
      rw [eN]
      unfold numB
      refine need_so ⟨rfl, hs', by omega, by omega⟩ (fork_ok (fun u => ?_) (fun u => ?_))
      · have u' := u
        simp only [Bool.not_eq_true', leI_f] at u'
        have hr2 : inR (a + 1 + spanI digB s (a + 1)) s.size = true := by rw [inR_t]; omega
        refine need_t hr2 (fork_ok (fun x => ?_) (fun x => ?_))
        · refine need_so ⟨rfl, hs', by omega, by omega⟩ (fork_ok (fun y => need_so ⟨rfl, hs', by omega, by omega⟩ ?_) (fun y => fork_ok (fun z => ?_) (fun z => ?_)))
          · refine leaf_int ?_
            rw [u, x, y]; simp
          · refine leaf_int ?_
            rw [u, x, y, z]; simp
          · refine leaf_int ?_
            rw [u, x, y, z]; simp
        · refine fork_ok (fun z => ?_) (fun z => ?_)
          · refine leaf_int ?_
            rw [u, x, z]; simp
          · refine leaf_int ?_
            rw [u, x, z]; simp
      · refine fork_ok (fun z => ?_) (fun z => ?_)
        · refine leaf_int ?_
          rw [u, z]; simp
        · refine leaf_int ?_
          rw [u, z]; simp
    · have eN : numI s a = numB s a a := by
        unfold numI
        simp only [Bool.not_eq_true'] at e
        rw [e, f]; simp
      rw [eN]
      unfold numB
      refine need_so ⟨rfl, hs', by omega, by omega⟩ (fork_ok (fun u => ?_) (fun u => ?_))
      · have u' := u
        simp only [Bool.not_eq_true', leI_f] at u'
        have hr2 : inR (a + spanI digB s a) s.size = true := by rw [inR_t]; omega
        refine need_t hr2 (fork_ok (fun x => ?_) (fun x => ?_))
        · refine need_so ⟨rfl, hs', by omega, by omega⟩ (fork_ok (fun y => need_so ⟨rfl, hs', by omega, by omega⟩ ?_) (fun y => fork_ok (fun z => ?_) (fun z => ?_)))
          · refine leaf_int ?_
            rw [u, x, y]; simp
          · refine leaf_int ?_
            rw [u, x, y, z]; simp
          · refine leaf_int ?_
            rw [u, x, y, z]; simp
        · refine fork_ok (fun z => ?_) (fun z => ?_)
          · refine leaf_int ?_
            rw [u, x, z]; simp
          · refine leaf_int ?_
            rw [u, x, z]; simp
      · refine fork_ok (fun z => ?_) (fun z => ?_)
        · refine leaf_int ?_
          rw [u, z]; simp
        · refine leaf_int ?_
          rw [u, z]; simp
    · have eN : numI s a = numB s (a + 1) a := by
        unfold numI
        simp only [Bool.not_eq_false'] at e
        rw [q, e]; simp
      rw [eN]
      unfold numB
      refine need_so ⟨rfl, hs', by omega, by omega⟩ (fork_ok (fun u => ?_) (fun u => ?_))
      · have u' := u
        simp only [Bool.not_eq_true', leI_f] at u'
        have hr2 : inR (a + 1 + spanI digB s (a + 1)) s.size = true := by rw [inR_t]; omega
        refine need_t hr2 (fork_ok (fun x => ?_) (fun x => ?_))
        · refine need_so ⟨rfl, hs', by omega, by omega⟩ (fork_ok (fun y => need_so ⟨rfl, hs', by omega, by omega⟩ ?_) (fun y => fork_ok (fun z => ?_) (fun z => ?_)))
          · refine leaf_int ?_
            rw [u, x, y]; simp
          · refine leaf_int ?_
            rw [u, x, y, z]; simp
          · refine leaf_int ?_
            rw [u, x, y, z]; simp
        · refine fork_ok (fun z => ?_) (fun z => ?_)
          · refine leaf_int ?_
            rw [u, x, z]; simp
          · refine leaf_int ?_
            rw [u, x, z]; simp
      · refine fork_ok (fun z => ?_) (fun z => ?_)
        · refine leaf_int ?_
          rw [u, z]; simp
        · refine leaf_int ?_
          rw [u, z]; simp
  · have q' := q
    simp only [Bool.not_eq_true', Bool.not_eq_false', leI_t, leI_f, eqI_t, eqI_f, inR_t, inR_f, isSo_t, isSo_f] at q'
    have eN : numI s a = numB s a a := by unfold numI; rw [q]; simp
    rw [eN]
    unfold numB
    refine need_so ⟨rfl, hs', by omega, by omega⟩ (fork_ok (fun u => ?_) (fun u => ?_))
    · have u' := u
      simp only [Bool.not_eq_true', leI_f] at u'
      have hr2 : inR (a + spanI digB s a) s.size = true := by rw [inR_t]; omega
      refine need_t hr2 (fork_ok (fun x => ?_) (fun x => ?_))
      · refine need_so ⟨rfl, hs', by omega, by omega⟩ (fork_ok (fun y => need_so ⟨rfl, hs', by omega, by omega⟩ ?_) (fun y => fork_ok (fun z => ?_) (fun z => ?_)))
        · refine leaf_int ?_
          rw [u, x, y]; simp
        · refine leaf_int ?_
          rw [u, x, y, z]; simp
        · refine leaf_int ?_
          rw [u, x, y, z]; simp
      · refine fork_ok (fun z => ?_) (fun z => ?_)
        · refine leaf_int ?_
          rw [u, x, z]; simp
        · refine leaf_int ?_
          rw [u, x, z]; simp
    · refine fork_ok (fun z => ?_) (fun z => ?_)
      · refine leaf_int ?_
        rw [u, z]; simp
      · refine leaf_int ?_
        rw [u, z]; simp
noncomputable abbrev Sy.cNum (s : ByteArray) : Con Try.prog := atX 55 (fun args => match args with | [_, .lit (.int _ a)] => some a | _ => none) (fun a => [.lit (.string s), int a]) (fun a => int (numI s a)) (fun a => limB s.size ∧ 0 ≤ a ∧ a ≤ s.size) fun a h => ⟨⟨⟨trivial, trivial, trivial⟩, trivial⟩, num_t s h.1 a h.2.1 h.2.2⟩
end Go.Proofs.Ytconlneohilnmaa
namespace Go.Proofs.Ytconlneohilnmaa
open Go Go.RowKit Pl Sy
namespace Sy
abbrev bhF (s t : ByteArray) (a : Int) : Fr := (some ((@AV.lit (@Value.string s))) :: some (int a) :: some ((@AV.lit (@Value.string t))) :: none :: none :: none :: some ((int (0 : Int))) :: (nn16 []))
abbrev quF (s : ByteArray) (a e : Int) : Fr := (some ((@AV.lit (@Value.string s))) :: some ((int a)) :: none :: none :: some ((@AV.ptr 0 0)) :: some ((int (0 : Int))) :: some (int e) :: (nn46 []))
abbrev quM : Mem := (@Mem.mk 1 0 [(some (@Blk.mk [(int (0 : Int)), (@AV.lit (@Value.string (@ByteArray.mk (@Array.mk _ [])))), (int (0 : Int))] 39 none))])
end Sy
def bhP (s t : ByteArray) (a : Int) : Int := (hops (fun j => hasI s t j) (fun j => j + 1) s.size a.toNat : Nat)
theorem bhP_step (s t : ByteArray) (a : Int) (h0 : 0 ≤ a) : bhP s t a = if a < s.size ∧ hasI s t a = false then bhP s t (a + 1) else a := by
  unfold bhP
  rw [hops_step (fun k _ => Nat.lt_succ_self k)]
  have ea : ((a.toNat : Nat) : Int) = a := by omega
  by_cases h : a < s.size ∧ hasI s t a = false
  · rw [if_pos h, if_pos ⟨by omega, by rw [ea]; exact h.2⟩, show (a + 1).toNat = a.toNat + 1 by omega]
  · rw [if_neg h, if_neg (fun ⟨q1, q2⟩ => h ⟨by omega, by rw [ea] at q2; exact q2⟩)]
    omega
theorem bhP_le (s t : ByteArray) (a : Int) (h0 : 0 ≤ a) (h : a ≤ s.size) : a ≤ bhP s t a ∧ bhP s t a ≤ s.size := by
  have := hops1_le (fun j => hasI s t j) s.size a.toNat (by omega)
  unfold bhP
  omega
namespace Sy
abbrev bhE (s t : ByteArray) (a : Int) : Fr := (some ((@AV.lit (@Value.string s))) :: some (int a) :: some ((@AV.lit (@Value.string t))) :: none :: none :: none :: some (int (a + t.size)) :: (nn16 []))
end Sy
theorem Sy.bhi_scan (s t : ByteArray) (hs : limB s.size) (ht : limB t.size) : ∀ (k : Nat) (a : Int), s.size - a.toNat ≤ k → 0 ≤ a → a ≤ s.size → LoopTo Try.prog (theBody Try.prog 51 2) (k + 1) (bhF s t a) M0 fun ex F' M' => M' = M0 ∧ ((leI s.size (bhP s t a) = false ∧ ex = .ret ∧ F' = bhE s t (bhP s t a)) ∨ (leI s.size (bhP s t a) = true ∧ ex = .exit 0 ∧ F' = bhF s t (bhP s t a))) := by
  have hs' := hs
  have ht' := ht
  unfold limB at hs ht
  intro k
  induction k with
  | zero =>
    intro a h1 h2 h3
    refine roundL [cHst s] [] 400 30 51 2 Try.func51 rfl (by kernel_rfl) (true :: true :: true :: false :: false :: false :: true :: (ff16 [])) (.br (.yes (.br .done .done)) .done) (let e1 := (((@ByteArray.size s) : Nat) : Int); let e2 := (@AV.lit (@Value.string s)); let e3 := (@AV.lit (@Value.string t)); (.fork (!(leI e1 a)) (.need (@isSo (@And ((@HAppend.hAppend _ _ _ _ (@HAppend.hAppend _ _ _ _ [] [e2, (int a), e3]) []) = [e2, (int a), e3]) (@And (@And ((@ByteArray.size s) ≤ 100000000) ((@ByteArray.size t) ≤ 100000000)) (@And ((0 : Int) ≤ a) (a ≤ e1))))) (.fork (@hasI s t a) (.leaf (Ex.ret, (((some e2) :: (some (int a)) :: (some e3) :: none :: none :: none :: (some (int (w64 (a + (((@ByteArray.size t) : Nat) : Int))))) :: (nn16 [])), (@Mem.mk 0 0 [])))) (.leaf (Ex.norm, (((some e2) :: (some (int (w64 (a + (1 : Int))))) :: (some e3) :: none :: none :: none :: (some (int (0 : Int))) :: (nn16 [])), (@Mem.mk 0 0 [])))))) (.leaf ((@Ex.exit 0), (((some e2) :: (some (int a)) :: (some e3) :: none :: none :: none :: (some (int (0 : Int))) :: (nn16 [])), (@Mem.mk 0 0 [])))))) (by kernel_rfl) ?_
    refine fork_ok (fun h => ?_) (fun h => ?_)
    · simp only [Bool.not_eq_true', Bool.not_eq_false', leI_t, leI_f, eqI_t, eqI_f, inR_t, inR_f, isSo_t, isSo_f] at h
      omega
    · refine ⟨rfl, .inr ?_⟩
      rw [bhP_step s t a h2, if_neg (fun x => by omega)]
      simp only [Bool.not_eq_true', Bool.not_eq_false', leI_t, leI_f, eqI_t, eqI_f, inR_t, inR_f, isSo_t, isSo_f] at h
      exact ⟨by rw [leI_t]; omega, rfl, rfl⟩
  | succ k ih =>
    intro a h1 h2 h3
    refine roundL [cHst s] [] 400 30 51 2 Try.func51 rfl (by kernel_rfl) (true :: true :: true :: false :: false :: false :: true :: (ff16 [])) (.br (.yes (.br .done .done)) .done) (let e1 := (((@ByteArray.size s) : Nat) : Int); let e2 := (@AV.lit (@Value.string s)); let e3 := (@AV.lit (@Value.string t)); (.fork (!(leI e1 a)) (.need (@isSo (@And ((@HAppend.hAppend _ _ _ _ (@HAppend.hAppend _ _ _ _ [] [e2, (int a), e3]) []) = [e2, (int a), e3]) (@And (@And ((@ByteArray.size s) ≤ 100000000) ((@ByteArray.size t) ≤ 100000000)) (@And ((0 : Int) ≤ a) (a ≤ e1))))) (.fork (@hasI s t a) (.leaf (Ex.ret, (((some e2) :: (some (int a)) :: (some e3) :: none :: none :: none :: (some (int (w64 (a + (((@ByteArray.size t) : Nat) : Int))))) :: (nn16 [])), (@Mem.mk 0 0 [])))) (.leaf (Ex.norm, (((some e2) :: (some (int (w64 (a + (1 : Int))))) :: (some e3) :: none :: none :: none :: (some (int (0 : Int))) :: (nn16 [])), (@Mem.mk 0 0 [])))))) (.leaf ((@Ex.exit 0), (((some e2) :: (some (int a)) :: (some e3) :: none :: none :: none :: (some (int (0 : Int))) :: (nn16 [])), (@Mem.mk 0 0 [])))))) (by kernel_rfl) ?_
    refine fork_ok (fun h => ?_) (fun h => ?_)
    · simp only [Bool.not_eq_true', Bool.not_eq_false', leI_t, leI_f, eqI_t, eqI_f, inR_t, inR_f, isSo_t, isSo_f] at h
      refine need_so ⟨rfl, ⟨hs', ht'⟩, h2, h3⟩ (fork_ok (fun q => ?_) (fun q => ?_))
      · rw [w64_in (r := a + (t.size : Int)) (by omega)]
        refine ⟨rfl, .inl ?_⟩
        rw [bhP_step s t a h2, if_neg (fun x => by rw [q] at x; exact absurd x.2 (by simp))]
        exact ⟨by rw [leI_f]; omega, rfl, rfl⟩
      · rw [w64_in (r := a + 1) (by omega)]
        rw [bhP_step s t a h2, if_pos ⟨by omega, q⟩]
        exact ih (a + 1) (by omega) (by omega) (by omega)
    · refine ⟨rfl, .inr ?_⟩
      simp only [Bool.not_eq_true', Bool.not_eq_false', leI_t, leI_f, eqI_t, eqI_f, inR_t, inR_f, isSo_t, isSo_f] at h
      rw [bhP_step s t a h2, if_neg (fun x => by omega)]
      exact ⟨by rw [leI_t]; omega, rfl, rfl⟩
namespace Sy
noncomputable abbrev lp_bhi (s t : ByteArray) : Lp Try.prog where
  f := 51
  key := 2
  S := formS (fun F M => slotI F 1) (fun a => bhF s t a) (fun _ => M0) (fun a => (limB s.size ∧ limB t.size) ∧ 0 ≤ a ∧ a ≤ s.size) (fun a => .fork (leI s.size (bhP s t a)) (.leaf (.exit 0, bhF s t (bhP s t a), M0)) (.leaf (.ret, bhE s t (bhP s t a), M0))) (true :: true :: true :: false :: false :: false :: true :: (ff16 []))
  one := by kernel_rfl
  ok := formS_ok fun a ⟨h1, h2, h3⟩ => by
    refine ⟨s.size + 1, ?_⟩
    refine (Sy.bhi_scan s t h1.1 h1.2 s.size a (by omega) h2 h3).mono fun ex F M hg => ?_
    obtain ⟨rfl, ⟨q1, rfl, rfl⟩ | ⟨q1, rfl, rfl⟩⟩ := hg
    · exact .inr ⟨q1, rfl⟩
    · exact .inl ⟨q1, rfl⟩
end Sy
def bhI (s t : ByteArray) (a : Int) : Int := if leI s.size (bhP s t a) = true then s.size else bhP s t a + t.size
theorem Sy.bhi_t (s t : ByteArray) (hs : limB s.size) (ht : limB t.size) (a : Int) (h0 : 0 ≤ a) (h1 : a ≤ s.size) : CallTo Try.prog 51 [.lit (.string s), int a, .lit (.string t)] M0 fun v _ => v = int (bhI s t a) :=
  toV [cHst s] [lp_bhi s t] 400 30 (.br .done .done) (let e1 := (some (@AV.lit (@Value.string s))); let e2 := (some (@AV.lit (@Value.string t))); let e3 := (((@ByteArray.size s) : Nat) : Int); (.need (@isSo (@And ((e1 :: (some (int a)) :: e2 :: (none :: none :: none :: (some (int (0 : Int))) :: (nn16 []))) = (e1 :: (some (int a)) :: e2 :: none :: none :: none :: (some (int (0 : Int))) :: (nn16 []))) ((@Mem.mk 0 0 []) = M0))) (.need (@isSo (@And (@And ((@ByteArray.size s) ≤ 100000000) ((@ByteArray.size t) ≤ 100000000)) (@And ((0 : Int) ≤ a) (a ≤ e3)))) (.fork (leI e3 (@bhP s t a)) (.leaf (int e3)) (.leaf (int ((@bhP s t a) + (((@ByteArray.size t) : Nat) : Int)))))))) (by kernel_rfl) (need_so ⟨rfl, rfl⟩ (need_so ⟨⟨hs, ht⟩, h0, h1⟩ (fork_ok (fun q => by unfold bhI; rw [q]; exact rfl) (fun q => by unfold bhI; rw [q]; exact rfl))))
noncomputable abbrev Sy.cBhi (s : ByteArray) : Con Try.prog := atX 51 (fun args => match args with | [_, .lit (.int _ a), .lit (.string t)] => some (a, t) | _ => none) (fun x => [.lit (.string s), int x.1, .lit (.string x.2)]) (fun x => int (bhI s x.2 x.1)) (fun x => (limB s.size ∧ limB x.2.size) ∧ 0 ≤ x.1 ∧ x.1 ≤ s.size) fun x h => ⟨⟨⟨trivial, trivial, trivial, trivial⟩, trivial⟩, bhi_t s x.2 h.1.1 h.1.2 x.1 h.2.1 h.2.2⟩
def quoB (q c : Int) : Bool := !eqI c q && !eqI c 10
theorem Sy.quo_scan (s : ByteArray) (hs : limB s.size) (a : Int) (h0 : 0 ≤ a) (h1 : a < s.size) : ∀ (k : Nat) (e : Int), s.size - e.toNat ≤ k → 0 ≤ e → e ≤ s.size → LoopTo Try.prog (theBody Try.prog 54 3) (k + 1) (quF s a e) quM fun ex F' M' => M' = quM ∧ ex = .exit 0 ∧ F' = quF s a (upI (quoB (byteAt s a.toNat)) s e) := by
  unfold limB at hs
  have hra : inR a s.size = true := by rw [inR_t]; omega
  have step : ∀ (e : Int) (n : Nat) (G : Ex → Fr → Mem → Prop), 0 ≤ e → e ≤ s.size → (e < s.size → quoB (byteAt s a.toNat) (byteAt s e.toNat) = true → LoopTo Try.prog (theBody Try.prog 54 3) n (quF s a (e + 1)) quM G) → (¬ (e < s.size ∧ quoB (byteAt s a.toNat) (byteAt s e.toNat) = true) → G (.exit 0) (quF s a e) quM) → LoopTo Try.prog (theBody Try.prog 54 3) (n + 1) (quF s a e) quM G := fun e n G q0 q1 c1 c2 => by
    refine roundL [] [] 400 30 54 3 Try.func54 rfl (by kernel_rfl) (true :: true :: false :: false :: true :: true :: true :: (ff46 [])) (.br (.auto 1 (.yes (.auto 2 (.yes (.auto 1 (.br (.auto 1 (.yes (.auto 1 (.br .done .done)))) (.auto 4 .done))))))) (.auto 12 .done)) (let e1 := (@ByteArray.size s); let e2 := (some (@AV.lit (@Value.string s))); let e3 := (@Mem.mk 1 0 [(some (@Blk.mk [(int (0 : Int)), (@AV.lit (@Value.string (@ByteArray.mk (@Array.mk _ [])))), (int (0 : Int))] 39 none))]); (.fork (!(leI ((e1 : Nat) : Int) e)) (.need (@inR e e1) (.need (@inR a e1) (.fork (!(eqI (@byteAt s (e).toNat) (@byteAt s (a).toNat))) (.need (@inR e e1) (.fork (!(eqI (@byteAt s (e).toNat) (10 : Int))) (.leaf (Ex.norm, ((e2 :: (some (int a)) :: none :: none :: (some (@AV.ptr 0 0)) :: (some (int (0 : Int))) :: (some (int (w64 (e + (1 : Int))))) :: (nn46 [])), e3))) (.leaf ((@Ex.exit 0), ((e2 :: (some (int a)) :: none :: none :: (some (@AV.ptr 0 0)) :: (some (int (0 : Int))) :: (some (int e)) :: (nn46 [])), e3))))) (.leaf ((@Ex.exit 0), ((e2 :: (some (int a)) :: none :: none :: (some (@AV.ptr 0 0)) :: (some (int (0 : Int))) :: (some (int e)) :: (nn46 [])), e3)))))) (.leaf ((@Ex.exit 0), ((e2 :: (some (int a)) :: none :: none :: (some (@AV.ptr 0 0)) :: (some (int (0 : Int))) :: (some (int e)) :: (nn46 [])), e3))))) (by kernel_rfl) ?_
    unfold quoB at c1 c2
    refine fork_ok (fun h => ?_) (fun h => ?_)
    · simp only [Bool.not_eq_true', Bool.not_eq_false', leI_t, leI_f, eqI_t, eqI_f, inR_t, inR_f, isSo_t, isSo_f] at h
      have hr : inR e s.size = true := by rw [inR_t]; omega
      refine need_t hr (need_t hra (fork_ok (fun u => need_t hr (fork_ok (fun v => ?_) (fun v => ?_))) (fun u => ?_)))
      · rw [w64_in (r := e + 1) (by omega)]
        exact c1 (by omega) (by rw [u, v]; rfl)
      · exact c2 (fun x => by rw [v] at x; simp at x)
      · exact c2 (fun x => by rw [u] at x; simp at x)
    · simp only [Bool.not_eq_true', Bool.not_eq_false', leI_t, leI_f, eqI_t, eqI_f, inR_t, inR_f, isSo_t, isSo_f] at h
      exact c2 (fun x => by omega)
  intro k
  induction k with
  | zero =>
    intro e q1 q2 q3
    refine step e 0 _ q2 q3 (fun h => absurd h (by omega)) (fun h => ⟨rfl, rfl, ?_⟩)
    rw [upI_step _ s e q2, if_neg h]
  | succ k ih =>
    intro e q1 q2 q3
    refine step e (k + 1) _ q2 q3 (fun h1 h2 => ?_) (fun h => ⟨rfl, rfl, ?_⟩)
    · rw [upI_step _ s e q2, if_pos ⟨h1, h2⟩]
      exact ih (e + 1) (by omega) (by omega) (by omega)
    · rw [upI_step _ s e q2, if_neg h]
namespace Sy
noncomputable abbrev lp_quo (s : ByteArray) (a : Int) : Lp Try.prog where
  f := 54
  key := 3
  S := formS (fun F M => slotI F 6) (fun e => quF s a e) (fun _ => quM) (fun e => limB s.size ∧ (0 ≤ a ∧ a < s.size) ∧ 0 ≤ e ∧ e ≤ s.size) (fun e => .leaf (.exit 0, quF s a (upI (quoB (byteAt s a.toNat)) s e), quM)) (true :: true :: false :: false :: true :: true :: true :: (ff46 []))
  one := by kernel_rfl
  ok := formS_ok fun e ⟨h1, h2, h3⟩ => by
    refine ⟨s.size + 1, ?_⟩
    refine (Sy.quo_scan s h1 a h2.1 h2.2 s.size e (by omega) h3.1 h3.2).mono fun ex F M hg => ?_
    obtain ⟨rfl, rfl, rfl⟩ := hg
    rfl
end Sy
namespace Sy
abbrev woF (s : ByteArray) (v l i : Int) : Fr := (some ((@AV.lit (@Value.string s))) :: none :: some ((int (0 : Int))) :: some (int v) :: some (int l) :: some (int i) :: (nn6 (nn48 [])))
end Sy
end Go.Proofs.Ytconlneohilnmaa
namespace Go.Proofs.Ytconlneohilnmaa
open Go Go.RowKit Pl Sy
def digD (c : Int) : Int := IntKind.i64.wrap (if (false && decide (128 ≤ (c - 48) % 256)) = true then (c - 48) % 256 - 256 else (c - 48) % 256)
noncomputable def capB (c v : Int) : Int := w64 (w64 (v * 10) + digD c)
noncomputable def capV (c v : Int) : Int := if leI (capB c v) 1125899906842624 = true then capB c v else 1125899906842624
noncomputable def wV (c v l : Int) : Int := if eqI c 46 = true then v else if (leI 48 c && leI c 57) = true then (if eqI l 0 = true then v else capV c v) else v
noncomputable def wL (c v l : Int) : Int := if eqI c 46 = true then 3 else if (leI 48 c && leI c 57) = true then (if eqI l 0 = true then l else if leI l 0 = true then l else w64 (l - 1)) else l
noncomputable def wGo (s : ByteArray) : Nat → Int → Int → Int → Int × Int
  | 0, _, v, l => (v, l)
  | k + 1, i, v, l => wGo s k (i + 1) (wV (byteAt s i.toNat) v l) (wL (byteAt s i.toNat) v l)
theorem Sy.wor_step (s : ByteArray) (hs : limB s.size) (v l i : Int) (n : Nat) (G : Ex → Fr → Mem → Prop) (h0 : 0 ≤ i) (h1 : i ≤ s.size)
    (c1 : i < s.size → ∀ v' l', wV (byteAt s i.toNat) v l = v' → wL (byteAt s i.toNat) v l = l' → LoopTo Try.prog (theBody Try.prog 79 5) n (woF s v' l' (i + 1)) M0 G)
    (c2 : i = s.size → G (.exit 0) (woF s v l i) M0) : LoopTo Try.prog (theBody Try.prog 79 5) (n + 1) (woF s v l i) M0 G := by
  unfold limB at hs
  refine roundL [] [] 400 30 79 5 Try.func79 rfl (by kernel_rfl) (true :: false :: true :: true :: true :: true :: (ff6 (ff48 []))) (.br (.yes (.br (.yes (.br (.auto 1 (.yes (.auto 1 (.br (.auto 2 (.yes (.br (.auto 0 .done) (.auto 0 .done)))) (.auto 2 .done))))) (.auto 7 .done))) (.yes (.br (.auto 1 (.yes (.auto 1 (.br (.auto 1 (.br .done (.yes (.br (.br .done .done) (.br .done .done))))) (.auto 2 .done))))) (.auto 7 .done))))) .done) (let e1 := (@inR i (@ByteArray.size s)); let e2 := (@byteAt s (i).toNat); let e3 := (@HMod.hMod _ _ _ _ (e2 - (48 : Int)) (256 : Int)); let e4 := (w64 ((w64 (v * (10 : Int))) + (IntKind.i64.wrap (if ((false && (@Decidable.decide ((128 : Int) ≤ e3) _)) = true) then (e3 - (256 : Int)) else e3)))); let e5 := (!(leI e4 (1125899906842624 : Int))); let e6 := (some (@AV.lit (@Value.string s))); let e7 := (some (int (0 : Int))); let e8 := (some (int (1125899906842624 : Int))); let e9 := (some (int (w64 (i + (1 : Int))))); let e10 := (@Mem.mk 0 0 []); let e11 := (some (int l)); let e12 := (some (int (w64 (l - (1 : Int))))); (.fork (!(leI (((@ByteArray.size s) : Nat) : Int) i)) (.need e1 (.fork (eqI e2 (46 : Int)) (.need e1 (.fork (!(!(leI (48 : Int) e2))) (.need e1 (.fork (!(!(leI e2 (57 : Int)))) (.need e1 (.fork e5 (.leaf (Ex.norm, ((e6 :: none :: e7 :: e8 :: (some (int (2 : Int))) :: e9 :: (nn6 (nn48 []))), e10))) (.leaf (Ex.norm, ((e6 :: none :: e7 :: (some (int e4)) :: (some (int (2 : Int))) :: e9 :: (nn6 (nn48 []))), e10))))) (.leaf (Ex.norm, ((e6 :: none :: e7 :: (some (int v)) :: (some (int (3 : Int))) :: e9 :: (nn6 (nn48 []))), e10))))) (.leaf (Ex.norm, ((e6 :: none :: e7 :: (some (int v)) :: (some (int (3 : Int))) :: e9 :: (nn6 (nn48 []))), e10))))) (.need e1 (.fork (!(!(leI (48 : Int) e2))) (.need e1 (.fork (!(!(leI e2 (57 : Int)))) (.fork (eqI l (0 : Int)) (.leaf (Ex.norm, ((e6 :: none :: e7 :: (some (int v)) :: e11 :: e9 :: (nn6 (nn48 []))), e10))) (.need e1 (.fork e5 (.fork (!(leI l (0 : Int))) (.leaf (Ex.norm, ((e6 :: none :: e7 :: e8 :: e12 :: e9 :: (nn6 (nn48 []))), e10))) (.leaf (Ex.norm, ((e6 :: none :: e7 :: e8 :: e11 :: e9 :: (nn6 (nn48 []))), e10)))) (.fork (!(leI l (0 : Int))) (.leaf (Ex.norm, ((e6 :: none :: e7 :: (some (int e4)) :: e12 :: e9 :: (nn6 (nn48 []))), e10))) (.leaf (Ex.norm, ((e6 :: none :: e7 :: (some (int e4)) :: e11 :: e9 :: (nn6 (nn48 []))), e10))))))) (.leaf (Ex.norm, ((e6 :: none :: e7 :: (some (int v)) :: e11 :: e9 :: (nn6 (nn48 []))), e10))))) (.leaf (Ex.norm, ((e6 :: none :: e7 :: (some (int v)) :: e11 :: e9 :: (nn6 (nn48 []))), e10))))))) (.leaf ((@Ex.exit 0), ((e6 :: none :: e7 :: (some (int v)) :: e11 :: (some (int i)) :: (nn6 (nn48 []))), e10))))) (by kernel_rfl) ?_
  refine fork_ok (fun h => ?_) (fun h => ?_)
  · simp only [Bool.not_eq_true', Bool.not_eq_false', leI_t, leI_f, eqI_t, eqI_f, inR_t, inR_f, isSo_t, isSo_f] at h
    have hr : inR i s.size = true := by rw [inR_t]; omega
    have c1 := c1 (by omega)
    rw [w64_in (r := i + 1) (by omega)]
    unfold wV wL at c1
    generalize hc : byteAt s i.toNat = c at *
    refine need_t hr (fork_ok (fun e => need_t hr (fork_ok (fun f => ?_) (fun f => ?_))) (fun e => need_t hr (fork_ok (fun f => need_t hr (fork_ok (fun g => ?_) (fun g => ?_))) (fun f => ?_))))
    · exfalso
      simp only [Bool.not_eq_true', Bool.not_eq_false', leI_t, leI_f, eqI_t, eqI_f, inR_t, inR_f, isSo_t, isSo_f] at e
      simp only [Bool.not_not, leI_t] at f
      omega
    · exact c1 _ _ (by rw [e]; rfl) (by rw [e]; rfl)
    · simp only [Bool.not_not] at f g
      refine fork_ok (fun z => ?_) (fun z => need_t hr (fork_ok (fun x => ?_) (fun x => ?_)))
      · exact c1 _ _ (by rw [e, f, g, z]; rfl) (by rw [e, f, g, z]; rfl)
      · have x' : (!leI (capB c v) 1125899906842624) = true := x
        simp only [Bool.not_eq_true'] at x'
        refine fork_ok (fun y => ?_) (fun y => ?_)
        · simp only [Bool.not_eq_true'] at y
          exact c1 _ _ (by rw [e, f, g, z]; unfold capV; rw [x']; rfl) (by rw [e, f, g, z, y]; rfl)
        · simp only [Bool.not_eq_false'] at y
          exact c1 _ _ (by rw [e, f, g, z]; unfold capV; rw [x']; rfl) (by rw [e, f, g, z, y]; rfl)
      · have x' : (!leI (capB c v) 1125899906842624) = false := x
        simp only [Bool.not_eq_false'] at x'
        refine fork_ok (fun y => ?_) (fun y => ?_)
        · simp only [Bool.not_eq_true'] at y
          exact c1 _ _ (by rw [e, f, g, z]; unfold capV; rw [x']; rfl) (by rw [e, f, g, z, y]; rfl)
        · simp only [Bool.not_eq_false'] at y
          exact c1 _ _ (by rw [e, f, g, z]; unfold capV; rw [x']; rfl) (by rw [e, f, g, z, y]; rfl)
    · simp only [Bool.not_not] at f g
      exact c1 _ _ (by rw [e, f, g]; rfl) (by rw [e, f, g]; rfl)
    · simp only [Bool.not_not] at f
      exact c1 _ _ (by rw [e, f]; rfl) (by rw [e, f]; rfl)
  · simp only [Bool.not_eq_true', Bool.not_eq_false', leI_t, leI_f, eqI_t, eqI_f, inR_t, inR_f, isSo_t, isSo_f] at h
    exact c2 (by omega)
theorem Sy.wor_scan (s : ByteArray) (hs : limB s.size) : ∀ (k : Nat) (v l i : Int), i + k = s.size → 0 ≤ i → LoopTo Try.prog (theBody Try.prog 79 5) (k + 1) (woF s v l i) M0 fun ex F' M' => M' = M0 ∧ ex = .exit 0 ∧ F' = woF s (wGo s k i v l).1 (wGo s k i v l).2 s.size := by
  intro k
  induction k with
  | zero =>
    intro v l i h1 h2
    refine wor_step s hs v l i 0 _ h2 (by omega) (fun h => absurd h (by omega)) (fun h => ⟨rfl, rfl, ?_⟩)
    rw [h]; rfl
  | succ k ih =>
    intro v l i h1 h2
    refine wor_step s hs v l i (k + 1) _ h2 (by omega) (fun h v' l' e1 e2 => ?_) (fun h => absurd h (by omega))
    subst e1 e2
    exact ih _ _ (i + 1) (by omega) (by omega)
noncomputable def worV (s : ByteArray) : Int := (wGo s s.size 0 0 (-1)).1
noncomputable def worL (s : ByteArray) : Int := (wGo s s.size 0 0 (-1)).2
namespace Sy
noncomputable abbrev lp_wor (s : ByteArray) : Lp Try.prog where
  f := 79
  key := 5
  S := formS (fun F M => some ()) (fun _ => woF s 0 (-1) 0) (fun _ => M0) (fun _ => limB s.size) (fun _ => .leaf (.exit 0, woF s (worV s) (worL s) s.size, M0)) (true :: false :: true :: true :: true :: true :: (ff6 (ff48 [])))
  one := by kernel_rfl
  ok := formS_ok fun _ h1 => by
    refine ⟨s.size + 1, ?_⟩
    refine (Sy.wor_scan s h1 s.size 0 (-1) 0 (by omega) (Int.le_refl _)).mono fun ex F M hg => ?_
    obtain ⟨rfl, rfl, rfl⟩ := hg
    rfl
end Sy
namespace Sy
abbrev w2F (s : ByteArray) (v l : Int) : Fr := (some ((@AV.lit (@Value.string s))) :: none :: some ((int (0 : Int))) :: some (int v) :: some (int l) :: (nn7 (nn48 [])))
end Sy
theorem wL_le (c v l : Int) (h : l ≤ 3) : wL c v l ≤ 3 := by
  unfold wL
  split
  · omega
  · split
    · split
      · exact h
      · split
        · exact h
        · rename_i z
          rw [Bool.not_eq_true, leI_f] at z
          rw [w64_in (r := l - 1) (by omega)]; omega
    · exact h
theorem wGo_le (s : ByteArray) : ∀ (k : Nat) (i v l : Int), l ≤ 3 → (wGo s k i v l).2 ≤ 3
  | 0, _, _, _, h => h
  | k + 1, i, v, l, h => wGo_le s k _ _ _ (wL_le _ _ _ h)
noncomputable def mulT : Nat → Int → Int
  | 0, v => v
  | n + 1, v => mulT n (w64 (v * 10))
noncomputable def tenI (v l : Int) : Int := mulT l.toNat v
theorem Sy.wo2_scan (s : ByteArray) : ∀ (k : Nat) (v l : Int), l.toNat = k → l ≤ 3 → LoopTo Try.prog (theBody Try.prog 79 17) (k + 1) (w2F s v l) M0 fun ex F' M' => M' = M0 ∧ ex = .exit 2 ∧ ∃ l', F' = w2F s (tenI v l) l' := by
  intro k
  induction k with
  | zero =>
    intro v l h1 h2
    refine roundL [] [] 400 30 79 17 Try.func79 rfl (by kernel_rfl) (true :: false :: true :: true :: true :: (ff7 (ff48 []))) (.br .done .done) (let e1 := (some (@AV.lit (@Value.string s))); (.fork (!(leI l (0 : Int))) (.leaf (Ex.norm, ((e1 :: none :: (some (int (0 : Int))) :: (some (int (w64 (v * (10 : Int))))) :: (some (int (w64 (l - (1 : Int))))) :: (nn7 (nn48 []))), (@Mem.mk 0 0 [])))) (.leaf ((@Ex.exit 2), ((e1 :: none :: (some (int (0 : Int))) :: (some (int v)) :: (some (int l)) :: (nn7 (nn48 []))), (@Mem.mk 0 0 [])))))) (by kernel_rfl) ?_
    refine fork_ok (fun h => ?_) (fun h => ?_)
    · simp only [Bool.not_eq_true', Bool.not_eq_false', leI_t, leI_f, eqI_t, eqI_f, inR_t, inR_f, isSo_t, isSo_f] at h
      omega
    · exact ⟨rfl, rfl, l, by unfold tenI; rw [h1]; rfl⟩
  | succ k ih =>
    intro v l h1 h2
    refine roundL [] [] 400 30 79 17 Try.func79 rfl (by kernel_rfl) (true :: false :: true :: true :: true :: (ff7 (ff48 []))) (.br .done .done) (let e1 := (some (@AV.lit (@Value.string s))); (.fork (!(leI l (0 : Int))) (.leaf (Ex.norm, ((e1 :: none :: (some (int (0 : Int))) :: (some (int (w64 (v * (10 : Int))))) :: (some (int (w64 (l - (1 : Int))))) :: (nn7 (nn48 []))), (@Mem.mk 0 0 [])))) (.leaf ((@Ex.exit 2), ((e1 :: none :: (some (int (0 : Int))) :: (some (int v)) :: (some (int l)) :: (nn7 (nn48 []))), (@Mem.mk 0 0 [])))))) (by kernel_rfl) ?_
    refine fork_ok (fun h => ?_) (fun h => ?_)
    · simp only [Bool.not_eq_true', Bool.not_eq_false', leI_t, leI_f, eqI_t, eqI_f, inR_t, inR_f, isSo_t, isSo_f] at h
      rw [w64_in (r := l - 1) (by omega)]
      refine (ih (w64 (v * 10)) (l - 1) (by omega) (by omega)).mono fun ex F' M' ⟨e1, e2, l', e3⟩ => ⟨e1, e2, l', ?_⟩
      rw [e3]
      unfold tenI
      rw [h1, show (l - 1).toNat = k by omega]
      rfl
    · simp only [Bool.not_eq_true', Bool.not_eq_false', leI_t, leI_f, eqI_t, eqI_f, inR_t, inR_f, isSo_t, isSo_f] at h
      omega
namespace Sy
noncomputable abbrev lp_wo2 (s : ByteArray) : Lp Try.prog where
  f := 79
  key := 17
  S := formS (fun F M => match slotI F 3, slotI F 4 with | some v, some l => some (v, l) | _, _ => none) (fun x => w2F s x.1 x.2) (fun _ => M0) (fun x => x.2 ≤ 3) (fun x => .leaf (.exit 2, (some ((@AV.lit (@Value.string s))) :: none :: some ((int (0 : Int))) :: some (int (tenI x.1 x.2)) :: (nn8 (nn48 []))), M0)) (true :: false :: true :: true :: true :: (ff7 (ff48 [])))
  one := by kernel_rfl
  ok := formS_ok fun x h1 => by
    refine ⟨x.2.toNat + 1, ?_⟩
    refine ((Sy.wo2_scan s x.2.toNat x.1 x.2 rfl h1).out (true :: false :: true :: true :: (ff8 (ff48 [])))).mono fun ex F M hg => ?_
    obtain ⟨F0, ⟨rfl, rfl, l', rfl⟩, rfl⟩ := hg
    rfl
end Sy
def holdC (a : Int) : Int := if leI a 1073741824 = true then (if leI (-1073741824) a = true then a else -1073741824) else 1073741824
theorem Sy.hold_r (a : Int) : CallTo Try.prog 82 [int a] M0 fun v _ => v = int (holdC a) :=
  toV [] [] 400 30 (.br .done (.br .done .done)) (.fork (!(leI a (1073741824 : Int))) (.leaf (int (1073741824 : Int))) (.fork (!(leI (-1073741824 : Int) a)) (.leaf (int (-1073741824 : Int))) (.leaf (int a)))) (by kernel_rfl) (by
    unfold holdC
    refine fork_ok (fun h => ?_) (fun h => fork_ok (fun g => ?_) (fun g => ?_))
    · simp only [Bool.not_eq_true'] at h
      rw [h]; exact rfl
    · simp only [Bool.not_eq_true', Bool.not_eq_false'] at h g
      rw [h, g]; exact rfl
    · simp only [Bool.not_eq_false'] at h g
      rw [h, g]; exact rfl)
noncomputable abbrev Sy.cHo : Con Try.prog := atX 82 (fun args => match args with | [.lit (.int .i64 a)] => some a | _ => none) (fun a => [int a]) (fun a => int (holdC a)) (fun _ => True) fun a _ => ⟨⟨⟨trivial, trivial⟩, trivial⟩, hold_r a⟩
noncomputable def worthT (s : ByteArray) : Int := tenI (worV s) (if leI 0 (worL s) = true then worL s else 3)
noncomputable def worthI (s : ByteArray) : Int := if eqI (byteAt s 0) 45 = true then holdC (IntKind.i64.wrap (0 - worthT s)) else holdC (worthT s)
theorem Sy.wor_t (s : ByteArray) (hs : limB s.size) (h0 : 0 < s.size) : CallTo Try.prog 79 [.lit (.string s)] M0 fun v _ => v = int (worthI s) :=
  toV [cHo] [lp_wor s, lp_wo2 s] 400 30 (.br (.yes (.br (.yes .done) (.yes .done))) (.yes (.br (.yes .done) (.yes .done)))) (let e1 := (some (@AV.lit (@Value.string s))); let e2 := (some (int (0 : Int))); let e3 := ((@Mem.mk 0 0 []) = M0); let e4 := (some (int (@worV s))); let e5 := (@inR (0 : Int) (@ByteArray.size s)); let e6 := (eqI (@byteAt s 0) (45 : Int)); let e7 := (@tenI (@worV s) (Int.ofNat 3)); let e8 := (IntKind.i64.wrap ((0 : Int) - e7)); let e9 := (@tenI (@worV s) (@worL s)); let e10 := (IntKind.i64.wrap ((0 : Int) - e9)); (.need (@isSo (@And ((e1 :: (none :: e2 :: e2 :: (some (int (-1 : Int))) :: e2 :: (nn6 (nn48 [])))) = (e1 :: none :: e2 :: e2 :: (some (int (-1 : Int))) :: e2 :: (nn6 (nn48 [])))) e3)) (.need (@isSo ((@ByteArray.size s) ≤ 100000000)) (.fork (!(leI (0 : Int) (@worL s))) (.need (@isSo (@And ((e1 :: none :: e2 :: e4 :: (some (int (3 : Int))) :: (nn7 (nn48 []))) = (e1 :: none :: e2 :: e4 :: (some (int (Int.ofNat 3))) :: (nn7 (nn48 [])))) e3)) (.need (@isSo ((Int.ofNat 3) ≤ (3 : Int))) (.need e5 (.fork e6 (.need (@isSo (@And ((@HAppend.hAppend _ _ _ _ (@HAppend.hAppend _ _ _ _ [] [(int e8)]) []) = [(int e8)]) True)) (.leaf (int (@holdC e8)))) (.need (@isSo (@And ((@HAppend.hAppend _ _ _ _ (@HAppend.hAppend _ _ _ _ [] [(int e7)]) []) = [(int e7)]) True)) (.leaf (int (@holdC e7)))))))) (.need (@isSo (@And ((e1 :: none :: e2 :: e4 :: (some (int (@worL s))) :: (nn7 (nn48 []))) = (e1 :: none :: e2 :: e4 :: (some (int (@worL s))) :: (nn7 (nn48 [])))) e3)) (.need (@isSo ((@worL s) ≤ (3 : Int))) (.need e5 (.fork e6 (.need (@isSo (@And ((@HAppend.hAppend _ _ _ _ (@HAppend.hAppend _ _ _ _ [] [(int e10)]) []) = [(int e10)]) True)) (.leaf (int (@holdC e10)))) (.need (@isSo (@And ((@HAppend.hAppend _ _ _ _ (@HAppend.hAppend _ _ _ _ [] [(int e9)]) []) = [(int e9)]) True)) (.leaf (int (@holdC e9)))))))))))) (by kernel_rfl) (by
    have hr : inR 0 s.size = true := by rw [inR_t]; omega
    have hl : worL s ≤ 3 := wGo_le s _ _ _ _ (by decide)
    unfold worthI worthT
    refine need_so ⟨rfl, rfl⟩ (need_so hs (fork_ok (fun q => ?_) (fun q => ?_)))
    · simp only [Bool.not_eq_true'] at q
      rw [q]
      refine need_so ⟨rfl, rfl⟩ (need_so (by decide) (need_t hr (fork_ok (fun e => need_so ⟨rfl, trivial⟩ ?_) (fun e => need_so ⟨rfl, trivial⟩ ?_))))
      · rw [e]; exact rfl
      · rw [e]; exact rfl
    · simp only [Bool.not_eq_false'] at q
      rw [q]
      refine need_so ⟨rfl, rfl⟩ (need_so hl (need_t hr (fork_ok (fun e => need_so ⟨rfl, trivial⟩ ?_) (fun e => need_so ⟨rfl, trivial⟩ ?_))))
      · rw [e]; exact rfl
      · rw [e]; exact rfl)
noncomputable abbrev Sy.cWor : Con Try.prog := atX 79 (fun args => match args with | [.lit (.string s)] => some s | _ => none) (fun s => [.lit (.string s)]) (fun s => int (worthI s)) (fun s => limB s.size ∧ 0 < s.size) fun s h => ⟨⟨⟨trivial, trivial⟩, trivial⟩, wor_t s h.1 h.2⟩
def sgnI (c : Int) : Int := if eqI 58 c = true then 10 else if eqI 59 c = true then 11 else if eqI 44 c = true then 12 else if eqI 40 c = true then 13 else if eqI 41 c = true then 14 else if eqI 91 c = true then 15 else if eqI 93 c = true then 16 else if eqI 123 c = true then 17 else if eqI 125 c = true then 18 else 0
theorem Sy.sig_t (c : Int) : CallTo Try.prog 59 [.lit (.int .u8 c)] M0 fun v _ => v = int (sgnI c) :=
  toV [] [] 400 30 (.auto 1 (.br .done (.auto 1 (.br .done (.auto 1 (.br .done (.auto 1 (.br .done (.auto 1 (.br .done (.auto 1 (.br .done (.auto 1 (.br .done (.auto 1 (.br .done (.auto 1 (.br .done (.auto 0 .done))))))))))))))))))) (.fork (eqI (58 : Int) c) (.leaf (int (10 : Int))) (.fork (eqI (59 : Int) c) (.leaf (int (11 : Int))) (.fork (eqI (44 : Int) c) (.leaf (int (12 : Int))) (.fork (eqI (40 : Int) c) (.leaf (int (13 : Int))) (.fork (eqI (41 : Int) c) (.leaf (int (14 : Int))) (.fork (eqI (91 : Int) c) (.leaf (int (15 : Int))) (.fork (eqI (93 : Int) c) (.leaf (int (16 : Int))) (.fork (eqI (123 : Int) c) (.leaf (int (17 : Int))) (.fork (eqI (125 : Int) c) (.leaf (int (18 : Int))) (.leaf (int (0 : Int)))))))))))) (by kernel_rfl) (by
    unfold sgnI
    repeat' (first | refine fork_ok (fun _ => ?_) (fun _ => ?_))
    all_goals refine leaf_int ?_
    all_goals simp_all)
noncomputable abbrev Sy.cSig : Con Try.prog := atX 59 (fun args => match args with | [.lit (.int .u8 c)] => some c | _ => none) (fun c => [.lit (.int .u8 c)]) (fun c => int (sgnI c)) (fun _ => True) fun c _ => ⟨⟨⟨trivial, trivial⟩, trivial⟩, sig_t c⟩
end Go.Proofs.Ytconlneohilnmaa
namespace Go.Proofs.Ytconlneohilnmaa
open Go Go.RowKit Pl Sy
abbrev Sy.tokV (k : Int) (x : ByteArray) (n e : Int) : AV := .tup [.agg [int k, .lit (.string x), int n], int e]
noncomputable def quoZ (s : ByteArray) (a : Int) : Int := upI (quoB (byteAt s a.toNat)) s (a + 1)
noncomputable def quoK (s : ByteArray) (a : Int) : Int := if eqI (quoZ s a) s.size = true then 5 else if eqI (byteAt s (quoZ s a).toNat) 10 = true then 6 else 5
noncomputable def quoX (s : ByteArray) (a : Int) : ByteArray := s.extract (a + 1).toNat (quoZ s a).toNat
noncomputable def quoE (s : ByteArray) (a : Int) : Int := if eqI (quoZ s a) s.size = true then quoZ s a else if eqI (byteAt s (quoZ s a).toNat) 10 = true then quoZ s a else quoZ s a + 1
theorem Sy.quo_t (s : ByteArray) (hs : limB s.size) (a : Int) (h0 : 0 ≤ a) (h1 : a < s.size) : CallTo Try.prog 54 [.lit (.string s), int a] M0 fun v _ => v = tokV (quoK s a) (quoX s a) 0 (quoE s a) := by
  have hs' := hs
  unfold limB at hs
  refine toV [] [lp_quo s a] 400 30 (.yes (.br .done (.yes (.br .done .done)))) (let e1 := (some (@AV.lit (@Value.string s))); let e2 := (int (0 : Int)); let e3 := (w64 (a + (1 : Int))); let e4 := (@ByteArray.size s); let e5 := ((e4 : Nat) : Int); let e6 := (@upI (@quoB (@byteAt s (a).toNat)) s e3); let e7 := ((@AV.lit (@Value.string (@ByteArray.extract s (e3).toNat (e6).toNat))) :: [e2]); let e8 := (@AV.agg (@List.take _ 3 ((int (5 : Int)) :: e7))); (.need (@isSo (@And ((e1 :: (some (int a)) :: (none :: none :: (some (@AV.ptr 0 0)) :: (some e2) :: (some (int e3)) :: (nn46 []))) = (e1 :: (some (int a)) :: none :: none :: (some (@AV.ptr 0 0)) :: (some e2) :: (some (int e3)) :: (nn46 []))) ((@Mem.mk 1 0 [(some (@Blk.mk [e2, (@AV.lit (@Value.string (@ByteArray.mk (@Array.mk _ [])))), e2] 39 none))]) = quM))) (.need (@isSo (@And (e4 ≤ 100000000) (@And (@And ((0 : Int) ≤ a) (a < e5)) (@And ((0 : Int) ≤ e3) (e3 ≤ e5))))) (.need ((leI (0 : Int) e3) && ((leI e3 e6) && (leI e6 e5))) (.fork (eqI e6 e5) (.leaf (@AV.tup [e8, (int e6)])) (.need (@inR e6 e4) (.fork (eqI (@byteAt s (e6).toNat) (10 : Int)) (.leaf (@AV.tup [(@AV.agg (@List.take _ 3 ((int (6 : Int)) :: e7))), (int e6)])) (.leaf (@AV.tup [e8, (int (w64 (e6 + (1 : Int))))]))))))))) (by kernel_rfl) ?_
  conv => zeta
  rw [w64_in (r := a + 1) (by omega)]
  have hz := upI_le (quoB (byteAt s a.toNat)) s (a + 1) (by omega) (by omega)
  unfold quoK quoX quoE
  rw [show upI (quoB (byteAt s a.toNat)) s (a + 1) = quoZ s a from rfl] at hz ⊢
  generalize hzz : quoZ s a = z at *
  rw [w64_in (r := z + 1) (by omega)]
  refine need_so ⟨rfl, rfl⟩ (need_so ⟨hs', ⟨h0, h1⟩, by omega, by omega⟩ (need_t (by simp only [Bool.and_eq_true, leI_t]; omega) (fork_ok (fun q => ?_) (fun q => ?_))))
  · rw [q]; exact rfl
  · have q' := q
    simp only [Bool.not_eq_true', Bool.not_eq_false', leI_t, leI_f, eqI_t, eqI_f, inR_t, inR_f, isSo_t, isSo_f] at q'
    rw [q]
    refine need_t (by rw [inR_t]; omega) (fork_ok (fun u => ?_) (fun u => ?_))
    · rw [u]; exact rfl
    · rw [u]; exact rfl
noncomputable abbrev Sy.cQuo (s : ByteArray) : Con Try.prog := atX 54 (fun args => match args with | [_, .lit (.int _ a)] => some a | _ => none) (fun a => [.lit (.string s), int a]) (fun a => tokV (quoK s a) (quoX s a) 0 (quoE s a)) (fun a => limB s.size ∧ 0 ≤ a ∧ a < s.size) fun a h => ⟨⟨⟨trivial, trivial, trivial⟩, ⟨⟨trivial, trivial, trivial, trivial⟩, trivial, trivial⟩⟩, quo_t s h.1 a h.2.1 h.2.2⟩
noncomputable def meaN (s : ByteArray) (a n : Int) : Int := worthI (s.extract a.toNat (a + n).toNat)
noncomputable def pctB (s : ByteArray) (e : Int) : Bool := !leI s.size e && eqI (byteAt s e.toNat) 37
noncomputable def meaK (s : ByteArray) (a n : Int) : Int := if pctB s (a + n) = true then 8 else if startsI s (a + n) = true then 9 else 7
noncomputable def meaX (s : ByteArray) (a n : Int) : ByteArray := if pctB s (a + n) = true then ⟨#[]⟩ else if startsI s (a + n) = true then s.extract (a + n).toNat (a + n + spanI goesB s (a + n)).toNat else ⟨#[]⟩
noncomputable def meaE (s : ByteArray) (a n : Int) : Int := if pctB s (a + n) = true then a + n + 1 else if startsI s (a + n) = true then a + n + spanI goesB s (a + n) else a + n
theorem Sy.mea_t (s : ByteArray) (hs : limB s.size) (a n : Int) (h0 : 0 ≤ a) (h1 : 0 < n) (h2 : a + n ≤ s.size) : CallTo Try.prog 56 [.lit (.string s), int a, int n] M0 fun v _ => v = tokV (meaK s a n) (meaX s a n) (meaN s a n) (meaE s a n) := by
  have hs' := hs
  unfold limB at hs
  refine toV [cWor, cSta s, cRun s] [] 400 30 (.yes (.yes (.br (.auto 1 (.yes (.auto 1 (.br .done (.yes (.br (.yes (.yes .done)) .done)))))) (.auto 4 (.yes (.br (.yes (.yes .done)) .done)))))) (let e1 := (w64 (a + n)); let e2 := (@ByteArray.size s); let e3 := ((e2 : Nat) : Int); let e4 := (@ByteArray.extract s (a).toNat (e1).toNat); let e5 := (@AV.lit (@Value.string (@ByteArray.mk (@Array.mk _ [])))); let e6 := (int (@worthI e4)); let e7 := (int (0 : Int)); let e8 := (@isSo (@And ((@HAppend.hAppend _ _ _ _ (@HAppend.hAppend _ _ _ _ [] [(@AV.lit (@Value.string s)), (int e1)]) []) = [(@AV.lit (@Value.string s)), (int e1)]) (@And (e2 ≤ 100000000) (@And ((0 : Int) ≤ e1) (e1 ≤ e3))))); let e9 := (w64 (e1 + (@spanI Pl.goesB s e1))); let e10 := (@AV.lit (@Value.string (@ByteArray.extract s (e1).toNat (e9).toNat))); (.need ((leI (0 : Int) a) && ((leI a e1) && (leI e1 e3))) (.need (@isSo (@And ((@HAppend.hAppend _ _ _ _ (@HAppend.hAppend _ _ _ _ [] [(@AV.lit (@Value.string e4))]) []) = [(@AV.lit (@Value.string e4))]) (@And ((@ByteArray.size e4) ≤ 100000000) (0 < (@ByteArray.size e4))))) (.fork (!(leI e3 e1)) (.need (@inR e1 e2) (.fork (eqI (@byteAt s (e1).toNat) (37 : Int)) (.leaf (@AV.tup [(@AV.agg (@List.take _ 3 ((int (8 : Int)) :: (e5 :: (e6 :: (@List.drop _ (0 + (((int (8 : Int)) :: (e5 :: [e6]))).length) [e7, e5, e7])))))), (int (w64 (e1 + (1 : Int))))])) (.need e8 (.fork (@startsI s e1) (.need e8 (.need ((leI (0 : Int) e1) && ((leI e1 e9) && (leI e9 e3))) (.leaf (@AV.tup [(@AV.agg (@List.take _ 3 ((int (9 : Int)) :: (e10 :: (e6 :: (@List.drop _ (0 + (((int (9 : Int)) :: (e10 :: [e6]))).length) [e7, e5, e7])))))), (int e9)])))) (.leaf (@AV.tup [(@AV.agg (@List.take _ 3 ((int (7 : Int)) :: e5 :: (e6 :: (@List.drop _ (0 + (((int (7 : Int)) :: e5 :: [e6])).length) [e7, e5, e7]))))), (int e1)])))))) (.need e8 (.fork (@startsI s e1) (.need e8 (.need ((leI (0 : Int) e1) && ((leI e1 e9) && (leI e9 e3))) (.leaf (@AV.tup [(@AV.agg (@List.take _ 3 ((int (9 : Int)) :: (e10 :: (e6 :: (@List.drop _ (0 + (((int (9 : Int)) :: (e10 :: [e6]))).length) [e7, e5, e7])))))), (int e9)])))) (.leaf (@AV.tup [(@AV.agg (@List.take _ 3 ((int (7 : Int)) :: e5 :: (e6 :: (@List.drop _ (0 + (((int (7 : Int)) :: e5 :: [e6])).length) [e7, e5, e7]))))), (int e1)])))))))) (by kernel_rfl) ?_
  conv => zeta
  have hb := spanI_bd goesB s (a + n) (by omega)
  rw [w64_in (r := a + n) (by omega), w64_in (r := a + n + spanI goesB s (a + n)) (by omega), w64_in (r := a + n + 1) (by omega)]
  have hx : (s.extract a.toNat (a + n).toNat).size = n.toNat := by rw [ByteArray.size_extract]; omega
  unfold meaK meaX meaN meaE pctB
  have last : ∀ (G : AV → Prop) (T : Tr AV), T.Ok G → T.Ok G := fun _ _ h => h
  refine need_t (by simp only [Bool.and_eq_true, leI_t]; omega) (need_so ⟨rfl, by show _ ≤ 100000000; omega, by omega⟩ (fork_ok (fun q => ?_) (fun q => ?_)))
  · have q' := q
    simp only [Bool.not_eq_true', leI_f] at q'
    rw [q]
    refine need_t (by rw [inR_t]; omega) (fork_ok (fun u => ?_) (fun u => ?_))
    · rw [u]; exact rfl
    · rw [u]
      refine need_so ⟨rfl, hs', by omega, by omega⟩ (fork_ok (fun v => need_so ⟨rfl, hs', by omega, by omega⟩ (need_t (by simp only [Bool.and_eq_true, leI_t]; omega) ?_)) (fun v => ?_))
      · rw [v]; exact rfl
      · rw [v]; exact rfl
  · rw [q]
    refine need_so ⟨rfl, hs', by omega, by omega⟩ (fork_ok (fun v => need_so ⟨rfl, hs', by omega, by omega⟩ (need_t (by simp only [Bool.and_eq_true, leI_t]; omega) ?_)) (fun v => ?_))
    · rw [v]; exact rfl
    · rw [v]; exact rfl
noncomputable abbrev Sy.cMea (s : ByteArray) : Con Try.prog := atX 56 (fun args => match args with | [_, .lit (.int _ a), .lit (.int _ n)] => some (a, n) | _ => none) (fun x => [.lit (.string s), int x.1, int x.2]) (fun x => tokV (meaK s x.1 x.2) (meaX s x.1 x.2) (meaN s x.1 x.2) (meaE s x.1 x.2)) (fun x => limB s.size ∧ 0 ≤ x.1 ∧ 0 < x.2 ∧ x.1 + x.2 ≤ s.size) fun x h => ⟨⟨⟨trivial, trivial, trivial, trivial⟩, ⟨⟨trivial, trivial, trivial, trivial⟩, trivial, trivial⟩⟩, mea_t s h.1 x.1 x.2 h.2.1 h.2.2.1 h.2.2.2⟩
def wSl : ByteArray := ⟨⟨[47, 42]⟩⟩
def wLs : ByteArray := ⟨⟨[42, 47]⟩⟩
def wOp : ByteArray := ⟨⟨[40]⟩⟩
noncomputable def nameT (s : ByteArray) (a : Int) : TokV × Int :=
  if startsI s a = true then
    if hasI s wOp (a + spanI goesB s a) = true then (⟨2, s.extract a.toNat (a + spanI goesB s a).toNat, 0⟩, a + spanI goesB s a + 1)
    else (⟨1, s.extract a.toNat (a + spanI goesB s a).toNat, 0⟩, a + spanI goesB s a)
  else if (!leI (sgnI (byteAt s a.toNat)) 0) = true then (⟨sgnI (byteAt s a.toNat), ⟨⟨[]⟩⟩, 0⟩, a + 1)
  else (⟨19, s.extract a.toNat (a + 1).toNat, 0⟩, a + 1)
noncomputable def atT (s : ByteArray) (a : Int) : TokV × Int :=
  if (eqI (byteAt s a.toNat) 64 && startsI s (a + 1)) = true then (⟨3, s.extract (a + 1).toNat (a + 1 + spanI goesB s (a + 1)).toNat, 0⟩, a + 1 + spanI goesB s (a + 1))
  else nameT s a
noncomputable def hashT (s : ByteArray) (a : Int) : TokV × Int :=
  if (eqI (byteAt s a.toNat) 35 && !leI (spanI goesB s (a + 1)) 0) = true then (⟨4, s.extract (a + 1).toNat (a + 1 + spanI goesB s (a + 1)).toNat, 0⟩, a + 1 + spanI goesB s (a + 1))
  else atT s a
noncomputable def oneT (s : ByteArray) (a : Int) : TokV × Int :=
  if hasI s wSl a = true then (⟨0, ⟨⟨[]⟩⟩, 0⟩, bhI s wLs (a + 2))
  else if blankB (byteAt s a.toNat) = true then (⟨20, ⟨⟨[]⟩⟩, 0⟩, a + spanI blankB s a)
  else if (eqI (byteAt s a.toNat) 34 || eqI (byteAt s a.toNat) 39) = true then (⟨quoK s a, quoX s a, 0⟩, quoE s a)
  else if (!leI (numI s a) 0) = true then (⟨meaK s a (numI s a), meaX s a (numI s a), meaN s a (numI s a)⟩, meaE s a (numI s a))
  else hashT s a
noncomputable def oneK (s : ByteArray) (a : Int) : Int := (oneT s a).1.kind
noncomputable def oneX (s : ByteArray) (a : Int) : ByteArray := (oneT s a).1.text
noncomputable def oneN (s : ByteArray) (a : Int) : Int := (oneT s a).1.n
noncomputable def oneE (s : ByteArray) (a : Int) : Int := (oneT s a).2
theorem hasI_le {s t : ByteArray} {a : Int} (h : hasI s t a = true) : a + t.size ≤ s.size := by
  unfold hasI at h
  rw [Bool.and_eq_true, leI_t] at h
  omega
theorem num_le (s : ByteArray) (a : Int) (h0 : 0 ≤ a) (h1 : a ≤ s.size) : a + numI s a ≤ s.size := by
  have hB : ∀ b : Int, 0 ≤ b → b ≤ s.size → a ≤ b → a + numB s b a ≤ s.size := fun b q0 q1 q2 => by
    have k1 := spanI_bd digB s b q0
    have k2 := spanI_bd digB s (b + spanI digB s b + 1) (by omega)
    unfold numB
    split
    · rename_i h
      simp only [Bool.and_eq_true, Bool.not_eq_true', leI_f] at h
      omega
    · split <;> omega
  unfold numI
  split
  · rename_i h
    simp only [Bool.and_eq_true, Bool.not_eq_true', leI_f] at h
    exact hB (a + 1) (by omega) (by omega) (by omega)
  · exact hB a h0 h1 (Int.le_refl _)
theorem leaf_tok {s : ByteArray} {a : Int} {t : TokV} {e : Int} (h : oneT s a = (t, e)) : tokV t.kind t.text t.n e = tokV (oneK s a) (oneX s a) (oneN s a) (oneE s a) := by
  unfold oneK oneX oneN oneE
  rw [h]
theorem Sy.one_t (s : ByteArray) (hs : limB s.size) (a : Int) (h0 : 0 ≤ a) (h1 : a < s.size) : CallTo Try.prog 30 [.lit (.string s), int a] M0 fun v _ => v = tokV (oneK s a) (oneX s a) (oneN s a) (oneE s a) := by
  have hs' := hs
  unfold limB at hs
  refine toV [cHst s, cBhi s, cBlank, cBls s, cQuo s, cNum s, cMea s, cRun s, cSta s, cSig] [] 400 30 (.yes (.yes (.br (.yes .done) (.yes (.br (.yes .done) (.br (.auto 1 (.br (.yes .done) (.yes (.br (.yes .done) (.yes (.br (.auto 1 (.br (.yes .done) (.br (.auto 2 (.yes (.auto 0 (.br (.yes (.yes .done)) (.yes (.br (.yes (.yes (.br (.yes .done) (.yes .done)))) (.yes (.br .done (.yes .done))))))))) (.auto 4 (.yes (.br (.yes (.yes (.br (.yes .done) (.yes .done)))) (.yes (.br .done (.yes .done))))))))) (.auto 2 (.br (.auto 2 (.yes (.auto 0 (.br (.yes (.yes .done)) (.yes (.br (.yes (.yes (.br (.yes .done) (.yes .done)))) (.yes (.br .done (.yes .done))))))))) (.auto 4 (.yes (.br (.yes (.yes (.br (.yes .done) (.yes .done)))) (.yes (.br .done (.yes .done)))))))))))))) (.auto 2 (.yes .done)))))))) (let e1 := (@ByteArray.size s); let e2 := (@AV.lit (@Value.string s)); let e3 := (@ByteArray.mk (@Array.mk _ [(47 : UInt8), (42 : UInt8)])); let e4 := (e1 ≤ 100000000); let e5 := (0 : Int); let e6 := ((e1 : Nat) : Int); let e7 := (w64 (a + (2 : Int))); let e8 := (@ByteArray.mk (@Array.mk _ [(42 : UInt8), (47 : UInt8)])); let e9 := (int e5); let e10 := (@Value.string (@ByteArray.mk (@Array.mk _ []))); let e11 := (@AV.lit e10); let e12 := (@byteAt s (a).toNat); let e13 := (@AV.lit (@Value.int IntKind.u8 e12)); let e14 := (@isSo (@And ((@HAppend.hAppend _ _ _ _ (@HAppend.hAppend _ _ _ _ [] [e13]) []) = [e13]) True)); let e15 := ((@HAppend.hAppend _ _ _ _ (@HAppend.hAppend _ _ _ _ [] [e2, (int a)]) []) = [e2, (int a)]); let e16 := (@isSo (@And e15 (@And e4 (@And (e5 ≤ a) (a ≤ e6))))); let e17 := (@List.map _ _ AV.lit (@Array.toList _ (@Array.mk _ [(@Value.int IntKind.i64 e5), e10, (@Value.int IntKind.i64 e5)]))); let e18 := (@List.drop _ 1 e17); let e19 := (@AV.lit (@Value.string (@quoX s a))); let e20 := (@numI s a); let e21 := (@AV.lit (@Value.string (@meaX s a e20))); let e22 := (w64 (a + (1 : Int))); let e23 := (@isSo (@And ((@HAppend.hAppend _ _ _ _ (@HAppend.hAppend _ _ _ _ [] [e2, (int e22)]) []) = [e2, (int e22)]) (@And e4 (@And (e5 ≤ e22) (e22 ≤ e6))))); let e24 := (w64 (e22 + (@spanI Pl.goesB s e22))); let e25 := ((leI e5 e22) && ((leI e22 e24) && (leI e24 e6))); let e26 := (@AV.lit (@Value.string (@ByteArray.extract s (e22).toNat (e24).toNat))); let e27 := (w64 (a + (@spanI Pl.goesB s a))); let e28 := (@ByteArray.mk (@Array.mk _ [(40 : UInt8)])); let e29 := (@AV.lit (@Value.string e28)); let e30 := ((leI e5 a) && ((leI a e27) && (leI e27 e6))); let e31 := (@AV.lit (@Value.string (@ByteArray.extract s (a).toNat (e27).toNat))); let e32 := (int (@sgnI e12)); let e33 := (@AV.lit (@Value.string (@ByteArray.extract s (a).toNat (e22).toNat))); (.need (@inR a e1) (.need (@isSo (@And ((@HAppend.hAppend _ _ _ _ (@HAppend.hAppend _ _ _ _ [] [e2, (int a), (@AV.lit (@Value.string e3))]) []) = [e2, (int a), (@AV.lit (@Value.string e3))]) (@And (@And e4 ((@ByteArray.size e3) ≤ 100000000)) (@And (e5 ≤ a) (a ≤ e6))))) (.fork (@hasI s e3 a) (.need (@isSo (@And ((@HAppend.hAppend _ _ _ _ (@HAppend.hAppend _ _ _ _ [] [e2, (int e7), (@AV.lit (@Value.string e8))]) []) = [e2, (int e7), (@AV.lit (@Value.string e8))]) (@And (@And e4 ((@ByteArray.size e8) ≤ 100000000)) (@And (e5 ≤ e7) (e7 ≤ e6))))) (.leaf (@AV.tup [(@AV.agg (@List.take _ 3 (e9 :: e11 :: e9 :: (@List.drop _ (0 + ([e9, e11, e9]).length) [e9, e11, e9])))), (int (@bhI s e8 e7))]))) (.need e14 (.fork (@blankB e12) (.need e16 (.leaf (@AV.tup [(@AV.agg (@List.take _ 3 ((int (20 : Int)) :: e11 :: e9 :: (@List.drop _ (0 + (((int (20 : Int)) :: e18)).length) [e9, e11, e9])))), (int (w64 (a + (@spanI blankB s a))))]))) (.fork (!(eqI e12 (34 : Int))) (.fork (eqI e12 (39 : Int)) (.need (@isSo (@And e15 (@And e4 (@And (e5 ≤ a) (a < e6))))) (.leaf (@AV.tup [(@AV.agg (@List.take _ 3 ((int (@quoK s a)) :: e19 :: e9 :: (@List.drop _ (0 + ([(int (@quoK s a)), e19, e9]).length) [e9, e11, e9])))), (int (@quoE s a))]))) (.need e16 (.fork (!(leI e20 e5)) (.need (@isSo (@And ((@HAppend.hAppend _ _ _ _ (@HAppend.hAppend _ _ _ _ [] [e2, (int a), (int e20)]) []) = [e2, (int a), (int e20)]) (@And e4 (@And (e5 ≤ a) (@And (e5 < e20) ((a + e20) ≤ e6)))))) (.leaf (@AV.tup [(@AV.agg (@List.take _ 3 ((int (@meaK s a e20)) :: e21 :: (int (@meaN s a e20)) :: (@List.drop _ (0 + ([(int (@meaK s a e20)), e21, (int (@meaN s a e20))]).length) [e9, e11, e9])))), (int (@meaE s a e20))]))) (.need e23 (.fork (eqI e12 (35 : Int)) (.fork (!(leI (@spanI Pl.goesB s e22) e5)) (.need e25 (.leaf (@AV.tup [(@AV.agg (@List.take _ 3 ((int (4 : Int)) :: (e26 :: (e9 :: (@List.drop _ (0 + (((int (4 : Int)) :: (e26 :: (@List.drop _ (1 + ([e26]).length) ((int (4 : Int)) :: e18))))).length) [e9, e11, e9])))))), (int e24)]))) (.fork (eqI e12 (64 : Int)) (.need e23 (.fork (@startsI s e22) (.need e23 (.need e25 (.leaf (@AV.tup [(@AV.agg (@List.take _ 3 ((int (3 : Int)) :: (e26 :: (e9 :: (@List.drop _ (0 + (((int (3 : Int)) :: (e26 :: (@List.drop _ (1 + ([e26]).length) ((int (3 : Int)) :: e18))))).length) [e9, e11, e9])))))), (int e24)])))) (.need e16 (.fork (@startsI s a) (.need e16 (.need (@isSo (@And ((@HAppend.hAppend _ _ _ _ (@HAppend.hAppend _ _ _ _ [] [e2, (int e27), e29]) []) = [e2, (int e27), e29]) (@And (@And e4 ((@ByteArray.size e28) ≤ 100000000)) (@And (e5 ≤ e27) (e27 ≤ e6))))) (.fork (@hasI s e28 e27) (.need e30 (.leaf (@AV.tup [(@AV.agg (@List.take _ 3 ((int (2 : Int)) :: (e31 :: (e9 :: (@List.drop _ (0 + (((int (2 : Int)) :: (e31 :: (@List.drop _ (1 + ([e31]).length) ((int (2 : Int)) :: e18))))).length) [e9, e11, e9])))))), (int (w64 (e27 + (1 : Int))))]))) (.need e30 (.leaf (@AV.tup [(@AV.agg (@List.take _ 3 ((int (1 : Int)) :: (e31 :: (e9 :: (@List.drop _ (0 + (((int (1 : Int)) :: (e31 :: (@List.drop _ (1 + ([e31]).length) ((int (1 : Int)) :: e18))))).length) [e9, e11, e9])))))), (int e27)])))))) (.need e14 (.fork (!(leI (@sgnI e12) e5)) (.leaf (@AV.tup [(@AV.agg (@List.take _ 3 (e32 :: (e11 :: e9 :: (@List.drop _ (0 + ((e32 :: (@List.drop _ (0 + ([e32]).length) e17))).length) [e9, e11, e9]))))), (int e22)])) (.need ((leI e5 a) && ((leI a e22) && (leI e22 e6))) (.leaf (@AV.tup [(@AV.agg (@List.take _ 3 ((int (19 : Int)) :: (e33 :: (e9 :: (@List.drop _ (0 + (((int (19 : Int)) :: (e33 :: (@List.drop _ (1 + ([e33]).length) ((int (19 : Int)) :: e18))))).length) [e9, e11, e9])))))), (int e22)]))))))))) (.need e16 (.fork (@startsI s a) (.need e16 (.need (@isSo (@And ((@HAppend.hAppend _ _ _ _ (@HAppend.hAppend _ _ _ _ [] [e2, (int e27), e29]) []) = [e2, (int e27), e29]) (@And (@And e4 ((@ByteArray.size e28) ≤ 100000000)) (@And (e5 ≤ e27) (e27 ≤ e6))))) (.fork (@hasI s e28 e27) (.need e30 (.leaf (@AV.tup [(@AV.agg (@List.take _ 3 ((int (2 : Int)) :: (e31 :: (e9 :: (@List.drop _ (0 + (((int (2 : Int)) :: (e31 :: (@List.drop _ (1 + ([e31]).length) ((int (2 : Int)) :: e18))))).length) [e9, e11, e9])))))), (int (w64 (e27 + (1 : Int))))]))) (.need e30 (.leaf (@AV.tup [(@AV.agg (@List.take _ 3 ((int (1 : Int)) :: (e31 :: (e9 :: (@List.drop _ (0 + (((int (1 : Int)) :: (e31 :: (@List.drop _ (1 + ([e31]).length) ((int (1 : Int)) :: e18))))).length) [e9, e11, e9])))))), (int e27)])))))) (.need e14 (.fork (!(leI (@sgnI e12) e5)) (.leaf (@AV.tup [(@AV.agg (@List.take _ 3 (e32 :: (e11 :: e9 :: (@List.drop _ (0 + ((e32 :: (@List.drop _ (0 + ([e32]).length) e17))).length) [e9, e11, e9]))))), (int e22)])) (.need ((leI e5 a) && ((leI a e22) && (leI e22 e6))) (.leaf (@AV.tup [(@AV.agg (@List.take _ 3 ((int (19 : Int)) :: (e33 :: (e9 :: (@List.drop _ (0 + (((int (19 : Int)) :: (e33 :: (@List.drop _ (1 + ([e33]).length) ((int (19 : Int)) :: e18))))).length) [e9, e11, e9])))))), (int e22)]))))))))) (.fork (eqI e12 (64 : Int)) (.need e23 (.fork (@startsI s e22) (.need e23 (.need e25 (.leaf (@AV.tup [(@AV.agg (@List.take _ 3 ((int (3 : Int)) :: (e26 :: (e9 :: (@List.drop _ (0 + (((int (3 : Int)) :: (e26 :: (@List.drop _ (1 + ([e26]).length) ((int (3 : Int)) :: e18))))).length) [e9, e11, e9])))))), (int e24)])))) (.need e16 (.fork (@startsI s a) (.need e16 (.need (@isSo (@And ((@HAppend.hAppend _ _ _ _ (@HAppend.hAppend _ _ _ _ [] [e2, (int e27), e29]) []) = [e2, (int e27), e29]) (@And (@And e4 ((@ByteArray.size e28) ≤ 100000000)) (@And (e5 ≤ e27) (e27 ≤ e6))))) (.fork (@hasI s e28 e27) (.need e30 (.leaf (@AV.tup [(@AV.agg (@List.take _ 3 ((int (2 : Int)) :: (e31 :: (e9 :: (@List.drop _ (0 + (((int (2 : Int)) :: (e31 :: (@List.drop _ (1 + ([e31]).length) ((int (2 : Int)) :: e18))))).length) [e9, e11, e9])))))), (int (w64 (e27 + (1 : Int))))]))) (.need e30 (.leaf (@AV.tup [(@AV.agg (@List.take _ 3 ((int (1 : Int)) :: (e31 :: (e9 :: (@List.drop _ (0 + (((int (1 : Int)) :: (e31 :: (@List.drop _ (1 + ([e31]).length) ((int (1 : Int)) :: e18))))).length) [e9, e11, e9])))))), (int e27)])))))) (.need e14 (.fork (!(leI (@sgnI e12) e5)) (.leaf (@AV.tup [(@AV.agg (@List.take _ 3 (e32 :: (e11 :: e9 :: (@List.drop _ (0 + ((e32 :: (@List.drop _ (0 + ([e32]).length) e17))).length) [e9, e11, e9]))))), (int e22)])) (.need ((leI e5 a) && ((leI a e22) && (leI e22 e6))) (.leaf (@AV.tup [(@AV.agg (@List.take _ 3 ((int (19 : Int)) :: (e33 :: (e9 :: (@List.drop _ (0 + (((int (19 : Int)) :: (e33 :: (@List.drop _ (1 + ([e33]).length) ((int (19 : Int)) :: e18))))).length) [e9, e11, e9])))))), (int e22)]))))))))) (.need e16 (.fork (@startsI s a) (.need e16 (.need (@isSo (@And ((@HAppend.hAppend _ _ _ _ (@HAppend.hAppend _ _ _ _ [] [e2, (int e27), e29]) []) = [e2, (int e27), e29]) (@And (@And e4 ((@ByteArray.size e28) ≤ 100000000)) (@And (e5 ≤ e27) (e27 ≤ e6))))) (.fork (@hasI s e28 e27) (.need e30 (.leaf (@AV.tup [(@AV.agg (@List.take _ 3 ((int (2 : Int)) :: (e31 :: (e9 :: (@List.drop _ (0 + (((int (2 : Int)) :: (e31 :: (@List.drop _ (1 + ([e31]).length) ((int (2 : Int)) :: e18))))).length) [e9, e11, e9])))))), (int (w64 (e27 + (1 : Int))))]))) (.need e30 (.leaf (@AV.tup [(@AV.agg (@List.take _ 3 ((int (1 : Int)) :: (e31 :: (e9 :: (@List.drop _ (0 + (((int (1 : Int)) :: (e31 :: (@List.drop _ (1 + ([e31]).length) ((int (1 : Int)) :: e18))))).length) [e9, e11, e9])))))), (int e27)])))))) (.need e14 (.fork (!(leI (@sgnI e12) e5)) (.leaf (@AV.tup [(@AV.agg (@List.take _ 3 (e32 :: (e11 :: e9 :: (@List.drop _ (0 + ((e32 :: (@List.drop _ (0 + ([e32]).length) e17))).length) [e9, e11, e9]))))), (int e22)])) (.need ((leI e5 a) && ((leI a e22) && (leI e22 e6))) (.leaf (@AV.tup [(@AV.agg (@List.take _ 3 ((int (19 : Int)) :: (e33 :: (e9 :: (@List.drop _ (0 + (((int (19 : Int)) :: (e33 :: (@List.drop _ (1 + ([e33]).length) ((int (19 : Int)) :: e18))))).length) [e9, e11, e9])))))), (int e22)]))))))))))))) (.need (@isSo (@And e15 (@And e4 (@And (e5 ≤ a) (a < e6))))) (.leaf (@AV.tup [(@AV.agg (@List.take _ 3 ((int (@quoK s a)) :: e19 :: e9 :: (@List.drop _ (0 + ([(int (@quoK s a)), e19, e9]).length) [e9, e11, e9])))), (int (@quoE s a))])))))))))) (by kernel_rfl) ?_
  conv => zeta
  have b1 := spanI_bd goesB s a h0
  have b2 := spanI_bd goesB s (a + 1) (by omega)
  have b3 := spanI_bd blankB s a h0
  have b4 := num_le s a h0 (by omega)
  rw [w64_in (r := a + 1) (by omega), w64_in (r := a + 2) (by omega), w64_in (r := a + spanI goesB s a) (by omega), w64_in (r := a + 1 + spanI goesB s (a + 1)) (by omega), w64_in (r := a + spanI blankB s a) (by omega), w64_in (r := a + spanI goesB s a + 1) (by omega)]
  have hr : inR a s.size = true := by rw [inR_t]; omega
  have key : ∀ (t : TokV) (e : Int), oneT s a = (t, e) → (Tr.leaf (tokV t.kind t.text t.n e)).Ok (fun v => v = tokV (oneK s a) (oneX s a) (oneN s a) (oneE s a)) := fun t e h => leaf_tok h
  refine need_t hr (need_so ⟨rfl, ⟨hs', by decide⟩, h0, by omega⟩ (fork_ok (fun c1 => ?_) (fun c1 => need_so ⟨rfl, trivial⟩ (fork_ok (fun c2 => ?_) (fun c2 => ?_)))))
  · have := hasI_le c1
    have h2 : a + 2 ≤ s.size := this
    refine need_so ⟨rfl, ⟨hs', by decide⟩, by omega, by omega⟩ ?_
    exact key ⟨0, ⟨⟨[]⟩⟩, 0⟩ _ (by unfold oneT; exact if_pos c1)
  · refine need_so ⟨rfl, hs', h0, by omega⟩ ?_
    exact key ⟨20, ⟨⟨[]⟩⟩, 0⟩ _ (by unfold oneT; rw [if_neg (by rw [show hasI s wSl a = false from c1]; simp), if_pos c2])
  · have e0 : oneT s a = if (eqI (byteAt s a.toNat) 34 || eqI (byteAt s a.toNat) 39) = true then (⟨quoK s a, quoX s a, 0⟩, quoE s a) else if (!leI (numI s a) 0) = true then (⟨meaK s a (numI s a), meaX s a (numI s a), meaN s a (numI s a)⟩, meaE s a (numI s a)) else hashT s a := by
      unfold oneT
      rw [if_neg (by rw [show hasI s wSl a = false from c1]; simp), if_neg (by rw [c2]; simp)]
    rw [e0] at key
    clear e0 c1 c2
    refine fork_ok (fun c3 => ?_) (fun c3 => need_so ⟨rfl, hs', h0, h1⟩ ?_)
    · simp only [Bool.not_eq_true'] at c3
      rw [c3] at key
      refine fork_ok (fun c4 => need_so ⟨rfl, hs', h0, h1⟩ ?_) (fun c4 => ?_)
      · exact key _ _ (by rw [c4])
      · rw [c4] at key
        refine need_so ⟨rfl, hs', h0, by omega⟩ (fork_ok (fun c5 => ?_) (fun c5 => ?_))
        · have c5' := c5
          simp only [Bool.not_eq_true', leI_f] at c5'
          refine need_so ⟨rfl, hs', h0, by omega, b4⟩ ?_
          exact key _ _ (by rw [c5])
        · rw [c5] at key
          have key : ∀ (t : TokV) (e : Int), hashT s a = (t, e) → (Tr.leaf (tokV t.kind t.text t.n e)).Ok (fun v => v = tokV (oneK s a) (oneX s a) (oneN s a) (oneE s a)) := fun t e h => key t e (by rw [← h]; rfl)
          unfold hashT at key
          refine need_so ⟨rfl, hs', by omega, by omega⟩ (fork_ok (fun g1 => fork_ok (fun g2 => need_t (by simp only [Bool.and_eq_true, leI_t]; omega) ?_) (fun g2 => ?_)) (fun g1 => ?_))
          · rw [g1, g2] at key
            exact key ⟨4, s.extract (a + 1).toNat (a + 1 + spanI goesB s (a + 1)).toNat, 0⟩ _ rfl
          · rw [g1, g2] at key
            have key : ∀ (t : TokV) (e : Int), atT s a = (t, e) → (Tr.leaf (tokV t.kind t.text t.n e)).Ok (fun v => v = tokV (oneK s a) (oneX s a) (oneN s a) (oneE s a)) := fun t e h => key t e h
            unfold atT at key
            refine fork_ok (fun f1 => need_so ⟨rfl, hs', by omega, by omega⟩ (fork_ok (fun f2 => need_so ⟨rfl, hs', by omega, by omega⟩ (need_t (by simp only [Bool.and_eq_true, leI_t]; omega) ?_)) (fun f2 => ?_))) (fun f1 => ?_)
            · rw [f1, f2] at key
              exact key ⟨3, s.extract (a + 1).toNat (a + 1 + spanI goesB s (a + 1)).toNat, 0⟩ _ rfl
            · rw [f1, f2] at key
              have key : ∀ (t : TokV) (e : Int), nameT s a = (t, e) → (Tr.leaf (tokV t.kind t.text t.n e)).Ok (fun v => v = tokV (oneK s a) (oneX s a) (oneN s a) (oneE s a)) := fun t e h => key t e h
              unfold nameT at key
              refine need_so ⟨rfl, hs', h0, by omega⟩ (fork_ok (fun d1 => need_so ⟨rfl, hs', h0, by omega⟩ (need_so ⟨rfl, ⟨hs', by decide⟩, by omega, by omega⟩ (fork_ok (fun d2 => need_t (by simp only [Bool.and_eq_true, leI_t]; omega) ?_) (fun d2 => need_t (by simp only [Bool.and_eq_true, leI_t]; omega) ?_)))) (fun d1 => need_so ⟨rfl, trivial⟩ (fork_ok (fun d2 => ?_) (fun d2 => need_t (by simp only [Bool.and_eq_true, leI_t]; omega) ?_))))
              · rw [d1, show hasI s wOp (a + spanI goesB s a) = true from d2] at key
                exact key ⟨2, s.extract a.toNat (a + spanI goesB s a).toNat, 0⟩ _ rfl
              · rw [d1, show hasI s wOp (a + spanI goesB s a) = false from d2] at key
                exact key ⟨1, s.extract a.toNat (a + spanI goesB s a).toNat, 0⟩ _ rfl
              · rw [d1, d2] at key
                exact key ⟨sgnI (byteAt s a.toNat), ⟨⟨[]⟩⟩, 0⟩ _ rfl
              · rw [d1, d2] at key
                exact key ⟨19, s.extract a.toNat (a + 1).toNat, 0⟩ _ rfl
            · rw [f1] at key
              have key : ∀ (t : TokV) (e : Int), nameT s a = (t, e) → (Tr.leaf (tokV t.kind t.text t.n e)).Ok (fun v => v = tokV (oneK s a) (oneX s a) (oneN s a) (oneE s a)) := fun t e h => key t e h
              unfold nameT at key
              refine need_so ⟨rfl, hs', h0, by omega⟩ (fork_ok (fun d1 => need_so ⟨rfl, hs', h0, by omega⟩ (need_so ⟨rfl, ⟨hs', by decide⟩, by omega, by omega⟩ (fork_ok (fun d2 => need_t (by simp only [Bool.and_eq_true, leI_t]; omega) ?_) (fun d2 => need_t (by simp only [Bool.and_eq_true, leI_t]; omega) ?_)))) (fun d1 => need_so ⟨rfl, trivial⟩ (fork_ok (fun d2 => ?_) (fun d2 => need_t (by simp only [Bool.and_eq_true, leI_t]; omega) ?_))))
              · rw [d1, show hasI s wOp (a + spanI goesB s a) = true from d2] at key
                exact key ⟨2, s.extract a.toNat (a + spanI goesB s a).toNat, 0⟩ _ rfl
              · rw [d1, show hasI s wOp (a + spanI goesB s a) = false from d2] at key
                exact key ⟨1, s.extract a.toNat (a + spanI goesB s a).toNat, 0⟩ _ rfl
              · rw [d1, d2] at key
                exact key ⟨sgnI (byteAt s a.toNat), ⟨⟨[]⟩⟩, 0⟩ _ rfl
              · rw [d1, d2] at key
                exact key ⟨19, s.extract a.toNat (a + 1).toNat, 0⟩ _ rfl
          · rw [g1] at key
            have key : ∀ (t : TokV) (e : Int), atT s a = (t, e) → (Tr.leaf (tokV t.kind t.text t.n e)).Ok (fun v => v = tokV (oneK s a) (oneX s a) (oneN s a) (oneE s a)) := fun t e h => key t e h
            unfold atT at key
            refine fork_ok (fun f1 => need_so ⟨rfl, hs', by omega, by omega⟩ (fork_ok (fun f2 => need_so ⟨rfl, hs', by omega, by omega⟩ (need_t (by simp only [Bool.and_eq_true, leI_t]; omega) ?_)) (fun f2 => ?_))) (fun f1 => ?_)
            · rw [f1, f2] at key
              exact key ⟨3, s.extract (a + 1).toNat (a + 1 + spanI goesB s (a + 1)).toNat, 0⟩ _ rfl
            · rw [f1, f2] at key
              have key : ∀ (t : TokV) (e : Int), nameT s a = (t, e) → (Tr.leaf (tokV t.kind t.text t.n e)).Ok (fun v => v = tokV (oneK s a) (oneX s a) (oneN s a) (oneE s a)) := fun t e h => key t e h
              unfold nameT at key
              refine need_so ⟨rfl, hs', h0, by omega⟩ (fork_ok (fun d1 => need_so ⟨rfl, hs', h0, by omega⟩ (need_so ⟨rfl, ⟨hs', by decide⟩, by omega, by omega⟩ (fork_ok (fun d2 => need_t (by simp only [Bool.and_eq_true, leI_t]; omega) ?_) (fun d2 => need_t (by simp only [Bool.and_eq_true, leI_t]; omega) ?_)))) (fun d1 => need_so ⟨rfl, trivial⟩ (fork_ok (fun d2 => ?_) (fun d2 => need_t (by simp only [Bool.and_eq_true, leI_t]; omega) ?_))))
              · rw [d1, show hasI s wOp (a + spanI goesB s a) = true from d2] at key
                exact key ⟨2, s.extract a.toNat (a + spanI goesB s a).toNat, 0⟩ _ rfl
              · rw [d1, show hasI s wOp (a + spanI goesB s a) = false from d2] at key
                exact key ⟨1, s.extract a.toNat (a + spanI goesB s a).toNat, 0⟩ _ rfl
              · rw [d1, d2] at key
                exact key ⟨sgnI (byteAt s a.toNat), ⟨⟨[]⟩⟩, 0⟩ _ rfl
              · rw [d1, d2] at key
                exact key ⟨19, s.extract a.toNat (a + 1).toNat, 0⟩ _ rfl
            · rw [f1] at key
              have key : ∀ (t : TokV) (e : Int), nameT s a = (t, e) → (Tr.leaf (tokV t.kind t.text t.n e)).Ok (fun v => v = tokV (oneK s a) (oneX s a) (oneN s a) (oneE s a)) := fun t e h => key t e h
              unfold nameT at key
              refine need_so ⟨rfl, hs', h0, by omega⟩ (fork_ok (fun d1 => need_so ⟨rfl, hs', h0, by omega⟩ (need_so ⟨rfl, ⟨hs', by decide⟩, by omega, by omega⟩ (fork_ok (fun d2 => need_t (by simp only [Bool.and_eq_true, leI_t]; omega) ?_) (fun d2 => need_t (by simp only [Bool.and_eq_true, leI_t]; omega) ?_)))) (fun d1 => need_so ⟨rfl, trivial⟩ (fork_ok (fun d2 => ?_) (fun d2 => need_t (by simp only [Bool.and_eq_true, leI_t]; omega) ?_))))
              · rw [d1, show hasI s wOp (a + spanI goesB s a) = true from d2] at key
                exact key ⟨2, s.extract a.toNat (a + spanI goesB s a).toNat, 0⟩ _ rfl
              · rw [d1, show hasI s wOp (a + spanI goesB s a) = false from d2] at key
                exact key ⟨1, s.extract a.toNat (a + spanI goesB s a).toNat, 0⟩ _ rfl
              · rw [d1, d2] at key
                exact key ⟨sgnI (byteAt s a.toNat), ⟨⟨[]⟩⟩, 0⟩ _ rfl
              · rw [d1, d2] at key
                exact key ⟨19, s.extract a.toNat (a + 1).toNat, 0⟩ _ rfl
    · simp only [Bool.not_eq_false'] at c3
      exact key _ _ (by rw [c3])
end Go.Proofs.Ytconlneohilnmaa
namespace Go.Proofs.Ytconlneohilnmaa
open Go Go.RowKit Pl Sy
theorem Sy.room_okB {n m : Nat} (h : limB (n + m)) : (Bool.true && ((Nat.ble n n) && ((Nat.ble ((n + m) * 32) 140737488355328) && (Nat.ble (n + m) 17592186044416)))) = true := by
  unfold limB at h
  simp only [Bool.and_eq_true, Nat.ble_eq, true_and]
  omega
theorem bhP_at (s t : ByteArray) : ∀ (n : Nat) (a : Int), s.size - a.toNat ≤ n → 0 ≤ a → bhP s t a < s.size → hasI s t (bhP s t a) = true
  | 0, a, h, h0, hl => by
    rw [bhP_step s t a h0] at hl ⊢
    split at hl
    · rename_i q; omega
    · omega
  | n + 1, a, h, h0, hl => by
    rw [bhP_step s t a h0] at hl ⊢
    split at hl
    · rename_i q
      rw [if_pos q]
      exact bhP_at s t n (a + 1) (by omega) (by omega) hl
    · rename_i q
      rw [if_neg q]
      cases hb : hasI s t a with
      | true => rfl
      | false => exact absurd ⟨by omega, hb⟩ q
theorem bhI_le (s t : ByteArray) (a : Int) (h0 : 0 ≤ a) (h : a ≤ s.size) : a ≤ bhI s t a ∧ bhI s t a ≤ s.size := by
  have h1 := bhP_le s t a h0 h
  unfold bhI
  split
  · omega
  · rename_i q
    rw [Bool.not_eq_true, leI_f] at q
    have := hasI_le (bhP_at s t _ a (Nat.le_refl _) h0 (by omega))
    omega
theorem spanI_pos (g : Int → Bool) (s : ByteArray) (a : Int) (h0 : 0 ≤ a) (h : a < s.size) (hg : g (byteAt s a.toNat) = true) : 1 ≤ spanI g s a := by
  unfold spanI
  rw [upI_step g s a h0, if_pos ⟨h, hg⟩]
  have := upI_le g s (a + 1) (by omega) (by omega)
  omega
theorem starts_lt {s : ByteArray} {a : Int} (h : startsI s a = true) : a < s.size ∧ goesB (byteAt s a.toNat) = true := by
  unfold startsI at h
  rw [Bool.and_eq_true, Bool.not_eq_true', leI_f] at h
  refine ⟨by omega, ?_⟩
  by_cases e : eqI (byteAt s a.toNat) 45 = true
  · rw [eqI_t] at e
    rw [e]; rfl
  · rw [if_neg e] at h
    unfold goesB
    rw [h.2]; rfl
theorem one_le (s : ByteArray) (a : Int) (h0 : 0 ≤ a) (h1 : a < s.size) : a < oneE s a ∧ oneE s a ≤ s.size := by
  have b1 := spanI_bd goesB s a h0
  have b2 := spanI_bd goesB s (a + 1) (by omega)
  have b3 := spanI_bd blankB s a h0
  have b4 := num_le s a h0 (by omega)
  unfold oneE oneT
  split
  · rename_i c
    have := hasI_le c
    have h2 : a + 2 ≤ s.size := this
    have := bhI_le s wLs (a + 2) (by omega) h2
    show a < bhI s wLs (a + 2) ∧ bhI s wLs (a + 2) ≤ s.size
    omega
  · split
    · rename_i _ c
      have := spanI_pos blankB s a h0 h1 c
      show a < a + spanI blankB s a ∧ a + spanI blankB s a ≤ s.size
      omega
    · split
      · show a < quoE s a ∧ quoE s a ≤ s.size
        have hz := upI_le (quoB (byteAt s a.toNat)) s (a + 1) (by omega) (by omega)
        rw [show upI (quoB (byteAt s a.toNat)) s (a + 1) = quoZ s a from rfl] at hz
        unfold quoE
        split
        · omega
        · rename_i q
          rw [Bool.not_eq_true, eqI_f] at q
          split <;> omega
      · split
        · rename_i c
          rw [Bool.not_eq_true', leI_f] at c
          show a < meaE s a (numI s a) ∧ meaE s a (numI s a) ≤ s.size
          have b5 := spanI_bd goesB s (a + numI s a) (by omega)
          unfold meaE pctB
          split
          · rename_i q
            rw [Bool.and_eq_true, Bool.not_eq_true', leI_f] at q
            omega
          · split <;> omega
        · unfold hashT
          split
          · show a < a + 1 + spanI goesB s (a + 1) ∧ a + 1 + spanI goesB s (a + 1) ≤ s.size
            omega
          · unfold atT
            split
            · show a < a + 1 + spanI goesB s (a + 1) ∧ a + 1 + spanI goesB s (a + 1) ≤ s.size
              omega
            · unfold nameT
              split
              · rename_i c
                have := spanI_pos goesB s a h0 h1 (starts_lt c).2
                split
                · rename_i q
                  have := hasI_le q
                  have h2 : a + spanI goesB s a + 1 ≤ s.size := this
                  show a < a + spanI goesB s a + 1 ∧ a + spanI goesB s a + 1 ≤ s.size
                  omega
                · show a < a + spanI goesB s a ∧ a + spanI goesB s a ≤ s.size
                  omega
              · split
                · show a < a + 1 ∧ a + 1 ≤ (s.size : Int)
                  omega
                · show a < a + 1 ∧ a + 1 ≤ (s.size : Int)
                  omega
theorem one_size (s : ByteArray) (a : Int) : (oneX s a).size ≤ s.size := by
  have hx : ∀ i j, (s.extract i j).size ≤ s.size := fun i j => by rw [ByteArray.size_extract]; omega
  have h0 : (⟨⟨[]⟩⟩ : ByteArray).size ≤ s.size := Nat.zero_le _
  unfold oneX oneT hashT atT nameT
  repeat' split
  all_goals first | exact h0 | exact hx _ _ | skip
  · show (meaX s a (numI s a)).size ≤ s.size
    unfold meaX
    repeat' split
    all_goals first | exact h0 | exact hx _ _
noncomputable abbrev Sy.cOne (s : ByteArray) : Con Try.prog := atX 30 (fun args => match args with | [_, .lit (.int _ a)] => some a | _ => none) (fun a => [.lit (.string s), int a]) (fun a => tokV (oneK s a) (oneX s a) (oneN s a) (oneE s a)) (fun a => limB s.size ∧ 0 ≤ a ∧ a < s.size) fun a h => ⟨⟨⟨trivial, trivial, trivial⟩, ⟨⟨trivial, trivial, trivial, trivial⟩, trivial, trivial⟩⟩, one_t s h.1 a h.2.1 h.2.2⟩
noncomputable def cutN (s : ByteArray) : Nat → Int → List TokV
  | 0, _ => []
  | n + 1, a => if a < s.size then (if leI (oneK s a) 0 = true then [] else [⟨oneK s a, oneX s a, oneN s a⟩]) ++ cutN s n (oneE s a) else []
noncomputable def cutT (s : ByteArray) : List TokV := cutN s s.size 0
theorem cutN_len (s : ByteArray) : ∀ (n : Nat) (a : Int), (cutN s n a).length ≤ n
  | 0, _ => Nat.le_refl _
  | n + 1, a => by
    have := cutN_len s n (oneE s a)
    unfold cutN
    split
    · rw [List.length_append]
      split
      · simp only [List.length_nil]; omega
      · simp only [List.length_cons, List.length_nil]; omega
    · exact Nat.zero_le _
theorem cutN_size (s : ByteArray) : ∀ (n : Nat) (a : Int) (t : TokV), t ∈ cutN s n a → t.text.size ≤ s.size
  | 0, _, _, h => by cases h
  | n + 1, a, t, h => by
    unfold cutN at h
    split at h
    · rcases List.mem_append.1 h with h | h
      · split at h
        · cases h
        · simp only [List.mem_cons, List.not_mem_nil, or_false] at h
          subst h
          exact one_size s a
      · exact cutN_size s n _ t h
    · cases h
theorem cutT_len (s : ByteArray) : (cutT s).length ≤ s.size := cutN_len s _ _
theorem cutT_ok {s : ByteArray} (h : limB s.size) : ToksOk (cutT s) := fun t ht => by
  have := cutN_size s _ _ t ht
  have hm : 100000000 ≤ maxLen := by decide
  unfold limB at h
  omega
namespace Sy
abbrev cuF (s : ByteArray) (b n : Nat) (a : Int) : Fr := [some ((@AV.lit (@Value.string s))), none, none, some (.own b n 3), some (int a), none, none, none, none, none, none, none, none, none, none, none, none, none, none, none, none, none, none, none, none, none]
end Sy
theorem Sy.cuF_ren (s : ByteArray) (b b' n n' : Nat) (a a' : Int) (σ : Nat → Option Nat) (h : a = a') (hn : n = n') (h1 : σ b' = some b) : RenF σ (cuF s b n a) (cuF s b' n' a') := by
  subst h hn
  simp only [RenF, and_true]
  exact ⟨rfl, ⟨h1, rfl, rfl⟩, rfl⟩
theorem Sy.cu_loop (s : ByteArray) (hs : limB s.size) : ∀ (n : Nat) (a : Int) (L : List TokV), s.size - a.toNat ≤ n → 0 ≤ a → a ≤ s.size → limB (L.length + n) →
    LoopToT 0 Try.prog (theBody Try.prog 13 4) (n + 1) (cuF s 0 L.length a) (qM L) fun ex F2 M2 => ex = .exit 0 ∧ F2 = cuF s 0 (L ++ cutN s n a).length s.size ∧ M2 = qM (L ++ cutN s n a) := by
  intro n
  induction n with
  | zero =>
    intro a L h1 h2 h3 h4
    refine roundT plain mixed 0 [cOne s] [] 400 30 13 4 Try.func13 rfl (by kernel_rfl) [true, false, false, true, true, false, false, false, false, false, false, false, false, false, false, false, false, false, false, false, false, false, false, false, false, false] (.br (.yes (.br (.yes .done) .done)) .done) (.fork (!(leI (((@ByteArray.size s) : Nat) : Int) a)) (.need (@isSo (@And ((@HAppend.hAppend _ _ _ _ (@HAppend.hAppend _ _ _ _ [] [(@AV.lit (@Value.string s)), (int a)]) []) = [(@AV.lit (@Value.string s)), (int a)]) (@And ((@ByteArray.size s) ≤ 100000000) (@And ((0 : Int) ≤ a) (a < (((@ByteArray.size s) : Nat) : Int)))))) (.fork (!(leI (@oneK s a) (0 : Int))) (.need (Bool.true && ((@Nat.ble (L).length (L).length) && ((@Nat.ble (((L).length + 1) * 32) 140737488355328) && (@Nat.ble ((L).length + 1) 17592186044416)))) (.leaf (Ex.norm, ([(some (@AV.lit (@Value.string s))), none, none, (some (@AV.own ((1 + 1) + 1) ((L).length + 1) 3)), (some (int (@oneE s a))), none, none, none, none, none, none, none, none, none, none, none, none, none, none, none, none, none, none, none, none, none], (@Mem.mk (((1 + 1) + 1) + 1) ((0 + 1) + 1) ((some (@Blk.mk [] 39 (some (@Rw.mk ((L).length + 1) 3 (@appc (L).length (@kcell L) (fun x826560 => (fun x510008 => (@getA (@List.take _ 3 ((int (@oneK s a)) :: (@AV.lit (@Value.string (@oneX s a))) :: (int (@oneN s a)) :: (@List.drop _ (0 + ([(int (@oneK s a)), (@AV.lit (@Value.string (@oneX s a))), (int (@oneN s a))]).length) (@List.map _ _ AV.lit (@Array.toList _ (@Array.mk _ [(@List.get _ (@Array.toList _ (@Array.mk _ [(@Value.int IntKind.i64 (0 : Int)), (@Value.string (@ByteArray.mk (@Array.mk _ []))), (@Value.int IntKind.i64 (0 : Int))])) (@Fin.mk _ 0 (@Nat.le_of_ble_eq_true _ _ (@Eq.refl _ true)))), (@List.get _ (@Array.toList _ (@Array.mk _ [(@Value.int IntKind.i64 (0 : Int)), (@Value.string (@ByteArray.mk (@Array.mk _ []))), (@Value.int IntKind.i64 (0 : Int))])) (@Fin.mk _ 1 (@Nat.le_of_ble_eq_true _ _ (@Eq.refl _ true)))), (@List.get _ (@Array.toList _ (@Array.mk _ [(@Value.int IntKind.i64 (0 : Int)), (@Value.string (@ByteArray.mk (@Array.mk _ []))), (@Value.int IntKind.i64 (0 : Int))])) (@Fin.mk _ 2 (@Nat.le_of_ble_eq_true _ _ (@Eq.refl _ true))))])))))) ((x826560 * 3) + x510008))))))))) :: ((some (@Blk.mk ((int (@oneK s a)) :: (@AV.lit (@Value.string (@oneX s a))) :: (int (@oneN s a)) :: (@List.drop _ (0 + ([(int (@oneK s a)), (@AV.lit (@Value.string (@oneX s a))), (int (@oneN s a))]).length) (@List.map _ _ AV.lit (@Array.toList _ (@Array.mk _ [(@List.get _ (@Array.toList _ (@Array.mk _ [(@Value.int IntKind.i64 (0 : Int)), (@Value.string (@ByteArray.mk (@Array.mk _ []))), (@Value.int IntKind.i64 (0 : Int))])) (@Fin.mk _ 0 (@Nat.le_of_ble_eq_true _ _ (@Eq.refl _ true)))), (@List.get _ (@Array.toList _ (@Array.mk _ [(@Value.int IntKind.i64 (0 : Int)), (@Value.string (@ByteArray.mk (@Array.mk _ []))), (@Value.int IntKind.i64 (0 : Int))])) (@Fin.mk _ 1 (@Nat.le_of_ble_eq_true _ _ (@Eq.refl _ true)))), (@List.get _ (@Array.toList _ (@Array.mk _ [(@Value.int IntKind.i64 (0 : Int)), (@Value.string (@ByteArray.mk (@Array.mk _ []))), (@Value.int IntKind.i64 (0 : Int))])) (@Fin.mk _ 2 (@Nat.le_of_ble_eq_true _ _ (@Eq.refl _ true))))]))))) 39 none)) :: [(some (@Blk.mk ((int (@oneK s a)) :: (@AV.lit (@Value.string (@oneX s a))) :: (int (@oneN s a)) :: (@List.drop _ (0 + ([(int (@oneK s a)), (@AV.lit (@Value.string (@oneX s a))), (int (@oneN s a))]).length) [(int (0 : Int)), (@AV.lit (@Value.string (@ByteArray.mk (@Array.mk _ [])))), (int (0 : Int))])) 39 none)), none]))))))) (.leaf (Ex.norm, ([(some (@AV.lit (@Value.string s))), none, none, (some (@AV.own 0 (L).length 3)), (some (int (@oneE s a))), none, none, none, none, none, none, none, none, none, none, none, none, none, none, none, none, none, none, none, none, none], (@Mem.mk (1 + 1) (0 + 1) [(some (@Blk.mk ((int (@oneK s a)) :: (@AV.lit (@Value.string (@oneX s a))) :: (int (@oneN s a)) :: (@List.drop _ (0 + ([(int (@oneK s a)), (@AV.lit (@Value.string (@oneX s a))), (int (@oneN s a))]).length) [(int (0 : Int)), (@AV.lit (@Value.string (@ByteArray.mk (@Array.mk _ [])))), (int (0 : Int))])) 39 none)), (some (@Blk.mk [] 39 (some (@Rw.mk (L).length 3 (@kcell L)))))])))))) (.leaf ((@Ex.exit 0), ([(some (@AV.lit (@Value.string s))), none, none, (some (@AV.own 0 (L).length 3)), (some (int a)), none, none, none, none, none, none, none, none, none, none, none, none, none, none, none, none, none, none, none, none, none], (@Mem.mk 1 0 [(some (@Blk.mk [] 39 (some (@Rw.mk (L).length 3 (@kcell L)))))]))))) (by kernel_rfl) ?_
    refine fork_ok (fun q => ?_) (fun q => ?_)
    · simp only [Bool.not_eq_true', Bool.not_eq_false', leI_t, leI_f, eqI_t, eqI_f, inR_t, inR_f, isSo_t, isSo_f] at q
      omega
    · simp only [Bool.not_eq_true', Bool.not_eq_false', leI_t, leI_f, eqI_t, eqI_f, inR_t, inR_f, isSo_t, isSo_f] at q
      rw [show L ++ cutN s 0 a = L by unfold cutN; simp]
      exact ⟨rfl, by rw [show a = s.size by omega], rfl⟩
  | succ n ih =>
    intro a L h1 h2 h3 h4
    unfold limB at h4
    refine roundT plain mixed 0 [cOne s] [] 400 30 13 4 Try.func13 rfl (by kernel_rfl) [true, false, false, true, true, false, false, false, false, false, false, false, false, false, false, false, false, false, false, false, false, false, false, false, false, false] (.br (.yes (.br (.yes .done) .done)) .done) (.fork (!(leI (((@ByteArray.size s) : Nat) : Int) a)) (.need (@isSo (@And ((@HAppend.hAppend _ _ _ _ (@HAppend.hAppend _ _ _ _ [] [(@AV.lit (@Value.string s)), (int a)]) []) = [(@AV.lit (@Value.string s)), (int a)]) (@And ((@ByteArray.size s) ≤ 100000000) (@And ((0 : Int) ≤ a) (a < (((@ByteArray.size s) : Nat) : Int)))))) (.fork (!(leI (@oneK s a) (0 : Int))) (.need (Bool.true && ((@Nat.ble (L).length (L).length) && ((@Nat.ble (((L).length + 1) * 32) 140737488355328) && (@Nat.ble ((L).length + 1) 17592186044416)))) (.leaf (Ex.norm, ([(some (@AV.lit (@Value.string s))), none, none, (some (@AV.own ((1 + 1) + 1) ((L).length + 1) 3)), (some (int (@oneE s a))), none, none, none, none, none, none, none, none, none, none, none, none, none, none, none, none, none, none, none, none, none], (@Mem.mk (((1 + 1) + 1) + 1) ((0 + 1) + 1) ((some (@Blk.mk [] 39 (some (@Rw.mk ((L).length + 1) 3 (@appc (L).length (@kcell L) (fun x826560 => (fun x510008 => (@getA (@List.take _ 3 ((int (@oneK s a)) :: (@AV.lit (@Value.string (@oneX s a))) :: (int (@oneN s a)) :: (@List.drop _ (0 + ([(int (@oneK s a)), (@AV.lit (@Value.string (@oneX s a))), (int (@oneN s a))]).length) (@List.map _ _ AV.lit (@Array.toList _ (@Array.mk _ [(@List.get _ (@Array.toList _ (@Array.mk _ [(@Value.int IntKind.i64 (0 : Int)), (@Value.string (@ByteArray.mk (@Array.mk _ []))), (@Value.int IntKind.i64 (0 : Int))])) (@Fin.mk _ 0 (@Nat.le_of_ble_eq_true _ _ (@Eq.refl _ true)))), (@List.get _ (@Array.toList _ (@Array.mk _ [(@Value.int IntKind.i64 (0 : Int)), (@Value.string (@ByteArray.mk (@Array.mk _ []))), (@Value.int IntKind.i64 (0 : Int))])) (@Fin.mk _ 1 (@Nat.le_of_ble_eq_true _ _ (@Eq.refl _ true)))), (@List.get _ (@Array.toList _ (@Array.mk _ [(@Value.int IntKind.i64 (0 : Int)), (@Value.string (@ByteArray.mk (@Array.mk _ []))), (@Value.int IntKind.i64 (0 : Int))])) (@Fin.mk _ 2 (@Nat.le_of_ble_eq_true _ _ (@Eq.refl _ true))))])))))) ((x826560 * 3) + x510008))))))))) :: ((some (@Blk.mk ((int (@oneK s a)) :: (@AV.lit (@Value.string (@oneX s a))) :: (int (@oneN s a)) :: (@List.drop _ (0 + ([(int (@oneK s a)), (@AV.lit (@Value.string (@oneX s a))), (int (@oneN s a))]).length) (@List.map _ _ AV.lit (@Array.toList _ (@Array.mk _ [(@List.get _ (@Array.toList _ (@Array.mk _ [(@Value.int IntKind.i64 (0 : Int)), (@Value.string (@ByteArray.mk (@Array.mk _ []))), (@Value.int IntKind.i64 (0 : Int))])) (@Fin.mk _ 0 (@Nat.le_of_ble_eq_true _ _ (@Eq.refl _ true)))), (@List.get _ (@Array.toList _ (@Array.mk _ [(@Value.int IntKind.i64 (0 : Int)), (@Value.string (@ByteArray.mk (@Array.mk _ []))), (@Value.int IntKind.i64 (0 : Int))])) (@Fin.mk _ 1 (@Nat.le_of_ble_eq_true _ _ (@Eq.refl _ true)))), (@List.get _ (@Array.toList _ (@Array.mk _ [(@Value.int IntKind.i64 (0 : Int)), (@Value.string (@ByteArray.mk (@Array.mk _ []))), (@Value.int IntKind.i64 (0 : Int))])) (@Fin.mk _ 2 (@Nat.le_of_ble_eq_true _ _ (@Eq.refl _ true))))]))))) 39 none)) :: [(some (@Blk.mk ((int (@oneK s a)) :: (@AV.lit (@Value.string (@oneX s a))) :: (int (@oneN s a)) :: (@List.drop _ (0 + ([(int (@oneK s a)), (@AV.lit (@Value.string (@oneX s a))), (int (@oneN s a))]).length) [(int (0 : Int)), (@AV.lit (@Value.string (@ByteArray.mk (@Array.mk _ [])))), (int (0 : Int))])) 39 none)), none]))))))) (.leaf (Ex.norm, ([(some (@AV.lit (@Value.string s))), none, none, (some (@AV.own 0 (L).length 3)), (some (int (@oneE s a))), none, none, none, none, none, none, none, none, none, none, none, none, none, none, none, none, none, none, none, none, none], (@Mem.mk (1 + 1) (0 + 1) [(some (@Blk.mk ((int (@oneK s a)) :: (@AV.lit (@Value.string (@oneX s a))) :: (int (@oneN s a)) :: (@List.drop _ (0 + ([(int (@oneK s a)), (@AV.lit (@Value.string (@oneX s a))), (int (@oneN s a))]).length) [(int (0 : Int)), (@AV.lit (@Value.string (@ByteArray.mk (@Array.mk _ [])))), (int (0 : Int))])) 39 none)), (some (@Blk.mk [] 39 (some (@Rw.mk (L).length 3 (@kcell L)))))])))))) (.leaf ((@Ex.exit 0), ([(some (@AV.lit (@Value.string s))), none, none, (some (@AV.own 0 (L).length 3)), (some (int a)), none, none, none, none, none, none, none, none, none, none, none, none, none, none, none, none, none, none, none, none, none], (@Mem.mk 1 0 [(some (@Blk.mk [] 39 (some (@Rw.mk (L).length 3 (@kcell L)))))]))))) (by kernel_rfl) ?_
    refine fork_ok (fun q => ?_) (fun q => ?_)
    · simp only [Bool.not_eq_true', Bool.not_eq_false', leI_t, leI_f, eqI_t, eqI_f, inR_t, inR_f, isSo_t, isSo_f] at q
      have hlt : a < s.size := by omega
      have ho := one_le s a h2 hlt
      refine need_so ⟨rfl, hs, h2, hlt⟩ (fork_ok (fun u => ?_) (fun u => ?_))
      · have e : cutN s (n + 1) a = [⟨oneK s a, oneX s a, oneN s a⟩] ++ cutN s n (oneE s a) := by
          rw [Bool.not_eq_true'] at u
          show (if _ then _ else _) = _
          rw [if_pos hlt, u]; rfl
        refine need_t (room_okB (by unfold limB; omega)) ?_
        have key := ih (oneE s a) (L ++ [⟨oneK s a, oneX s a, oneN s a⟩]) (by omega) (by omega) (by omega) (by unfold limB; simp only [List.length_append, List.length_cons, List.length_nil]; omega)
        rw [List.append_assoc, ← e] at key
        exact LoopToT.ren [3] rfl (cuF_ren s 3 0 _ _ _ _ _ rfl (by simp) rfl) (qM_ren (b := 3) rfl rfl (CellIs.app3 (X := [⟨oneK s a, oneX s a, oneN s a⟩]) (CellIs.kc L) rfl (fun i j hi hj => by
        rcases i with _ | i
        · rcases j with _ | _ | _ | j
          · exact rfl
          · exact rfl
          · exact rfl
          · omega
        · omega))) key
      · have e : cutN s (n + 1) a = cutN s n (oneE s a) := by
          rw [Bool.not_eq_false'] at u
          show (if _ then _ else _) = _
          rw [if_pos hlt, u]; rfl
        have key := ih (oneE s a) L (by omega) (by omega) (by omega) (by unfold limB; omega)
        rw [← e] at key
        exact LoopToT.ren [0] rfl (cuF_ren s 0 0 _ _ _ _ _ rfl rfl rfl) (qM_ren (b := 0) rfl rfl (CellIs.kc L)) key
    · simp only [Bool.not_eq_true', Bool.not_eq_false', leI_t, leI_f, eqI_t, eqI_f, inR_t, inR_f, isSo_t, isSo_f] at q
      rw [show L ++ cutN s (n + 1) a = L by unfold cutN; rw [if_neg (by omega)]; simp]
      exact ⟨rfl, by rw [show a = s.size by omega], rfl⟩
namespace Sy
abbrev cuG (s : ByteArray) : Fr := [some ((@AV.lit (@Value.string s))), none, none, some ((@AV.lit (@Value.slice none 0 0))), some ((int (0 : Int))), none, none, none, none, none, none, none, none, none, none, none, none, none, none, none, none, none, none, none, none, none]
noncomputable abbrev lpCu (s : ByteArray) : Lp Try.prog where
  f := 13
  key := 4
  S := formS (fun F M => some M.stamp) (fun _ => cuG s) (fun t => ⟨0, t, []⟩) (fun _ => limB s.size) (fun t => .leaf (.exit 0, cuF s 1 (0 + (cutT s).length) s.size, rRes ⟨1, t, [some (rowB 0 (kcell []))]⟩ 0 0 (kcell []) (cutT s))) [true, false, false, true, true, false, false, false, false, false, false, false, false, false, false, false, false, false, false, false, false, false, false, false, false, false]
  one := by kernel_rfl
  ok := formS_ok fun t h1 => by
    refine ⟨s.size + 1, ?_⟩
    have key := cu_loop s h1 s.size 0 [] (by omega) (Int.le_refl _) (by omega) (by unfold limB at *; simp only [List.length_nil]; omega)
    have k2 : LoopTo Try.prog (theBody Try.prog 13 4) (s.size + 1) (cuF s 0 0 0) ⟨1, t, [some (rowB 0 (kcell []))]⟩ _ := loopQ_frame key (b := 0) (F' := cuF s 1 (0 + (cutT s).length) s.size) (cuF_ren s 0 0 _ _ _ _ _ rfl rfl rfl) (fun τ t0 => cuF_ren s 0 1 _ _ _ _ τ rfl (by simp [cutT]) t0) rfl (CellIs.kc [])
    have k3 : LoopTo Try.prog (theBody Try.prog 13 4) (s.size + 1) (cuG s) ⟨0, t, []⟩ _ := LoopToT.to (T := 0) (LoopToT.nil 3 39 3 (kcell []) (Nat.le_refl _) rfl (k2.toT 0)) (Nat.le_refl _)
    refine k3.mono fun ex F M hg => ?_
    obtain ⟨rfl, rfl, hM⟩ := hg
    rw [hM]; rfl
end Sy
theorem Sy.cut_t (s : ByteArray) (h : limB s.size) : CallTo Try.prog 13 [.lit (.string s)] M0 fun v M' => OwnEnd v M' (cutT s) :=
  to (G := fun r => OwnEnd r.1 r.2 (cutT s)) [cOne s] [lpCu s] 400 30 .done (.need (@isSo (@And (((some (@AV.lit (@Value.string s))) :: [none, none, (some (@AV.lit (@Value.slice none 0 0))), (some (int (0 : Int))), none, none, none, none, none, none, none, none, none, none, none, none, none, none, none, none, none, none, none, none, none]) = [(some (@AV.lit (@Value.string s))), none, none, (some (@AV.lit (@Value.slice none 0 0))), (some (int (0 : Int))), none, none, none, none, none, none, none, none, none, none, none, none, none, none, none, none, none, none, none, none, none]) ((@Mem.mk 0 0 []) = (@Mem.mk 0 0 [])))) (.need (@isSo ((@ByteArray.size s) ≤ 100000000)) (.leaf ((@AV.own 1 (0 + ((@cutT s)).length) 3), (@Mem.mk 2 1 [(some (@Blk.mk [] 39 (some (@Rw.mk (0 + ((@cutT s)).length) 3 (@appc 0 (@kcell []) (@kcell (@cutT s))))))), none]))))) (by kernel_rfl) (need_so ⟨rfl, rfl⟩ (need_so h ⟨_, _, _, rfl, rfl, CellIs.cast (CellIs.app2 (CellIs.kc []) rfl) (by simp)⟩))
theorem Sy.cut_v (s : ByteArray) (h : limB s.size) : CallTo Try.prog 13 [.lit (.string s)] M0 fun v _ => v = kv (cutT s) :=
  CallTo.frz0 ((cut_t s h).mono fun v M' hv => OwnEnd.frz hv true) ⟨trivial, trivial⟩ (kv_free _)
end Go.Proofs.Ytconlneohilnmaa
namespace Go.Proofs.Ytconlneohilnmaa
open Go Go.RowKit Pl Sy
namespace Sy
abbrev stF (xs ys : List ByteArray) (k : Int) : Fr := (some ((@AV.view (xs).length 1 (fun x988362 => (fun x824286 => (@AV.lit ([(@Value.string (xs.getD x988362 (@ByteArray.mk (@Array.mk _ []))))].getD x824286 (@Value.tuple (@Array.mk _ [])))))))) :: some ((@AV.view (ys).length 1 (fun x152863 => (fun x35083 => (@AV.lit ([(@Value.string (ys.getD x152863 (@ByteArray.mk (@Array.mk _ []))))].getD x35083 (@Value.tuple (@Array.mk _ [])))))))) :: none :: none :: some ((boo false)) :: some (int k) :: (nn20 []))
end Sy
def diffS (xs ys : List ByteArray) (i : Nat) : Bool := !bytesEq (xs.getD i ⟨#[]⟩).data.toList (ys.getD i ⟨#[]⟩).data.toList
def eqT (x y : TestV) : Bool := bytesEq x.name.data.toList y.name.data.toList && (decide (x.equal = y.equal) && (bytesEq x.value.data.toList y.value.data.toList && true))
def diffT (xs ys : List TestV) (i : Nat) : Bool := !eqT (xs.getD i testNone) (ys.getD i testNone)
def sameS (xs ys : List ByteArray) : Bool := eqI xs.length ys.length && !anyN (diffS xs ys) xs.length
def sameT (xs ys : List TestV) : Bool := eqI xs.length ys.length && !anyN (diffT xs ys) xs.length
theorem Sy.st_scan (xs ys : List ByteArray) (hl : eqI xs.length ys.length = true) (hx : xs.length ≤ 17592186044416) : LoopTo Try.prog (theBody Try.prog 77 5) (xs.length + 1) (stF xs ys 0) M0 fun ex F' M' => M' = M0 ∧ ((0 ≤ idxN (diffS xs ys) xs.length ∧ ex = .ret ∧ F' = stF xs ys (idxN (diffS xs ys) xs.length)) ∨ (idxN (diffS xs ys) xs.length = -1 ∧ ex = .exit 0 ∧ F' = stF xs ys xs.length)) :=
  scanN xs.length (diffS xs ys) (fun k => stF xs ys k) (fun k => stF xs ys k) M0 fun k n G h0 h1 c1 c2 c3 => by
    refine roundL [] [] 400 30 77 5 Try.func77 rfl (by kernel_rfl) (true :: true :: false :: false :: true :: true :: (ff20 [])) (.br (.yes (.yes (.br .done .done))) .done) (let e1 := (@ByteArray.mk (@Array.mk _ [])); let e2 := (@Value.tuple (@Array.mk _ [])); let e3 := (some (@AV.view (xs).length 1 (fun y0 => (fun y1 => (@AV.lit ([(@Value.string (xs.getD y0 e1))].getD y1 e2)))))); let e4 := (some (@AV.view (ys).length 1 (fun y0 => (fun y1 => (@AV.lit ([(@Value.string (ys.getD y0 e1))].getD y1 e2)))))); (.fork (!(leI (((xs).length : Nat) : Int) k)) (.need (@inR k (xs).length) (.need (@inR k (ys).length) (.fork (!(@bytesEq (@Array.toList _ (@ByteArray.data (xs.getD (k).toNat e1))) (@Array.toList _ (@ByteArray.data (ys.getD (k).toNat e1))))) (.leaf (Ex.ret, ((e3 :: e4 :: none :: none :: (some (boo false)) :: (some (int k)) :: (nn20 [])), (@Mem.mk 0 0 [])))) (.leaf (Ex.norm, ((e3 :: e4 :: none :: none :: (some (boo false)) :: (some (int (w64 (k + (1 : Int))))) :: (nn20 [])), (@Mem.mk 0 0 []))))))) (.leaf ((@Ex.exit 0), ((e3 :: e4 :: none :: none :: (some (boo false)) :: (some (int k)) :: (nn20 [])), (@Mem.mk 0 0 [])))))) (by kernel_rfl) ?_
    rw [eqI_t] at hl
    have hm : xs.length ≤ 17592186044416 := hx
    refine fork_ok (fun h => ?_) (fun h => ?_)
    · simp only [Bool.not_eq_true', Bool.not_eq_false', leI_t, leI_f, eqI_t, eqI_f, inR_t, inR_f, isSo_t, isSo_f] at h
      have hr : inR k xs.length = true := by rw [inR_t]; omega
      have hr2 : inR k ys.length = true := by rw [inR_t]; omega
      refine need_t hr (need_t hr2 ((fork_ok (fun h2 => c2 (by omega) h2) (fun h2 => ?_))))
      rw [w64_in (r := k + 1) (by omega)]
      exact c1 (by omega) h2
    · simp only [Bool.not_eq_true', Bool.not_eq_false', leI_t, leI_f, eqI_t, eqI_f, inR_t, inR_f, isSo_t, isSo_f] at h
      exact c3 (by omega)
namespace Sy
noncomputable abbrev lp_st (xs ys : List ByteArray) : Lp Try.prog where
  f := 77
  key := 5
  S := formS (fun F M => slotI F 5) (fun k => stF xs ys k) (fun _ => M0) (fun k => (eqI xs.length ys.length = true ∧ xs.length ≤ 17592186044416) ∧ k = 0) (fun k => .fork (anyN (diffS xs ys) xs.length) (.leaf (.ret, (some ((@AV.view (xs).length 1 (fun x988362 => (fun x824286 => (@AV.lit ([(@Value.string (xs.getD x988362 (@ByteArray.mk (@Array.mk _ []))))].getD x824286 (@Value.tuple (@Array.mk _ [])))))))) :: some ((@AV.view (ys).length 1 (fun x152863 => (fun x35083 => (@AV.lit ([(@Value.string (ys.getD x152863 (@ByteArray.mk (@Array.mk _ []))))].getD x35083 (@Value.tuple (@Array.mk _ [])))))))) :: none :: none :: some ((boo false)) :: (nn21 [])), M0)) (.leaf (.exit 0, (some ((@AV.view (xs).length 1 (fun x988362 => (fun x824286 => (@AV.lit ([(@Value.string (xs.getD x988362 (@ByteArray.mk (@Array.mk _ []))))].getD x824286 (@Value.tuple (@Array.mk _ [])))))))) :: some ((@AV.view (ys).length 1 (fun x152863 => (fun x35083 => (@AV.lit ([(@Value.string (ys.getD x152863 (@ByteArray.mk (@Array.mk _ []))))].getD x35083 (@Value.tuple (@Array.mk _ [])))))))) :: none :: none :: some ((boo false)) :: (nn21 [])), M0))) (true :: true :: false :: false :: true :: true :: (ff20 []))
  one := by kernel_rfl
  ok := formS_ok fun k ⟨h1, h2⟩ => by
    subst h2
    refine ⟨xs.length + 1, ?_⟩
    refine ((Sy.st_scan xs ys h1.1 h1.2).out (true :: true :: false :: false :: true :: (ff21 []))).mono fun ex F M hg => ?_
    obtain ⟨F0, ⟨hM, hg⟩, rfl⟩ := hg
    rcases hg with ⟨q1, rfl, rfl⟩ | ⟨q1, rfl, rfl⟩
    · exact .inl ⟨by rw [← anyN_idx, leI_t]; exact q1, by rw [hM]; rfl⟩
    · exact .inr ⟨by rw [← anyN_idx, leI_f, q1]; omega, by rw [hM]; rfl⟩
end Sy
theorem Sy.st_t (xs ys : List ByteArray) (hx : xs.length ≤ 17592186044416) : CallTo Try.prog 77 [cview xs, cview ys] M0 fun v _ => v = boo (sameS xs ys) :=
  toV [] [lp_st xs ys] 400 30 (.br .done (.br .done .done)) (let e1 := (eqI (((xs).length : Nat) : Int) (((ys).length : Nat) : Int)); let e2 := (@ByteArray.mk (@Array.mk _ [])); let e3 := (@Value.tuple (@Array.mk _ [])); let e4 := (some (@AV.view (xs).length 1 (fun y0 => (fun y1 => (@AV.lit ([(@Value.string (xs.getD y0 e2))].getD y1 e3)))))); let e5 := (some (@AV.view (ys).length 1 (fun y0 => (fun y1 => (@AV.lit ([(@Value.string (ys.getD y0 e2))].getD y1 e3)))))); (.fork (!e1) (.leaf (boo false)) (.need (@isSo (@And ((e4 :: e5 :: (none :: none :: (some (boo false)) :: (some (int (0 : Int))) :: (nn20 []))) = (e4 :: e5 :: none :: none :: (some (boo false)) :: (some (int (0 : Int))) :: (nn20 []))) ((@Mem.mk 0 0 []) = M0))) (.need (@isSo (@And (@And (e1 = true) ((xs).length ≤ 17592186044416)) ((0 : Int) = (0 : Int)))) (.fork (@anyN (@diffS xs ys) (xs).length) (.leaf (boo false)) (.leaf (boo true))))))) (by kernel_rfl) (by
    unfold sameS
    refine fork_ok (fun h => ?_) (fun h => need_so ⟨rfl, rfl⟩ (need_so ⟨⟨by simpa using h, hx⟩, rfl⟩ (fork_ok (fun h2 => ?_) (fun h2 => ?_))))
    · simp only [Bool.not_eq_true'] at h
      rw [h]; exact rfl
    · rw [h2]; refine leaf_boo ?_; simp
    · rw [h2]; refine leaf_boo ?_; simpa using h)
noncomputable abbrev Sy.c_st (xs ys : List ByteArray) : Con Try.prog := at1 77 [cview xs, cview ys] (boo (sameS xs ys)) (xs.length ≤ 17592186044416) fun h => ⟨⟨⟨viewOf_free strCells ⟨#[]⟩ 1 xs, viewOf_free strCells ⟨#[]⟩ 1 ys, trivial⟩, trivial⟩, st_t xs ys h⟩
def sameP (p q : PartV) : Bool := eqI p.comb q.comb && (bytesEq p.tag.data.toList q.tag.data.toList && (bytesEq p.id.data.toList q.id.data.toList && (eqI p.states q.states && (sameS p.cls q.cls && sameT p.tests q.tests))))
namespace Sy
abbrev smpF (k : Int) : Fr := (none :: none :: some ((@AV.ptr 0 0)) :: some ((@AV.ptr (0 + 1) 0)) :: some ((boo false)) :: some (int k) :: (nn13 (nn48 [])))
abbrev smpM (p q : PartV) : Mem := (@Mem.mk ((0 + 1) + 1) 0 [(some (@Blk.mk [(int (q).comb), (@AV.lit (@Value.string (q).tag)), (@AV.lit (@Value.string (q).id)), (@AV.view ((q).cls).length 1 (fun x205892 => (fun x819107 => (@AV.lit ([(@Value.string ((q).cls.getD x205892 (@ByteArray.mk (@Array.mk _ []))))].getD x819107 (@Value.tuple (@Array.mk _ []))))))), (@AV.view ((q).tests).length 3 (fun x748591 => (fun x729126 => (@AV.lit ([(@Value.string (((q).tests.getD x748591 testNone)).name), (@Value.bool (((q).tests.getD x748591 testNone)).equal), (@Value.string (((q).tests.getD x748591 testNone)).value)].getD x729126 (@Value.tuple (@Array.mk _ []))))))), (int (q).states)] 55 none)), (some (@Blk.mk [(int (p).comb), (@AV.lit (@Value.string (p).tag)), (@AV.lit (@Value.string (p).id)), (@AV.view ((p).cls).length 1 (fun x332885 => (fun x563501 => (@AV.lit ([(@Value.string ((p).cls.getD x332885 (@ByteArray.mk (@Array.mk _ []))))].getD x563501 (@Value.tuple (@Array.mk _ []))))))), (@AV.view ((p).tests).length 3 (fun x368000 => (fun x231719 => (@AV.lit ([(@Value.string (((p).tests.getD x368000 testNone)).name), (@Value.bool (((p).tests.getD x368000 testNone)).equal), (@Value.string (((p).tests.getD x368000 testNone)).value)].getD x231719 (@Value.tuple (@Array.mk _ []))))))), (int (p).states)] 55 none))])
end Sy
theorem Sy.sp_scan (p q : PartV) (hl : eqI p.tests.length q.tests.length = true) (hx : p.tests.length ≤ 17592186044416) : LoopTo Try.prog (theBody Try.prog 49 5) (p.tests.length + 1) (smpF 0) (smpM p q) fun ex F' M' => M' = smpM p q ∧ ((0 ≤ idxN (diffT p.tests q.tests) p.tests.length ∧ ex = .ret ∧ F' = smpF (idxN (diffT p.tests q.tests) p.tests.length)) ∨ (idxN (diffT p.tests q.tests) p.tests.length = -1 ∧ ex = .exit 0 ∧ F' = smpF p.tests.length)) :=
  scanN p.tests.length (diffT p.tests q.tests) (fun k => smpF k) (fun k => smpF k) (smpM p q) fun k n G h0 h1 c1 c2 c3 => by
    refine roundL [] [] 400 30 49 5 Try.func49 rfl (by kernel_rfl) (false :: false :: true :: true :: true :: true :: (ff13 (ff48 []))) (.br (.yes (.yes (.br .done .done))) .done) (let e1 := (@ByteArray.mk (@Array.mk _ [])); let e2 := (@Value.tuple (@Array.mk _ [])); let e3 := (@Mem.mk 2 0 [(some (@Blk.mk [(int (q).comb), (@AV.lit (@Value.string (q).tag)), (@AV.lit (@Value.string (q).id)), (@AV.view ((q).cls).length 1 (fun y0 => (fun y1 => (@AV.lit ([(@Value.string ((q).cls.getD y0 e1))].getD y1 e2))))), (@AV.view ((q).tests).length 3 (fun y0 => (fun y1 => (@AV.lit ([(@Value.string (((q).tests.getD y0 testNone)).name), (@Value.bool (((q).tests.getD y0 testNone)).equal), (@Value.string (((q).tests.getD y0 testNone)).value)].getD y1 e2))))), (int (q).states)] 55 none)), (some (@Blk.mk [(int (p).comb), (@AV.lit (@Value.string (p).tag)), (@AV.lit (@Value.string (p).id)), (@AV.view ((p).cls).length 1 (fun y0 => (fun y1 => (@AV.lit ([(@Value.string ((p).cls.getD y0 e1))].getD y1 e2))))), (@AV.view ((p).tests).length 3 (fun y0 => (fun y1 => (@AV.lit ([(@Value.string (((p).tests.getD y0 testNone)).name), (@Value.bool (((p).tests.getD y0 testNone)).equal), (@Value.string (((p).tests.getD y0 testNone)).value)].getD y1 e2))))), (int (p).states)] 55 none))]); (.fork (!(leI ((((p).tests).length : Nat) : Int) k)) (.need (@inR k ((p).tests).length) (.need (@inR k ((q).tests).length) (.fork (!((@bytesEq (@Array.toList _ (@ByteArray.data (((p).tests.getD (k).toNat testNone)).name)) (@Array.toList _ (@ByteArray.data (((q).tests.getD (k).toNat testNone)).name))) && ((@Decidable.decide ((((p).tests.getD (k).toNat testNone)).equal = (((q).tests.getD (k).toNat testNone)).equal) _) && ((@bytesEq (@Array.toList _ (@ByteArray.data (((p).tests.getD (k).toNat testNone)).value)) (@Array.toList _ (@ByteArray.data (((q).tests.getD (k).toNat testNone)).value))) && true)))) (.leaf (Ex.ret, ((none :: none :: (some (@AV.ptr 0 0)) :: (some (@AV.ptr 1 0)) :: (some (boo false)) :: (some (int k)) :: (nn13 (nn48 []))), e3))) (.leaf (Ex.norm, ((none :: none :: (some (@AV.ptr 0 0)) :: (some (@AV.ptr 1 0)) :: (some (boo false)) :: (some (int (w64 (k + (1 : Int))))) :: (nn13 (nn48 []))), e3)))))) (.leaf ((@Ex.exit 0), ((none :: none :: (some (@AV.ptr 0 0)) :: (some (@AV.ptr 1 0)) :: (some (boo false)) :: (some (int k)) :: (nn13 (nn48 []))), e3))))) (by kernel_rfl) ?_
    rw [eqI_t] at hl
    refine fork_ok (fun h => ?_) (fun h => ?_)
    · simp only [Bool.not_eq_true', Bool.not_eq_false', leI_t, leI_f, eqI_t, eqI_f, inR_t, inR_f, isSo_t, isSo_f] at h
      have hr : inR k p.tests.length = true := by rw [inR_t]; omega
      have hr2 : inR k q.tests.length = true := by rw [inR_t]; omega
      refine need_t hr (need_t hr2 (fork_ok (fun h2 => c2 (by omega) h2) (fun h2 => ?_)))
      rw [w64_in (r := k + 1) (by omega)]
      exact c1 (by omega) h2
    · simp only [Bool.not_eq_true', Bool.not_eq_false', leI_t, leI_f, eqI_t, eqI_f, inR_t, inR_f, isSo_t, isSo_f] at h
      exact c3 (by omega)
namespace Sy
noncomputable abbrev lpSp (p q : PartV) : Lp Try.prog where
  f := 49
  key := 5
  S := formS (fun F M => slotI F 5) (fun k => smpF k) (fun _ => smpM p q) (fun k => (eqI p.tests.length q.tests.length = true ∧ p.tests.length ≤ 17592186044416) ∧ k = 0) (fun k => .fork (anyN (diffT p.tests q.tests) p.tests.length) (.leaf (.ret, (none :: none :: some ((@AV.ptr 0 0)) :: some ((@AV.ptr (0 + 1) 0)) :: some ((boo false)) :: (nn14 (nn48 []))), smpM p q)) (.leaf (.exit 0, (none :: none :: some ((@AV.ptr 0 0)) :: some ((@AV.ptr (0 + 1) 0)) :: some ((boo false)) :: (nn14 (nn48 []))), smpM p q))) (false :: false :: true :: true :: true :: true :: (ff13 (ff48 [])))
  one := by kernel_rfl
  ok := formS_ok fun k ⟨h1, h2⟩ => by
    subst h2
    refine ⟨p.tests.length + 1, ?_⟩
    refine ((Sy.sp_scan p q h1.1 h1.2).out (false :: false :: true :: true :: true :: (ff14 (ff48 [])))).mono fun ex F M hg => ?_
    obtain ⟨F0, ⟨hM, hg⟩, rfl⟩ := hg
    rcases hg with ⟨q1, rfl, rfl⟩ | ⟨q1, rfl, rfl⟩
    · exact .inl ⟨by rw [← anyN_idx, leI_t]; exact q1, by rw [hM]; rfl⟩
    · exact .inr ⟨by rw [← anyN_idx, leI_f, q1]; omega, by rw [hM]; rfl⟩
end Sy
theorem Sy.sp_t (p q : PartV) (h : PartOk p) : CallTo Try.prog 49 [partG p, partG q] M0 fun v _ => v = boo (sameP p q) :=
  toV [c_st p.cls q.cls] [lpSp p q] 400 30 (.br (.auto 4 (.br (.auto 4 (.br (.auto 4 (.br (.auto 3 (.yes (.auto 1 (.br (.auto 6 (.br .done (.br .done .done))) (.auto 7 .done))))) (.auto 14 .done))) (.auto 20 .done))) (.auto 26 .done))) (.auto 32 .done)) (let e1 := (@ByteArray.mk (@Array.mk _ [])); let e2 := (@Value.tuple (@Array.mk _ [])); let e3 := (@AV.view ((p).cls).length 1 (fun y0 => (fun y1 => (@AV.lit ([(@Value.string ((p).cls.getD y0 e1))].getD y1 e2))))); let e4 := (@AV.view ((q).cls).length 1 (fun y0 => (fun y1 => (@AV.lit ([(@Value.string ((q).cls.getD y0 e1))].getD y1 e2))))); let e5 := (eqI ((((p).tests).length : Nat) : Int) ((((q).tests).length : Nat) : Int)); let e6 := (some (@Blk.mk [(int (q).comb), (@AV.lit (@Value.string (q).tag)), (@AV.lit (@Value.string (q).id)), e4, (@AV.view ((q).tests).length 3 (fun y0 => (fun y1 => (@AV.lit ([(@Value.string (((q).tests.getD y0 testNone)).name), (@Value.bool (((q).tests.getD y0 testNone)).equal), (@Value.string (((q).tests.getD y0 testNone)).value)].getD y1 e2))))), (int (q).states)] 55 none)); let e7 := (some (@Blk.mk [(int (p).comb), (@AV.lit (@Value.string (p).tag)), (@AV.lit (@Value.string (p).id)), e3, (@AV.view ((p).tests).length 3 (fun y0 => (fun y1 => (@AV.lit ([(@Value.string (((p).tests.getD y0 testNone)).name), (@Value.bool (((p).tests.getD y0 testNone)).equal), (@Value.string (((p).tests.getD y0 testNone)).value)].getD y1 e2))))), (int (p).states)] 55 none)); (.fork (!(!(eqI (p).comb (q).comb))) (.fork (!(!(@bytesEq (@Array.toList _ (@ByteArray.data (p).tag)) (@Array.toList _ (@ByteArray.data (q).tag))))) (.fork (!(!(@bytesEq (@Array.toList _ (@ByteArray.data (p).id)) (@Array.toList _ (@ByteArray.data (q).id))))) (.fork (!(!(eqI (p).states (q).states))) (.need (@isSo (@And ((@HAppend.hAppend _ _ _ _ (@HAppend.hAppend _ _ _ _ [] [e3, e4]) []) = [e3, e4]) (((p).cls).length ≤ 17592186044416))) (.fork (!(!(@sameS (p).cls (q).cls))) (.fork (!e5) (.leaf (boo false)) (.need (@isSo (@And ((none :: none :: ((some (@AV.ptr 0 0)) :: (some (@AV.ptr (0 + 1) 0)) :: (some (boo false)) :: (some (int (0 : Int))) :: (nn13 (nn48 [])))) = (none :: none :: (some (@AV.ptr 0 0)) :: (some (@AV.ptr 1 0)) :: (some (boo false)) :: (some (int (0 : Int))) :: (nn13 (nn48 [])))) ((@Mem.mk ((0 + 1) + 1) 0 [e6, e7]) = (@Mem.mk 2 0 [e6, e7])))) (.need (@isSo (@And (@And (e5 = true) (((p).tests).length ≤ 17592186044416)) ((0 : Int) = (0 : Int)))) (.fork (@anyN (@diffT (p).tests (q).tests) ((p).tests).length) (.leaf (boo false)) (.leaf (boo true)))))) (.leaf (boo false)))) (.leaf (boo false))) (.leaf (boo false))) (.leaf (boo false))) (.leaf (boo false)))) (by kernel_rfl) (by
    obtain ⟨h1, h2, h3, h4⟩ := h
    unfold sameP sameT
    repeat' (first
      | refine fork_ok (fun _ => ?_) (fun _ => ?_)
      | refine need_so ⟨rfl, h3.1⟩ ?_
      | refine need_so ⟨rfl, rfl⟩ ?_
      | refine need_so ⟨⟨by simp_all, h4.1⟩, rfl⟩ ?_)
    all_goals refine leaf_boo ?_
    all_goals simp only [Bool.not_eq_true', Bool.not_eq_false'] at *
    all_goals simp only [*, Bool.true_and, Bool.false_and, Bool.and_false, Bool.and_true, Bool.not_true, Bool.not_false])
noncomputable abbrev Sy.cSp (p q : PartV) : Con Try.prog := at1 49 [partG p, partG q] (boo (sameP p q)) (PartOk p) fun h => ⟨⟨⟨partG_free p, partG_free q, trivial⟩, trivial⟩, sp_t p q h⟩
namespace Sy
abbrev soF (xs ys : List PartV) (k : Int) : Fr := (none :: none :: some ((@AV.ptr 0 0)) :: some ((@AV.ptr (0 + 1) 0)) :: some ((boo false)) :: some (int k) :: (nn26 []))
abbrev soM (xs ys : List PartV) : Mem := (@Mem.mk ((0 + 1) + 1) 0 [(some (@Blk.mk [(@AV.view (ys).length 6 (@pcell ys))] 43 none)), (some (@Blk.mk [(@AV.view (xs).length 6 (@pcell xs))] 43 none))])
end Sy
def diffP (xs ys : List PartV) (i : Nat) : Bool := !sameP (xs.getD i partNone) (ys.getD i partNone)
def sameL (xs ys : List PartV) : Bool := eqI xs.length ys.length && !anyN (diffP xs ys) xs.length
theorem Sy.so_scan (xs ys : List PartV) (hl : eqI xs.length ys.length = true) (hx : PartsOk xs) : LoopTo Try.prog (theBody Try.prog 29 5) (xs.length + 1) (soF xs ys 0) (soM xs ys) fun ex F' M' => M' = (soM xs ys) ∧ ((0 ≤ idxN (diffP xs ys) xs.length ∧ ex = .ret ∧ F' = soF xs ys (idxN (diffP xs ys) xs.length)) ∨ (idxN (diffP xs ys) xs.length = -1 ∧ ex = .exit 0 ∧ F' = soF xs ys xs.length)) :=
  scanN xs.length (diffP xs ys) (fun k => soF xs ys k) (fun k => soF xs ys k) (soM xs ys) fun k n G h0 h1 c1 c2 c3 => by
    refine roundL [cSp (xs.getD k.toNat partNone) (ys.getD k.toNat partNone)] [] 400 30 29 5 Try.func29 rfl (by kernel_rfl) (false :: false :: true :: true :: true :: true :: (ff26 [])) (.br (.yes (.yes (.yes (.br .done .done)))) .done) (let e1 := (((xs.getD (k).toNat partNone)).cls); let e2 := (@ByteArray.mk (@Array.mk _ [])); let e3 := (@Value.tuple (@Array.mk _ [])); let e4 := (((xs.getD (k).toNat partNone)).tests); let e5 := (@Mem.mk 2 0 [(some (@Blk.mk [(@AV.view (ys).length 6 (@pcell ys))] 43 none)), (some (@Blk.mk [(@AV.view (xs).length 6 (@pcell xs))] 43 none))]); (.fork (!(leI (((xs).length : Nat) : Int) k)) (.need (@inR k (xs).length) (.need (@inR k (ys).length) (.need (@isSo (@And ((@HAppend.hAppend _ _ _ _ (@HAppend.hAppend _ _ _ _ [] [(@AV.agg [(@pcell xs (k).toNat 0), (@pcell xs (k).toNat 1), (@pcell xs (k).toNat 2), (@pcell xs (k).toNat 3), (@pcell xs (k).toNat 4), (@pcell xs (k).toNat 5)]), (@AV.agg [(@pcell ys (k).toNat 0), (@pcell ys (k).toNat 1), (@pcell ys (k).toNat 2), (@pcell ys (k).toNat 3), (@pcell ys (k).toNat 4), (@pcell ys (k).toNat 5)])]) []) = [(@AV.agg [(int ((xs.getD (k).toNat partNone)).comb), (@AV.lit (@Value.string ((xs.getD (k).toNat partNone)).tag)), (@AV.lit (@Value.string ((xs.getD (k).toNat partNone)).id)), (@AV.view e1.length 1 (fun y0 => (fun y1 => (@AV.lit ([(@Value.string (((xs.getD (k).toNat partNone)).cls.getD y0 e2))].getD y1 e3))))), (@AV.view e4.length 3 (fun y0 => (fun y1 => (@AV.lit ([(@Value.string ((((xs.getD (k).toNat partNone)).tests.getD y0 testNone)).name), (@Value.bool ((((xs.getD (k).toNat partNone)).tests.getD y0 testNone)).equal), (@Value.string ((((xs.getD (k).toNat partNone)).tests.getD y0 testNone)).value)].getD y1 e3))))), (int ((xs.getD (k).toNat partNone)).states)]), (@AV.agg [(int ((ys.getD (k).toNat partNone)).comb), (@AV.lit (@Value.string ((ys.getD (k).toNat partNone)).tag)), (@AV.lit (@Value.string ((ys.getD (k).toNat partNone)).id)), (@AV.view (((ys.getD (k).toNat partNone)).cls).length 1 (fun y0 => (fun y1 => (@AV.lit ([(@Value.string (((ys.getD (k).toNat partNone)).cls.getD y0 e2))].getD y1 e3))))), (@AV.view (((ys.getD (k).toNat partNone)).tests).length 3 (fun y0 => (fun y1 => (@AV.lit ([(@Value.string ((((ys.getD (k).toNat partNone)).tests.getD y0 testNone)).name), (@Value.bool ((((ys.getD (k).toNat partNone)).tests.getD y0 testNone)).equal), (@Value.string ((((ys.getD (k).toNat partNone)).tests.getD y0 testNone)).value)].getD y1 e3))))), (int ((ys.getD (k).toNat partNone)).states)])]) (@And ((@ByteArray.size ((xs.getD (k).toNat partNone)).tag) ≤ 9223372036854775807) (@And ((@ByteArray.size ((xs.getD (k).toNat partNone)).id) ≤ 9223372036854775807) (@And (@And (e1.length ≤ 17592186044416) (∀ (s : ByteArray), s ∈ (xs.getD k.toNat partNone).cls → s.size ≤ maxLen)) (@And (e4.length ≤ 17592186044416) (∀ (t : TestV), t ∈ (xs.getD k.toNat partNone).tests → t.Ok))))))) (.fork (!(@sameP (xs.getD (k).toNat partNone) (ys.getD (k).toNat partNone))) (.leaf (Ex.ret, ((none :: none :: (some (@AV.ptr 0 0)) :: (some (@AV.ptr 1 0)) :: (some (boo false)) :: (some (int k)) :: (nn26 [])), e5))) (.leaf (Ex.norm, ((none :: none :: (some (@AV.ptr 0 0)) :: (some (@AV.ptr 1 0)) :: (some (boo false)) :: (some (int (w64 (k + (1 : Int))))) :: (nn26 [])), e5))))))) (.leaf ((@Ex.exit 0), ((none :: none :: (some (@AV.ptr 0 0)) :: (some (@AV.ptr 1 0)) :: (some (boo false)) :: (some (int k)) :: (nn26 [])), e5))))) (by kernel_rfl) ?_
    rw [eqI_t] at hl
    have hm : xs.length ≤ 17592186044416 := hx.1
    refine fork_ok (fun h => ?_) (fun h => ?_)
    · simp only [Bool.not_eq_true', Bool.not_eq_false', leI_t, leI_f, eqI_t, eqI_f, inR_t, inR_f, isSo_t, isSo_f] at h
      have hr : inR k xs.length = true := by rw [inR_t]; omega
      have hr2 : inR k ys.length = true := by rw [inR_t]; omega
      refine need_t hr (need_t hr2 (need_so ⟨rfl, hx.2 _ (getD_mem xs k _ h0 (by omega))⟩ (fork_ok (fun h2 => c2 (by omega) h2) (fun h2 => ?_))))
      rw [w64_in (r := k + 1) (by omega)]
      exact c1 (by omega) h2
    · simp only [Bool.not_eq_true', Bool.not_eq_false', leI_t, leI_f, eqI_t, eqI_f, inR_t, inR_f, isSo_t, isSo_f] at h
      exact c3 (by omega)
namespace Sy
noncomputable abbrev lp_so (xs ys : List PartV) : Lp Try.prog where
  f := 29
  key := 5
  S := formS (fun F M => slotI F 5) (fun k => soF xs ys k) (fun _ => (soM xs ys)) (fun k => (eqI xs.length ys.length = true ∧ PartsOk xs) ∧ k = 0) (fun k => .fork (anyN (diffP xs ys) xs.length) (.leaf (.ret, (none :: none :: some ((@AV.ptr 0 0)) :: some ((@AV.ptr (0 + 1) 0)) :: some ((boo false)) :: (nn27 [])), (soM xs ys))) (.leaf (.exit 0, (none :: none :: some ((@AV.ptr 0 0)) :: some ((@AV.ptr (0 + 1) 0)) :: some ((boo false)) :: (nn27 [])), (soM xs ys)))) (false :: false :: true :: true :: true :: true :: (ff26 []))
  one := by kernel_rfl
  ok := formS_ok fun k ⟨h1, h2⟩ => by
    subst h2
    refine ⟨xs.length + 1, ?_⟩
    refine ((Sy.so_scan xs ys h1.1 h1.2).out (false :: false :: true :: true :: true :: (ff27 []))).mono fun ex F M hg => ?_
    obtain ⟨F0, ⟨hM, hg⟩, rfl⟩ := hg
    rcases hg with ⟨q1, rfl, rfl⟩ | ⟨q1, rfl, rfl⟩
    · exact .inl ⟨by rw [← anyN_idx, leI_t]; exact q1, by rw [hM]; rfl⟩
    · exact .inr ⟨by rw [← anyN_idx, leI_f, q1]; omega, by rw [hM]; rfl⟩
end Sy
theorem Sy.so_t (xs ys : List PartV) (hx : PartsOk xs) : CallTo Try.prog 29 [.agg [pview xs], .agg [pview ys]] M0 fun v _ => v = boo (sameL xs ys) :=
  toV [] [lp_so xs ys] 400 30 (.br .done (.br .done .done)) (let e1 := (eqI (((xs).length : Nat) : Int) (((ys).length : Nat) : Int)); let e2 := (some (@Blk.mk [(@AV.view (ys).length 6 (@pcell ys))] 43 none)); let e3 := (some (@Blk.mk [(@AV.view (xs).length 6 (@pcell xs))] 43 none)); (.fork (!e1) (.leaf (boo false)) (.need (@isSo (@And ((none :: none :: ((some (@AV.ptr 0 0)) :: (some (@AV.ptr (0 + 1) 0)) :: (some (boo false)) :: (some (int (0 : Int))) :: (nn26 []))) = (none :: none :: (some (@AV.ptr 0 0)) :: (some (@AV.ptr 1 0)) :: (some (boo false)) :: (some (int (0 : Int))) :: (nn26 []))) ((@Mem.mk ((0 + 1) + 1) 0 [e2, e3]) = (@Mem.mk 2 0 [e2, e3])))) (.need (@isSo (@And (@And (e1 = true) (@And ((xs).length ≤ 17592186044416) (∀ (p : PartV), p ∈ xs → PartOk p))) ((0 : Int) = (0 : Int)))) (.fork (@anyN (@diffP xs ys) (xs).length) (.leaf (boo false)) (.leaf (boo true))))))) (by kernel_rfl) (by
    unfold sameL
    refine fork_ok (fun h => ?_) (fun h => need_so ⟨rfl, rfl⟩ (need_so ⟨⟨by simpa using h, hx⟩, rfl⟩ (fork_ok (fun h2 => ?_) (fun h2 => ?_))))
    · simp only [Bool.not_eq_true'] at h
      rw [h]; exact rfl
    · rw [h2]; refine leaf_boo ?_; simp
    · rw [h2]; refine leaf_boo ?_; simpa using h)
noncomputable abbrev Sy.c_so (xs ys : List PartV) : Con Try.prog := at1 29 [.agg [pview xs], .agg [pview ys]] (boo (sameL xs ys)) (PartsOk xs) fun h => ⟨⟨⟨⟨pview_free xs, trivial⟩, ⟨pview_free ys, trivial⟩, trivial⟩, trivial⟩, so_t xs ys h⟩
end Go.Proofs.Ytconlneohilnmaa
namespace Go.Proofs.Ytconlneohilnmaa
open Go Go.RowKit Pl Sy
theorem wrong_no {p : PartV} (h : wrongB p = false) : (0 ≤ p.states ∧ p.states ≤ 7) ∧ (p.cls.length ≤ 8 ∧ p.tests.length ≤ 8) := by
  unfold wrongB at h
  simp only [Bool.or_eq_false_iff, Bool.not_eq_false', leI_t] at h
  omega
theorem right_of {xs : List PartV} (h : rightB xs = true) : (xs.length ≠ 0 ∧ xs.length ≤ 8) ∧ (∀ p ∈ xs, wrongB p = false) ∧ ∀ k, k < xs.length → CombOk k (xs.getD k partNone).comb := by
  unfold rightB at h
  simp only [Bool.and_eq_true, Bool.not_eq_true', eqI_f, leI_t] at h
  obtain ⟨h1, h2, h3, h4⟩ := h
  refine ⟨⟨by omega, by omega⟩, fun p hp => ?_, fun k hk => ?_⟩
  · unfold anyP at h3
    rw [List.any_eq_false] at h3
    simpa using h3 p hp
  · have h5 : combs xs k = false := by
      unfold anyN at h4
      rw [List.any_eq_false] at h4
      simpa using h4 k (List.mem_range.2 hk)
    unfold combs combB at h5
    refine ⟨fun e => ?_, fun e => ?_⟩
    · rw [if_pos (by omega)] at h5
      simp only [Bool.not_eq_false', eqI_t] at h5
      exact h5
    · rw [if_neg (by omega)] at h5
      simp only [Bool.or_eq_false_iff, Bool.not_eq_false', leI_t] at h5
      exact h5
theorem testsT_len2 : ∀ l : List TestV, (testsT l).length ≤ 5 * l.length
  | [] => by simp [testsT]
  | t :: l => by
    have := testsT_len2 l
    have h := testT_len t
    show ((t :: l).flatMap testT).length ≤ _
    rw [List.flatMap_cons, List.length_append]
    unfold testsT at this
    simp only [List.length_cons]
    omega
theorem partT_le {p : PartV} (h : p.cls.length ≤ 8 ∧ p.tests.length ≤ 8) : (partT p).length ≤ 70 := by
  have h1 : (bodyT p).length ≤ 70 := by
    unfold bodyT
    have a1 : (tagT p).length ≤ 1 := by unfold tagT; split <;> simp
    have a2 : (idT p).length ≤ 1 := by unfold idT; split <;> simp
    have a3 := clssT_len p.cls
    have a4 := testsT_len2 p.tests
    have a5 := stateT_len p.states 1 wRoot
    have a6 := stateT_len p.states 2 wFirst
    have a7 := stateT_len p.states 4 wLast
    simp only [List.length_append]
    omega
  unfold partT
  split
  · simp
  · exact h1
theorem combT_le (c : Int) : (combT c).length ≤ 3 := by
  unfold combT
  split
  · simp
  · split <;> simp
theorem partsT_le : ∀ (ps : List PartV), (∀ p ∈ ps, wrongB p = false) → (partsT ps).length ≤ 73 * ps.length
  | [], _ => by simp [partsT]
  | p :: l, h => by
    have h1 := partsT_le l (fun q hq => h q (by simp [hq]))
    have h2 := partT_le (wrong_no (h p (by simp))).2
    have h3 := combT_le p.comb
    rw [partsT_cons, List.length_append, List.length_append, List.length_cons]
    omega
theorem putsOk_of {ps : List PartV} (h : rightB ps = true) : PutsOk ps := by
  obtain ⟨⟨_, r1⟩, r2, r3⟩ := right_of h
  refine ⟨r1, fun p hp => ⟨(wrong_no (r2 p hp)).2, ?_⟩⟩
  obtain ⟨k, hk, rfl⟩ := List.getElem_of_mem hp
  have h4 := r3 k hk
  rw [List.getD_eq_getElem?_getD, List.getElem?_eq_getElem hk] at h4
  simp only [Option.getD_some] at h4
  obtain ⟨q1, q2⟩ := h4
  rcases Nat.eq_zero_or_pos k with e | e
  · have := q1 (by omega); omega
  · have := q2 (by omega); omega
def allR (ss : List (List PartV)) : Bool := !eqI ss.length 0 && !anyQ unrightB ss
def printT (ss : List (List PartV)) : List TokV := if allR ss = true then selsT 0 ss else []
def printE (ss : List (List PartV)) : Int := if allR ss = true then 0 else 20
theorem anyQ_no {ss : List (List PartV)} (h : anyQ unrightB ss = false) : ∀ ps ∈ ss, rightB ps = true := fun ps hp => by
  unfold anyQ at h
  rw [List.any_eq_false] at h
  have := h ps hp
  unfold unrightB at this
  simpa using this
end Go.Proofs.Ytconlneohilnmaa
namespace Go.Proofs.Ytconlneohilnmaa
open Go Go.RowKit Pl Sy
namespace Sy
abbrev slmF (xs ys : List (List PartV)) (k : Int) : Fr := (some ((@AV.view (xs).length 1 (fun x824286 => (fun x152863 => (@AV.view ((xs.getD x824286 [])).length 6 (@pcell (xs.getD x824286 []))))))) :: some ((@AV.view (ys).length 1 (fun x35083 => (fun x751408 => (@AV.view ((ys.getD x35083 [])).length 6 (@pcell (ys.getD x35083 []))))))) :: none :: none :: some ((boo false)) :: some (int k) :: (nn21 []))
abbrev alF (xs : List (List PartV)) (k : Int) : Fr := (some ((@AV.view (xs).length 1 (fun x946680 => (fun x237755 => (@AV.view ((xs.getD x946680 [])).length 6 (@pcell (xs.getD x946680 []))))))) :: none :: some ((boo false)) :: some (int k) :: (nn15 []))
abbrev tsF (xs ys : List TokV) (k : Int) : Fr := (some ((@AV.view (xs).length 3 (fun x988362 => (fun x824286 => (@AV.lit ([(@Value.int IntKind.i64 ((xs.getD x988362 tok0)).kind), (@Value.string ((xs.getD x988362 tok0)).text), (@Value.int IntKind.i64 ((xs.getD x988362 tok0)).n)].getD x824286 (@Value.tuple (@Array.mk _ [])))))))) :: some ((@AV.view (ys).length 3 (fun x152863 => (fun x35083 => (@AV.lit ([(@Value.int IntKind.i64 ((ys.getD x152863 tok0)).kind), (@Value.string ((ys.getD x152863 tok0)).text), (@Value.int IntKind.i64 ((ys.getD x152863 tok0)).n)].getD x35083 (@Value.tuple (@Array.mk _ [])))))))) :: none :: none :: some ((boo false)) :: some (int k) :: (nn20 []))
end Sy
def diffQ (xs ys : List (List PartV)) (i : Nat) : Bool := !sameL (xs.getD i []) (ys.getD i [])
def eqK (x y : TokV) : Bool := eqI x.kind y.kind && (bytesEq x.text.data.toList y.text.data.toList && (eqI x.n y.n && true))
def diffK (xs ys : List TokV) (i : Nat) : Bool := !eqK (xs.getD i tok0) (ys.getD i tok0)
theorem Sy.rsl_scan (xs ys : List (List PartV)) (hl : eqI xs.length ys.length = true) (hx : SelsR xs) : LoopTo Try.prog (theBody Try.prog 12 5) (xs.length + 1) (slmF xs ys 0) M0 fun ex F' M' => M' = M0 ∧ ((0 ≤ idxN (diffQ xs ys) xs.length ∧ ex = .ret ∧ F' = slmF xs ys (idxN (diffQ xs ys) xs.length)) ∨ (idxN (diffQ xs ys) xs.length = -1 ∧ ex = .exit 0 ∧ F' = slmF xs ys xs.length)) :=
  scanN xs.length (diffQ xs ys) (fun k => slmF xs ys k) (fun k => slmF xs ys k) M0 fun k n G h0 h1 c1 c2 c3 => by
    refine roundL [c_so (xs.getD k.toNat []) (ys.getD k.toNat [])] [] 400 30 12 5 Try.func12 rfl (by kernel_rfl) (true :: true :: false :: false :: true :: true :: (ff21 [])) (.br (.yes (.yes (.yes (.br .done .done)))) .done) (let e1 := (xs.getD (k).toNat []); let e2 := (@AV.agg [(@AV.view (e1).length 6 (@pcell e1))]); let e3 := (ys.getD (k).toNat []); let e4 := (@AV.agg [(@AV.view (e3).length 6 (@pcell e3))]); let e5 := (some (@AV.view (xs).length 1 (fun y0 => (fun y1 => (@AV.view ((xs.getD y0 [])).length 6 (@pcell (xs.getD y0 []))))))); let e6 := (some (@AV.view (ys).length 1 (fun y0 => (fun y1 => (@AV.view ((ys.getD y0 [])).length 6 (@pcell (ys.getD y0 []))))))); (.fork (!(leI (((xs).length : Nat) : Int) k)) (.need (@inR k (xs).length) (.need (@inR k (ys).length) (.need (@isSo (@And ((@HAppend.hAppend _ _ _ _ (@HAppend.hAppend _ _ _ _ [] [e2, e4]) []) = [e2, e4]) (@And ((e1).length ≤ 17592186044416) (∀ (p : PartV), p ∈ xs.getD k.toNat [] → PartOk p)))) (.fork (!(@sameL e1 e3)) (.leaf (Ex.ret, ((e5 :: e6 :: none :: none :: (some (boo false)) :: (some (int k)) :: (nn21 [])), (@Mem.mk 0 0 [])))) (.leaf (Ex.norm, ((e5 :: e6 :: none :: none :: (some (boo false)) :: (some (int (w64 (k + (1 : Int))))) :: (nn21 [])), (@Mem.mk 0 0 [])))))))) (.leaf ((@Ex.exit 0), ((e5 :: e6 :: none :: none :: (some (boo false)) :: (some (int k)) :: (nn21 [])), (@Mem.mk 0 0 [])))))) (by kernel_rfl) ?_
    rw [eqI_t] at hl
    have hm : xs.length ≤ 17592186044416 := hx.1
    refine fork_ok (fun h => ?_) (fun h => ?_)
    · simp only [Bool.not_eq_true', Bool.not_eq_false', leI_t, leI_f, eqI_t, eqI_f, inR_t, inR_f, isSo_t, isSo_f] at h
      have hr : inR k xs.length = true := by rw [inR_t]; omega
      have hr2 : inR k ys.length = true := by rw [inR_t]; omega
      refine need_t hr (need_t hr2 (need_so ⟨rfl, hx.2 _ (getD_mem xs k _ h0 (by omega))⟩ (fork_ok (fun h2 => c2 (by omega) h2) (fun h2 => ?_))))
      rw [w64_in (r := k + 1) (by omega)]
      exact c1 (by omega) h2
    · simp only [Bool.not_eq_true', Bool.not_eq_false', leI_t, leI_f, eqI_t, eqI_f, inR_t, inR_f, isSo_t, isSo_f] at h
      exact c3 (by omega)
namespace Sy
noncomputable abbrev lp_rsl (xs ys : List (List PartV)) : Lp Try.prog where
  f := 12
  key := 5
  S := formS (fun F M => slotI F 5) (fun k => slmF xs ys k) (fun _ => M0) (fun k => (eqI xs.length ys.length = true ∧ SelsR xs) ∧ k = 0) (fun k => .fork (anyN (diffQ xs ys) xs.length) (.leaf (.ret, (some ((@AV.view (xs).length 1 (fun x824286 => (fun x152863 => (@AV.view ((xs.getD x824286 [])).length 6 (@pcell (xs.getD x824286 []))))))) :: some ((@AV.view (ys).length 1 (fun x35083 => (fun x751408 => (@AV.view ((ys.getD x35083 [])).length 6 (@pcell (ys.getD x35083 []))))))) :: none :: none :: some ((boo false)) :: (nn22 [])), M0)) (.leaf (.exit 0, (some ((@AV.view (xs).length 1 (fun x824286 => (fun x152863 => (@AV.view ((xs.getD x824286 [])).length 6 (@pcell (xs.getD x824286 []))))))) :: some ((@AV.view (ys).length 1 (fun x35083 => (fun x751408 => (@AV.view ((ys.getD x35083 [])).length 6 (@pcell (ys.getD x35083 []))))))) :: none :: none :: some ((boo false)) :: (nn22 [])), M0))) (true :: true :: false :: false :: true :: true :: (ff21 []))
  one := by kernel_rfl
  ok := formS_ok fun k ⟨h1, h2⟩ => by
    subst h2
    refine ⟨xs.length + 1, ?_⟩
    refine ((Sy.rsl_scan xs ys h1.1 h1.2).out (true :: true :: false :: false :: true :: (ff22 []))).mono fun ex F M hg => ?_
    obtain ⟨F0, ⟨hM, hg⟩, rfl⟩ := hg
    rcases hg with ⟨q1, rfl, rfl⟩ | ⟨q1, rfl, rfl⟩
    · exact .inl ⟨by rw [← anyN_idx, leI_t]; exact q1, by rw [hM]; rfl⟩
    · exact .inr ⟨by rw [← anyN_idx, leI_f, q1]; omega, by rw [hM]; rfl⟩
end Sy
theorem Sy.rsl_t (xs ys : List (List PartV)) (hx : SelsR xs) : CallTo Try.prog 12 [sview xs, sview ys] M0 fun v _ => v = boo (eqI xs.length ys.length && !anyN (diffQ xs ys) xs.length) :=
  toV [] [lp_rsl xs ys] 400 30 (.br .done (.br .done .done)) (let e1 := (eqI (((xs).length : Nat) : Int) (((ys).length : Nat) : Int)); let e2 := (some (@AV.view (xs).length 1 (fun y0 => (fun y1 => (@AV.view ((xs.getD y0 [])).length 6 (@pcell (xs.getD y0 []))))))); let e3 := (some (@AV.view (ys).length 1 (fun y0 => (fun y1 => (@AV.view ((ys.getD y0 [])).length 6 (@pcell (ys.getD y0 []))))))); (.fork (!e1) (.leaf (boo false)) (.need (@isSo (@And ((e2 :: e3 :: (none :: none :: (some (boo false)) :: (some (int (0 : Int))) :: (nn21 []))) = (e2 :: e3 :: none :: none :: (some (boo false)) :: (some (int (0 : Int))) :: (nn21 []))) ((@Mem.mk 0 0 []) = M0))) (.need (@isSo (@And (@And (e1 = true) (@SelsR xs)) ((0 : Int) = (0 : Int)))) (.fork (@anyN (@diffQ xs ys) (xs).length) (.leaf (boo false)) (.leaf (boo true))))))) (by kernel_rfl) (by
    refine fork_ok (fun h => ?_) (fun h => need_so ⟨rfl, rfl⟩ (need_so ⟨⟨by simpa using h, hx⟩, rfl⟩ (fork_ok (fun h2 => ?_) (fun h2 => ?_))))
    · simp only [Bool.not_eq_true'] at h
      rw [h]; exact rfl
    · rw [h2]; refine leaf_boo ?_; simp
    · rw [h2]; refine leaf_boo ?_; simpa using h)
theorem Sy.tsm_scan (xs ys : List TokV) (hl : eqI xs.length ys.length = true) (hx : xs.length ≤ 17592186044416) : LoopTo Try.prog (theBody Try.prog 10 5) (xs.length + 1) (tsF xs ys 0) M0 fun ex F' M' => M' = M0 ∧ ((0 ≤ idxN (diffK xs ys) xs.length ∧ ex = .ret ∧ F' = tsF xs ys (idxN (diffK xs ys) xs.length)) ∨ (idxN (diffK xs ys) xs.length = -1 ∧ ex = .exit 0 ∧ F' = tsF xs ys xs.length)) :=
  scanN xs.length (diffK xs ys) (fun k => tsF xs ys k) (fun k => tsF xs ys k) M0 fun k n G h0 h1 c1 c2 c3 => by
    refine roundL [] [] 400 30 10 5 Try.func10 rfl (by kernel_rfl) (true :: true :: false :: false :: true :: true :: (ff20 [])) (.br (.yes (.yes (.br .done .done))) .done) (let e1 := (@Value.tuple (@Array.mk _ [])); let e2 := (some (@AV.view (xs).length 3 (fun y0 => (fun y1 => (@AV.lit ([(@Value.int IntKind.i64 ((xs.getD y0 tok0)).kind), (@Value.string ((xs.getD y0 tok0)).text), (@Value.int IntKind.i64 ((xs.getD y0 tok0)).n)].getD y1 e1)))))); let e3 := (some (@AV.view (ys).length 3 (fun y0 => (fun y1 => (@AV.lit ([(@Value.int IntKind.i64 ((ys.getD y0 tok0)).kind), (@Value.string ((ys.getD y0 tok0)).text), (@Value.int IntKind.i64 ((ys.getD y0 tok0)).n)].getD y1 e1)))))); (.fork (!(leI (((xs).length : Nat) : Int) k)) (.need (@inR k (xs).length) (.need (@inR k (ys).length) (.fork (!((eqI ((xs.getD (k).toNat tok0)).kind ((ys.getD (k).toNat tok0)).kind) && ((@bytesEq (@Array.toList _ (@ByteArray.data ((xs.getD (k).toNat tok0)).text)) (@Array.toList _ (@ByteArray.data ((ys.getD (k).toNat tok0)).text))) && ((eqI ((xs.getD (k).toNat tok0)).n ((ys.getD (k).toNat tok0)).n) && true)))) (.leaf (Ex.ret, ((e2 :: e3 :: none :: none :: (some (boo false)) :: (some (int k)) :: (nn20 [])), (@Mem.mk 0 0 [])))) (.leaf (Ex.norm, ((e2 :: e3 :: none :: none :: (some (boo false)) :: (some (int (w64 (k + (1 : Int))))) :: (nn20 [])), (@Mem.mk 0 0 []))))))) (.leaf ((@Ex.exit 0), ((e2 :: e3 :: none :: none :: (some (boo false)) :: (some (int k)) :: (nn20 [])), (@Mem.mk 0 0 [])))))) (by kernel_rfl) ?_
    rw [eqI_t] at hl
    have hm : xs.length ≤ 17592186044416 := hx
    refine fork_ok (fun h => ?_) (fun h => ?_)
    · simp only [Bool.not_eq_true', Bool.not_eq_false', leI_t, leI_f, eqI_t, eqI_f, inR_t, inR_f, isSo_t, isSo_f] at h
      have hr : inR k xs.length = true := by rw [inR_t]; omega
      have hr2 : inR k ys.length = true := by rw [inR_t]; omega
      refine need_t hr (need_t hr2 ((fork_ok (fun h2 => c2 (by omega) h2) (fun h2 => ?_))))
      rw [w64_in (r := k + 1) (by omega)]
      exact c1 (by omega) h2
    · simp only [Bool.not_eq_true', Bool.not_eq_false', leI_t, leI_f, eqI_t, eqI_f, inR_t, inR_f, isSo_t, isSo_f] at h
      exact c3 (by omega)
namespace Sy
noncomputable abbrev lp_tsm (xs ys : List TokV) : Lp Try.prog where
  f := 10
  key := 5
  S := formS (fun F M => slotI F 5) (fun k => tsF xs ys k) (fun _ => M0) (fun k => (eqI xs.length ys.length = true ∧ xs.length ≤ 17592186044416) ∧ k = 0) (fun k => .fork (anyN (diffK xs ys) xs.length) (.leaf (.ret, (some ((@AV.view (xs).length 3 (fun x988362 => (fun x824286 => (@AV.lit ([(@Value.int IntKind.i64 ((xs.getD x988362 tok0)).kind), (@Value.string ((xs.getD x988362 tok0)).text), (@Value.int IntKind.i64 ((xs.getD x988362 tok0)).n)].getD x824286 (@Value.tuple (@Array.mk _ [])))))))) :: some ((@AV.view (ys).length 3 (fun x152863 => (fun x35083 => (@AV.lit ([(@Value.int IntKind.i64 ((ys.getD x152863 tok0)).kind), (@Value.string ((ys.getD x152863 tok0)).text), (@Value.int IntKind.i64 ((ys.getD x152863 tok0)).n)].getD x35083 (@Value.tuple (@Array.mk _ [])))))))) :: none :: none :: some ((boo false)) :: (nn21 [])), M0)) (.leaf (.exit 0, (some ((@AV.view (xs).length 3 (fun x988362 => (fun x824286 => (@AV.lit ([(@Value.int IntKind.i64 ((xs.getD x988362 tok0)).kind), (@Value.string ((xs.getD x988362 tok0)).text), (@Value.int IntKind.i64 ((xs.getD x988362 tok0)).n)].getD x824286 (@Value.tuple (@Array.mk _ [])))))))) :: some ((@AV.view (ys).length 3 (fun x152863 => (fun x35083 => (@AV.lit ([(@Value.int IntKind.i64 ((ys.getD x152863 tok0)).kind), (@Value.string ((ys.getD x152863 tok0)).text), (@Value.int IntKind.i64 ((ys.getD x152863 tok0)).n)].getD x35083 (@Value.tuple (@Array.mk _ [])))))))) :: none :: none :: some ((boo false)) :: (nn21 [])), M0))) (true :: true :: false :: false :: true :: true :: (ff20 []))
  one := by kernel_rfl
  ok := formS_ok fun k ⟨h1, h2⟩ => by
    subst h2
    refine ⟨xs.length + 1, ?_⟩
    refine ((Sy.tsm_scan xs ys h1.1 h1.2).out (true :: true :: false :: false :: true :: (ff21 []))).mono fun ex F M hg => ?_
    obtain ⟨F0, ⟨hM, hg⟩, rfl⟩ := hg
    rcases hg with ⟨q1, rfl, rfl⟩ | ⟨q1, rfl, rfl⟩
    · exact .inl ⟨by rw [← anyN_idx, leI_t]; exact q1, by rw [hM]; rfl⟩
    · exact .inr ⟨by rw [← anyN_idx, leI_f, q1]; omega, by rw [hM]; rfl⟩
end Sy
theorem Sy.tsm_t (xs ys : List TokV) (hx : xs.length ≤ 17592186044416) : CallTo Try.prog 10 [kv xs, kv ys] M0 fun v _ => v = boo (eqI xs.length ys.length && !anyN (diffK xs ys) xs.length) :=
  toV [] [lp_tsm xs ys] 400 30 (.br .done (.br .done .done)) (let e1 := (eqI (((xs).length : Nat) : Int) (((ys).length : Nat) : Int)); let e2 := (@Value.tuple (@Array.mk _ [])); let e3 := (some (@AV.view (xs).length 3 (fun y0 => (fun y1 => (@AV.lit ([(@Value.int IntKind.i64 ((xs.getD y0 tok0)).kind), (@Value.string ((xs.getD y0 tok0)).text), (@Value.int IntKind.i64 ((xs.getD y0 tok0)).n)].getD y1 e2)))))); let e4 := (some (@AV.view (ys).length 3 (fun y0 => (fun y1 => (@AV.lit ([(@Value.int IntKind.i64 ((ys.getD y0 tok0)).kind), (@Value.string ((ys.getD y0 tok0)).text), (@Value.int IntKind.i64 ((ys.getD y0 tok0)).n)].getD y1 e2)))))); (.fork (!e1) (.leaf (boo false)) (.need (@isSo (@And ((e3 :: e4 :: (none :: none :: (some (boo false)) :: (some (int (0 : Int))) :: (nn20 []))) = (e3 :: e4 :: none :: none :: (some (boo false)) :: (some (int (0 : Int))) :: (nn20 []))) ((@Mem.mk 0 0 []) = M0))) (.need (@isSo (@And (@And (e1 = true) ((xs).length ≤ 17592186044416)) ((0 : Int) = (0 : Int)))) (.fork (@anyN (@diffK xs ys) (xs).length) (.leaf (boo false)) (.leaf (boo true))))))) (by kernel_rfl) (by
    refine fork_ok (fun h => ?_) (fun h => need_so ⟨rfl, rfl⟩ (need_so ⟨⟨by simpa using h, hx⟩, rfl⟩ (fork_ok (fun h2 => ?_) (fun h2 => ?_))))
    · simp only [Bool.not_eq_true'] at h
      rw [h]; exact rfl
    · rw [h2]; refine leaf_boo ?_; simp
    · rw [h2]; refine leaf_boo ?_; simpa using h)
theorem Sy.al7_scan (xs : List (List PartV)) (hx : SelsR xs) : LoopTo Try.prog (theBody Try.prog 8 3) (xs.length + 1) (alF xs 0) M0 fun ex F' M' => M' = M0 ∧ ((0 ≤ idxN (fun i => !rrightB (xs.getD i [])) xs.length ∧ ex = .ret ∧ F' = alF xs (idxN (fun i => !rrightB (xs.getD i [])) xs.length)) ∨ (idxN (fun i => !rrightB (xs.getD i [])) xs.length = -1 ∧ ex = .exit 0 ∧ F' = alF xs xs.length)) :=
  scanN xs.length (fun i => !rrightB (xs.getD i [])) (fun k => alF xs k) (fun k => alF xs k) M0 fun k n G h0 h1 c1 c2 c3 => by
    refine roundL [cRightR (xs.getD k.toNat [])] [] 400 30 8 3 Try.func8 rfl (by kernel_rfl) (true :: false :: true :: true :: (ff15 [])) (.br (.yes (.yes (.br .done .done))) .done) (let e1 := (xs.getD (k).toNat []); let e2 := (@AV.agg [(@AV.view (e1).length 6 (@pcell e1))]); let e3 := (some (@AV.view (xs).length 1 (fun y0 => (fun y1 => (@AV.view ((xs.getD y0 [])).length 6 (@pcell (xs.getD y0 []))))))); (.fork (!(leI (((xs).length : Nat) : Int) k)) (.need (@inR k (xs).length) (.need (@isSo (@And ((@HAppend.hAppend _ _ _ _ (@HAppend.hAppend _ _ _ _ [] [e2]) []) = [e2]) (@And ((e1).length ≤ 17592186044416) (∀ (p : PartV), p ∈ xs.getD k.toNat [] → PartOk p)))) (.fork (!(@rrightB e1)) (.leaf (Ex.ret, ((e3 :: none :: (some (boo false)) :: (some (int k)) :: (nn15 [])), (@Mem.mk 0 0 [])))) (.leaf (Ex.norm, ((e3 :: none :: (some (boo false)) :: (some (int (w64 (k + (1 : Int))))) :: (nn15 [])), (@Mem.mk 0 0 []))))))) (.leaf ((@Ex.exit 0), ((e3 :: none :: (some (boo false)) :: (some (int k)) :: (nn15 [])), (@Mem.mk 0 0 [])))))) (by kernel_rfl) ?_
    have hm : xs.length ≤ 17592186044416 := hx.1
    refine fork_ok (fun h => ?_) (fun h => ?_)
    · simp only [Bool.not_eq_true', Bool.not_eq_false', leI_t, leI_f, eqI_t, eqI_f, inR_t, inR_f, isSo_t, isSo_f] at h
      have hr : inR k xs.length = true := by rw [inR_t]; omega
      refine need_t hr (need_so ⟨rfl, hx.2 _ (getD_mem xs k _ h0 (by omega))⟩ (fork_ok (fun h2 => c2 (by omega) h2) (fun h2 => ?_)))
      rw [w64_in (r := k + 1) (by omega)]
      exact c1 (by omega) h2
    · simp only [Bool.not_eq_true', Bool.not_eq_false', leI_t, leI_f, eqI_t, eqI_f, inR_t, inR_f, isSo_t, isSo_f] at h
      exact c3 (by omega)
def anyU (xs : List (List PartV)) : Bool := anyN (fun i => !rrightB (xs.getD i [])) xs.length
namespace Sy
noncomputable abbrev lp_al7 (xs : List (List PartV)) : Lp Try.prog where
  f := 8
  key := 3
  S := formS (fun F M => slotI F 3) (fun k => alF xs k) (fun _ => M0) (fun k => SelsR xs ∧ k = 0) (fun k => .fork (anyU xs) (.leaf (.ret, (some ((@AV.view (xs).length 1 (fun x946680 => (fun x237755 => (@AV.view ((xs.getD x946680 [])).length 6 (@pcell (xs.getD x946680 []))))))) :: none :: some ((boo false)) :: (nn16 [])), M0)) (.leaf (.exit 0, (some ((@AV.view (xs).length 1 (fun x946680 => (fun x237755 => (@AV.view ((xs.getD x946680 [])).length 6 (@pcell (xs.getD x946680 []))))))) :: none :: some ((boo false)) :: (nn16 [])), M0))) (true :: false :: true :: true :: (ff15 []))
  one := by kernel_rfl
  ok := formS_ok fun k ⟨h1, h2⟩ => by
    subst h2
    refine ⟨xs.length + 1, ?_⟩
    refine ((Sy.al7_scan xs h1).out (true :: false :: true :: (ff16 []))).mono fun ex F M hg => ?_
    obtain ⟨F0, ⟨hM, hg⟩, rfl⟩ := hg
    rcases hg with ⟨q1, rfl, rfl⟩ | ⟨q1, rfl, rfl⟩
    · exact .inl ⟨by unfold anyU; rw [← anyN_idx, leI_t]; exact q1, by rw [hM]; rfl⟩
    · exact .inr ⟨by unfold anyU; rw [← anyN_idx, leI_f, q1]; omega, by rw [hM]; rfl⟩
end Sy
theorem Sy.al7_t (xs : List (List PartV)) (hx : SelsR xs) : CallTo Try.prog 8 [sview xs] M0 fun v _ => v = boo (!anyU xs && !leI xs.length 0) :=
  toV [] [lp_al7 xs] 400 30 (.br .done .done) (.need (@isSo (@And (((some (@AV.view (xs).length 1 (fun x936359 => (fun x525902 => (@AV.view ((xs.getD x936359 [])).length 6 (@pcell (xs.getD x936359 []))))))) :: (none :: (some (boo false)) :: (some (int (0 : Int))) :: (nn15 []))) = ((some (@AV.view (xs).length 1 (fun x614722 => (fun x422705 => (@AV.view ((xs.getD x614722 [])).length 6 (@pcell (xs.getD x614722 []))))))) :: none :: (some (boo false)) :: (some (int (0 : Int))) :: (nn15 []))) ((@Mem.mk 0 0 []) = M0))) (.need (@isSo (@And (@SelsR xs) ((0 : Int) = (0 : Int)))) (.fork (@anyU xs) (.leaf (boo false)) (.leaf (boo (!(leI (((xs).length : Nat) : Int) (0 : Int)))))))) (by kernel_rfl) (by
    refine need_so ⟨rfl, rfl⟩ (need_so ⟨hx, rfl⟩ (fork_ok (fun h2 => ?_) (fun h2 => ?_)))
    · rw [h2]; refine leaf_boo ?_; simp
    · rw [h2]; refine leaf_boo ?_; simp)
def sameQ (xs ys : List (List PartV)) : Bool := eqI xs.length ys.length && !anyN (diffQ xs ys) xs.length
def sameK (xs ys : List TokV) : Bool := eqI xs.length ys.length && !anyN (diffK xs ys) xs.length
def all7 (xs : List (List PartV)) : Bool := !anyU xs && !leI xs.length 0
noncomputable abbrev Sy.cSameQ (xs ys : List (List PartV)) : Con Try.prog := at1 12 [sview xs, sview ys] (boo (sameQ xs ys)) (SelsR xs) fun h => ⟨⟨⟨sview_free xs, sview_free ys, trivial⟩, trivial⟩, rsl_t xs ys h⟩
noncomputable abbrev Sy.cAll7 (xs : List (List PartV)) : Con Try.prog := at1 8 [sview xs] (boo (all7 xs)) (SelsR xs) fun h => ⟨⟨⟨sview_free xs, trivial⟩, trivial⟩, al7_t xs h⟩
theorem eqI_self (a : Int) : eqI a a = true := by rw [eqI_t]
theorem diff_no {g : Nat → Bool} {n : Nat} (h : ∀ i, g i = false) : anyN g n = false := (anyN_no g n).2 fun k _ => h k
theorem sameS_refl (xs : List ByteArray) : sameS xs xs = true := by
  unfold sameS
  rw [eqI_self, diff_no (fun i => by unfold diffS; rw [bytesEq_eq]; simp)]; rfl
theorem eqT_refl (t : TestV) : eqT t t = true := by unfold eqT; simp [bytesEq_eq]
theorem sameT_refl (xs : List TestV) : sameT xs xs = true := by
  unfold sameT
  rw [eqI_self, diff_no (fun i => by unfold diffT; rw [eqT_refl]; rfl)]; rfl
theorem sameP_refl (p : PartV) : sameP p p = true := by
  unfold sameP
  rw [eqI_self, eqI_self, sameS_refl, sameT_refl, bytesEq_eq, bytesEq_eq]; simp
theorem sameL_refl (xs : List PartV) : sameL xs xs = true := by
  unfold sameL
  rw [eqI_self, diff_no (fun i => by unfold diffP; rw [sameP_refl]; rfl)]; rfl
theorem sameQ_refl (xs : List (List PartV)) : sameQ xs xs = true := by
  unfold sameQ
  rw [eqI_self, diff_no (fun i => by unfold diffQ; rw [sameL_refl]; rfl)]; rfl
theorem sameK_refl (xs : List TokV) : sameK xs xs = true := by
  unfold sameK
  rw [eqI_self, diff_no (fun i => by unfold diffK eqK; rw [eqI_self, eqI_self, bytesEq_eq]; simp)]; rfl
theorem all7_eq (xs : List (List PartV)) : all7 xs = allR xs := by
  have e : anyU xs = anyQ unrightB xs := by
    rw [Bool.eq_iff_iff]
    unfold anyU
    rw [anyN_iff]
    unfold anyQ
    rw [List.any_eq_true]
    constructor
    · rintro ⟨k, hk, h⟩
      refine ⟨xs[k], List.getElem_mem hk, ?_⟩
      rw [List.getD_eq_getElem?_getD, List.getElem?_eq_getElem hk] at h
      unfold unrightB
      rw [right_eq]; exact h
    · rintro ⟨x, hx, h⟩
      obtain ⟨k, hk, rfl⟩ := List.getElem_of_mem hx
      refine ⟨k, hk, ?_⟩
      rw [List.getD_eq_getElem?_getD, List.getElem?_eq_getElem hk]
      unfold unrightB at h
      rw [right_eq] at h; exact h
  unfold all7 allR
  rw [e, Bool.and_comm]
  congr 1
  rw [Bool.eq_iff_iff, Bool.not_eq_true', Bool.not_eq_true', leI_f, eqI_f]
  omega
end Go.Proofs.Ytconlneohilnmaa
namespace Go.Proofs.Ytconlneohilnmaa
open Go Go.RowKit Pl Sy
noncomputable abbrev Sy.cCutA : Con Try.prog := atX 13 (fun args => match args with | [.lit (.string s)] => some s | _ => none) (fun s => [.lit (.string s)]) (fun s => kv (cutT s)) (fun s => limB s.size) fun s h => ⟨⟨⟨trivial, trivial⟩, kv_free _⟩, cut_v s h⟩
noncomputable abbrev Sy.cParseG : Con Try.prog := conG 9 (fun L => .tup [sview (parseV L), int (parseE L)]) (fun L => limC L ∧ ToksOk L) fun L h => ⟨⟨sview_free _, trivial, trivial⟩, parse_v L h.1 h.2⟩
end Go.Proofs.Ytconlneohilnmaa
namespace Go.Proofs.Ytconlneohilnmaa
open Go Go.RowKit Pl Sy
noncomputable abbrev Sy.cNoPrint : Con Try.prog := atX 61 (fun args => match args with | [.lit (.int .i64 a)] => some a | _ => none) (fun a => [int a]) (fun _ => .lit (.string ⟨⟨[]⟩⟩)) (fun _ => False) fun a h => h.elim
namespace Sy
abbrev h34F (s : ByteArray) (k : Int) : Fr := (some ((@AV.lit (@Value.string s))) :: none :: some ((boo false)) :: some (int k) :: (nn10 []))
end Sy
noncomputable def q34 (s : ByteArray) (i : Nat) : Bool := eqI (byteAt s i) 34
noncomputable def has34 (s : ByteArray) : Bool := anyN (q34 s) s.size
theorem Sy.h34_scan (s : ByteArray) (hs : limT s.size) : LoopTo Try.prog (theBody Try.prog 60 3) (s.size + 1) (h34F s 0) M0 fun ex F' M' => M' = M0 ∧ ((0 ≤ idxN (q34 s) s.size ∧ ex = .ret ∧ ∃ k, F' = (some ((@AV.lit (@Value.string s))) :: none :: some (boo true) :: some (int k) :: (nn10 []))) ∨ (idxN (q34 s) s.size = -1 ∧ ex = .exit 0 ∧ ∃ k, F' = h34F s k)) := by
  have hs' := hs
  unfold limT at hs
  refine (scanN s.size (q34 s) (fun k => h34F s k) (fun k => (some ((@AV.lit (@Value.string s))) :: none :: some (boo true) :: some (int k) :: (nn10 []))) M0 fun k n G h0 h1 c1 c2 c3 => ?_).mono fun ex F' M' hg => ?_
  · refine roundL [] [] 400 30 60 3 Try.func60 rfl (by kernel_rfl) (true :: false :: true :: true :: (ff10 [])) (.br (.yes (.br .done .done)) .done) (.fork (!(leI (((@ByteArray.size s) : Nat) : Int) k)) (.need (@inR k (@ByteArray.size s)) (.fork (eqI (@byteAt s (k).toNat) (34 : Int)) (.leaf (Ex.ret, (((some (@AV.lit (@Value.string s))) :: none :: (some (boo true)) :: (some (int k)) :: (nn10 [])), (@Mem.mk 0 0 [])))) (.leaf (Ex.norm, (((some (@AV.lit (@Value.string s))) :: none :: (some (boo false)) :: (some (int (w64 (k + (1 : Int))))) :: (nn10 [])), (@Mem.mk 0 0 [])))))) (.leaf ((@Ex.exit 0), (((some (@AV.lit (@Value.string s))) :: none :: (some (boo false)) :: (some (int k)) :: (nn10 [])), (@Mem.mk 0 0 []))))) (by kernel_rfl) ?_
    unfold q34 at c1 c2
    refine fork_ok (fun h => ?_) (fun h => ?_)
    · simp only [Bool.not_eq_true', Bool.not_eq_false', leI_t, leI_f, eqI_t, eqI_f, inR_t, inR_f, isSo_t, isSo_f] at h
      have hr : inR k s.size = true := by rw [inR_t]; omega
      refine need_t hr (fork_ok (fun h2 => c2 (by omega) h2) (fun h2 => ?_))
      rw [w64_in (r := k + 1) (by omega)]
      exact c1 (by omega) h2
    · simp only [Bool.not_eq_true', Bool.not_eq_false', leI_t, leI_f, eqI_t, eqI_f, inR_t, inR_f, isSo_t, isSo_f] at h
      exact c3 (by omega)
  · obtain ⟨hM, hg⟩ := hg
    refine ⟨hM, ?_⟩
    rcases hg with ⟨q1, q2, q3⟩ | ⟨q1, q2, q3⟩
    · exact .inl ⟨q1, q2, _, q3⟩
    · exact .inr ⟨q1, q2, _, q3⟩
namespace Sy
noncomputable abbrev lp_h34 (s : ByteArray) : Lp Try.prog where
  f := 60
  key := 3
  S := formS (fun F M => slotI F 3) (fun k => h34F s k) (fun _ => M0) (fun k => limT s.size ∧ k = 0) (fun k => .fork (has34 s) (.leaf (.ret, (some ((@AV.lit (@Value.string s))) :: none :: some (boo true) :: (nn11 [])), M0)) (.leaf (.exit 0, (some ((@AV.lit (@Value.string s))) :: none :: some (boo false) :: (nn11 [])), M0))) (true :: false :: true :: true :: (ff10 []))
  one := by kernel_rfl
  ok := formS_ok fun k ⟨h1, h2⟩ => by
    subst h2
    refine ⟨s.size + 1, ?_⟩
    refine ((Sy.h34_scan s h1).out (true :: false :: true :: (ff11 []))).mono fun ex F M hg => ?_
    obtain ⟨F0, ⟨hM, hg⟩, rfl⟩ := hg
    rcases hg with ⟨q1, rfl, k, rfl⟩ | ⟨q1, rfl, k, rfl⟩
    · exact .inl ⟨by unfold has34; rw [← anyN_idx, leI_t]; exact q1, by rw [hM]; rfl⟩
    · exact .inr ⟨by unfold has34; rw [← anyN_idx, leI_f, q1]; omega, by rw [hM]; rfl⟩
end Sy
theorem Sy.h34_t (s : ByteArray) (h : limT s.size) : CallTo Try.prog 60 [.lit (.string s)] M0 fun v _ => v = boo (has34 s) :=
  toV [] [lp_h34 s] 400 30 (.br .done .done) (.need (@isSo (@And (((some (@AV.lit (@Value.string s))) :: (none :: (some (boo false)) :: (some (int (0 : Int))) :: (nn10 []))) = ((some (@AV.lit (@Value.string s))) :: none :: (some (boo false)) :: (some (int (0 : Int))) :: (nn10 []))) ((@Mem.mk 0 0 []) = M0))) (.need (@isSo (@And ((@ByteArray.size s) ≤ 1000000) ((0 : Int) = (0 : Int)))) (.fork (@has34 s) (.leaf (boo true)) (.leaf (boo false))))) (by kernel_rfl) (need_so ⟨rfl, rfl⟩ (need_so ⟨h, rfl⟩ (fork_ok (fun q => by rw [q]; exact rfl) (fun q => by rw [q]; exact rfl))))
noncomputable abbrev Sy.cH34 : Con Try.prog := atX 60 (fun args => match args with | [.lit (.string s)] => some s | _ => none) (fun s => [.lit (.string s)]) (fun s => boo (has34 s)) (fun s => limT s.size) fun s h => ⟨⟨⟨trivial, trivial⟩, trivial⟩, h34_t s h⟩
end Go.Proofs.Ytconlneohilnmaa
namespace Go.Proofs.Ytconlneohilnmaa
open Go Go.RowKit Pl Sy
abbrev BA (L : List UInt8) : ByteArray := ⟨⟨L⟩⟩
theorem ba_size (L : List UInt8) : (BA L).size = L.length := rfl
theorem by_get (L : List UInt8) (k : Nat) : byteAt (BA L) k = match L[k]? with | some c => (c.toNat : Int) | none => 0 := by
  unfold byteAt
  rw [nth_eq]
  cases h : L[k]? with
  | none => rfl
  | some c => rfl
theorem by_at (P : List UInt8) (c : UInt8) (Q : List UInt8) : byteAt (BA (P ++ c :: Q)) P.length = c.toNat := by
  rw [by_get, List.getElem?_append_right (Nat.le_refl _)]
  simp
theorem up_at (g : Int → Bool) : ∀ (X P Q : List UInt8), (∀ x ∈ X, g x.toNat = true) → (∀ q ∈ Q.head?, g q.toNat = false) → upI g (BA (P ++ (X ++ Q))) P.length = ((P.length + X.length : Nat) : Int)
  | [], P, Q, hX, hQ => by
    rw [upI_step _ _ _ (by omega), if_neg]
    · simp
    · rintro ⟨h1, h2⟩
      cases Q with
      | nil => rw [ba_size] at h1; simp at h1
      | cons q Q =>
        have := hQ q rfl
        rw [List.nil_append, show ((P.length : Nat) : Int).toNat = P.length by omega, by_at] at h2
        rw [this] at h2
        cases h2
  | x :: X, P, Q, hX, hQ => by
    rw [upI_step _ _ _ (by omega), if_pos]
    · have := up_at g X (P ++ [x]) Q (fun y hy => hX y (by simp [hy])) hQ
      rw [show P ++ [x] ++ (X ++ Q) = P ++ (x :: X ++ Q) by simp] at this
      rw [show ((P.length : Nat) : Int) + 1 = ((P ++ [x]).length : Nat) by simp, this]
      simp only [List.length_append, List.length_cons, List.length_nil]
      omega
    · refine ⟨?_, ?_⟩
      · rw [ba_size]
        simp only [List.length_append, List.length_cons]
        omega
      · rw [show ((P.length : Nat) : Int).toNat = P.length by omega, List.cons_append, by_at]
        exact hX x (by simp)
theorem span_at (g : Int → Bool) (X P Q : List UInt8) (hX : ∀ x ∈ X, g x.toNat = true) (hQ : ∀ q ∈ Q.head?, g q.toNat = false) : spanI g (BA (P ++ (X ++ Q))) P.length = X.length := by
  unfold spanI
  rw [up_at g X P Q hX hQ]
  omega
theorem ex_at (P X Q : List UInt8) : (BA (P ++ (X ++ Q))).extract P.length (P.length + X.length) = BA X := by
  refine ByteArray.ext ?_
  rw [ByteArray.data_extract]
  refine Array.ext' ?_
  rw [Array.toList_extract]
  show List.extract (P ++ (X ++ Q)) P.length (P.length + X.length) = X
  rw [List.extract_eq_take_drop]
  simp
theorem has_first {s : ByteArray} {x : UInt8} {t : List UInt8} {a : Int} (h0 : 0 ≤ a) (h : hasI s (BA (x :: t)) a = true) : byteAt s a.toNat = x.toNat := by
  unfold hasI at h
  rw [Bool.and_eq_true, bytesEq_eq, decide_eq_true_eq, ByteArray.data_extract, Array.toList_extract] at h
  have h2 := h.2
  have h1 : List.extract s.data.toList a.toNat (a + (BA (x :: t)).size).toNat = x :: t := h2
  rw [List.extract_eq_take_drop] at h1
  have hl := h.1
  rw [leI_t, ba_size] at hl
  simp only [List.length_cons] at hl
  have hlt : a.toNat < s.data.toList.length := by
    have : s.data.toList.length = s.size := by simp
    omega
  have h3 : s.data.toList[a.toNat]? = some x := by
    have := congrArg (fun l => l[0]?) h1
    simp only [List.getElem?_cons_zero] at this
    rw [List.getElem?_take, if_pos (by rw [ba_size]; simp only [List.length_cons]; omega), List.getElem?_drop, Nat.add_zero] at this
    exact this
  unfold byteAt
  rw [nth_eq, h3]
  rfl
end Go.Proofs.Ytconlneohilnmaa
namespace Go.Proofs.Ytconlneohilnmaa
open Go Go.RowKit Pl Sy
def txtL (t : TokV) : List UInt8 := if t.kind = 4 then 35 :: t.text.data.toList else if t.kind = 5 then 34 :: (t.text.data.toList ++ [34]) else if t.kind = 10 then [58] else if t.kind = 12 then [44] else if t.kind = 15 then [91] else if t.kind = 16 then [93] else if t.kind = 20 then [32] else t.text.data.toList
inductive GoodT : TokV → Prop
  | id (x : ByteArray) : nameL x.data.toList = true → GoodT ⟨1, x, 0⟩
  | hash (x : ByteArray) : nameL x.data.toList = true → GoodT ⟨4, x, 0⟩
  | str (x : ByteArray) : textL x.data.toList = true → GoodT ⟨5, x, 0⟩
  | sg (k : Int) (c : UInt8) : (k = 10 ∧ c = 58) ∨ (k = 12 ∧ c = 44) ∨ (k = 15 ∧ c = 91) ∨ (k = 16 ∧ c = 93) → GoodT ⟨k, ⟨⟨[]⟩⟩, 0⟩
  | sp : GoodT ⟨20, ⟨⟨[]⟩⟩, 0⟩
  | dl (c : UInt8) : c = 46 ∨ c = 61 ∨ c = 62 ∨ c = 43 ∨ c = 126 ∨ c = 42 → GoodT ⟨19, ⟨⟨[c]⟩⟩, 0⟩
def FolT (t : TokV) (f : Int) : Prop := (t.kind = 1 → goesB f = false ∧ f ≠ 40) ∧ (t.kind = 4 → goesB f = false) ∧ (t.kind = 20 → blankB f = false) ∧ (t.kind = 19 → t.text.data.toList = [46] → digB f = false) ∧ (t.kind = 19 → t.text.data.toList = [43] → digB f = false ∧ f ≠ 46)
def FolQ (t : TokV) (Q : List UInt8) : Prop := ∀ q ∈ Q.head?, FolT t q.toNat
theorem toNat_P (P : List UInt8) : ((P.length : Nat) : Int).toNat = P.length := by omega
theorem dig_no (P : List UInt8) (c : UInt8) (Q : List UInt8) (h : digB c.toNat = false) : spanI digB (BA (P ++ c :: Q)) P.length = 0 := by
  have := span_at digB [] P (c :: Q) (fun x hx => by cases hx) (fun q hq => by simp at hq; subst hq; exact h)
  rw [List.nil_append] at this
  exact this
theorem dig_end (P Q : List UInt8) (h : ∀ q ∈ Q.head?, digB q.toNat = false) : spanI digB (BA (P ++ Q)) P.length = 0 := by
  have := span_at digB [] P Q (fun x hx => by cases hx) h
  rw [List.nil_append] at this
  exact this
theorem num_no (P : List UInt8) (c : UInt8) (R : List UInt8) (h1 : digB c.toNat = false) (h2 : c = 46 → ∀ q ∈ R.head?, digB q.toNat = false) (h3 : c = 43 ∨ c = 45 → ∀ q ∈ R.head?, digB q.toNat = false ∧ (q.toNat : Int) ≠ 46) :
    numI (BA (P ++ c :: R)) P.length = 0 := by
  have eP : P ++ c :: R = (P ++ [c]) ++ R := by simp
  have lP : ((P.length : Nat) : Int) + 1 = ((P ++ [c]).length : Nat) := by simp
  have hsz : (BA (P ++ c :: R)).size = P.length + R.length + 1 := by rw [ba_size]; simp; omega
  have d0 := dig_no P c R h1
  have cn : ∀ n : Nat, n < 256 → ((c.toNat : Int) = n) → c = UInt8.ofNat n := fun n hn h => by
    have : c.toNat = n := by omega
    rw [← this, UInt8.ofNat_toNat]
  unfold numI
  rw [toNat_P, by_at]
  by_cases hs : eqI c.toNat 43 = true ∨ eqI c.toNat 45 = true
  · have hc : c = 43 ∨ c = 45 := by
      rcases hs with h | h
      · rw [eqI_t] at h; exact .inl (cn 43 (by decide) h)
      · rw [eqI_t] at h; exact .inr (cn 45 (by decide) h)
    rw [if_pos (by
      rw [Bool.and_eq_true, Bool.or_eq_true, Bool.not_eq_true', leI_f]
      exact ⟨by omega, hs⟩)]
    have d1 : spanI digB (BA (P ++ c :: R)) (P.length + 1 : Int) = 0 := by
      rw [lP, eP]
      exact dig_end _ _ fun q hq => (h3 hc q hq).1
    unfold numB
    rw [d1, if_neg, if_pos (by decide)]
    rw [Int.add_zero]
    intro hh
    simp only [Bool.and_eq_true, Bool.not_eq_true', leI_f, eqI_t] at hh
    obtain ⟨q1, q2, _⟩ := hh
    cases R with
    | nil => simp only [List.length_nil] at hsz; omega
    | cons r R =>
      have := (h3 hc r rfl).2
      rw [lP, eP, show (((P ++ [c]).length : Nat) : Int).toNat = (P ++ [c]).length by omega, by_at] at q2
      exact this q2
  · rw [if_neg (by
      rw [Bool.and_eq_true, Bool.or_eq_true]
      exact fun x => hs x.2)]
    unfold numB
    rw [d0, if_neg, if_pos (by decide)]
    intro hh
    rw [Int.add_zero, toNat_P, by_at] at hh
    simp only [Bool.and_eq_true, Bool.not_eq_true', leI_f, eqI_t] at hh
    obtain ⟨q1, q2, q3⟩ := hh
    have hc : c = 46 := cn 46 (by decide) q2
    have d1 : spanI digB (BA (P ++ c :: R)) (P.length + 1 : Int) = 0 := by
      rw [lP, eP]
      exact dig_end _ _ fun q hq => h2 hc q hq
    rw [d1] at q3
    omega
theorem one_hash (P : List UInt8) (c : UInt8) (R : List UInt8) (hc : c ≠ 47) (hb : blankB c.toNat = false) (hq : (c.toNat : Int) ≠ 34 ∧ (c.toNat : Int) ≠ 39) (hn : numI (BA (P ++ c :: R)) P.length = 0) :
    oneT (BA (P ++ c :: R)) P.length = hashT (BA (P ++ c :: R)) P.length := by
  unfold oneT
  rw [if_neg, if_neg, if_neg, if_neg]
  · rw [hn]; decide
  · rw [toNat_P, by_at, Bool.or_eq_true, eqI_t, eqI_t]; omega
  · rw [toNat_P, by_at, hb]; simp
  · intro hh
    have := has_first (x := 47) (t := [42]) (by omega) hh
    rw [toNat_P, by_at] at this
    apply hc
    have e47 : ((47 : UInt8).toNat : Int) = 47 := rfl
    have h2 : c.toNat = 47 := by omega
    rw [← UInt8.ofNat_toNat (x := c), h2]; rfl
theorem hash_at (P : List UInt8) (c : UInt8) (R : List UInt8) (hc : (c.toNat : Int) ≠ 35) (h64 : (c.toNat : Int) ≠ 64) : hashT (BA (P ++ c :: R)) P.length = nameT (BA (P ++ c :: R)) P.length := by
  unfold hashT
  rw [if_neg]
  · unfold atT
    rw [if_neg]
    rw [toNat_P, by_at, Bool.and_eq_true, eqI_t]
    exact fun x => h64 x.1
  · rw [toNat_P, by_at, Bool.and_eq_true, eqI_t]
    exact fun x => hc x.1
end Go.Proofs.Ytconlneohilnmaa
namespace Go.Proofs.Ytconlneohilnmaa
open Go Go.RowKit Pl Sy
theorem digB_f (v : Int) : digB v = false ↔ v < 48 ∨ 57 < v := by
  unfold digB
  rw [Bool.and_eq_false_iff, leI_f, leI_f]; omega
theorem blankB_f (v : Int) : blankB v = false ↔ v ≠ 32 ∧ v ≠ 9 ∧ v ≠ 10 ∧ v ≠ 12 ∧ v ≠ 13 := by
  unfold blankB
  simp only [Bool.or_eq_false_iff, eqI_f]
theorem begB_t {v : Int} (h : begB v = true) : (97 ≤ v ∧ v ≤ 122) ∨ (65 ≤ v ∧ v ≤ 90) ∨ v = 95 ∨ 128 ≤ v := by
  unfold begB at h
  simp only [Bool.or_eq_true, Bool.and_eq_true, decide_eq_true_eq] at h
  omega
theorem begB_f {v : Int} (h : ¬ ((97 ≤ v ∧ v ≤ 122) ∨ (65 ≤ v ∧ v ≤ 90) ∨ v = 95 ∨ 128 ≤ v)) : begB v = false := by
  cases hb : begB v with
  | false => rfl
  | true => exact absurd (begB_t hb) h
theorem goesB_f {v : Int} (h : ¬ ((97 ≤ v ∧ v ≤ 122) ∨ (65 ≤ v ∧ v ≤ 90) ∨ v = 95 ∨ 128 ≤ v)) (h2 : ¬ (48 ≤ v ∧ v ≤ 57)) (h3 : v ≠ 45) : goesB v = false := by
  unfold goesB
  rw [begB_f h]
  simp only [Bool.false_or, Bool.or_eq_false_iff, Bool.and_eq_false_iff, decide_eq_false_iff_not]
  omega
theorem name_first {L : List UInt8} (h : nameL L = true) : ∃ c X, L = c :: X ∧ (∀ x ∈ L, goesB x.toNat = true) ∧ (begB c.toNat = true ∨ ((c.toNat : Int) = 45 ∧ ∃ d Y, X = d :: Y ∧ (begB d.toNat = true ∨ (d.toNat : Int) = 45))) := by
  unfold nameL at h
  simp only [Bool.and_eq_true, decide_eq_true_eq] at h
  obtain ⟨⟨h1, h2⟩, _⟩ := h
  have h3 : ∀ x ∈ L, goesB x.toNat = true := List.all_eq_true.1 h2
  match L, h1, h3 with
  | [c], h1, h3 =>
    simp only [startsL, Bool.and_eq_true] at h1
    exact ⟨c, [], rfl, h3, .inl h1.2⟩
  | c :: d :: Y, h1, h3 =>
    refine ⟨c, d :: Y, rfl, h3, ?_⟩
    simp only [startsL] at h1
    split at h1
    · rename_i e
      rw [Bool.or_eq_true, decide_eq_true_eq] at h1
      exact .inr ⟨e, d, Y, rfl, h1⟩
    · exact .inl h1
theorem starts_at (P : List UInt8) (c : UInt8) (X Q : List UInt8) (h : begB c.toNat = true ∨ ((c.toNat : Int) = 45 ∧ ∃ d Y, X = d :: Y ∧ (begB d.toNat = true ∨ (d.toNat : Int) = 45))) : startsI (BA (P ++ (c :: X ++ Q))) P.length = true := by
  have hsz : (BA (P ++ (c :: X ++ Q))).size = P.length + X.length + Q.length + 1 := by rw [ba_size]; simp; omega
  unfold startsI
  rw [toNat_P, List.cons_append, by_at, Bool.and_eq_true, Bool.not_eq_true', leI_f]
  rw [List.cons_append] at hsz
  refine ⟨by omega, ?_⟩
  rcases h with h | ⟨h, d, Y, rfl, hd⟩
  · have := begB_t h
    rw [if_neg (by rw [eqI_t]; omega)]
    exact h
  · rw [if_pos (by rw [eqI_t]; exact h), Bool.and_eq_true, Bool.not_eq_true', leI_f]
    simp only [List.length_cons] at hsz
    have e : byteAt (BA (P ++ c :: (d :: Y ++ Q))) (((P.length : Nat) : Int) + 1).toNat = d.toNat := by
      have := by_at (P ++ [c]) d (Y ++ Q)
      rw [show P ++ [c] ++ d :: (Y ++ Q) = P ++ c :: (d :: Y ++ Q) by simp] at this
      rw [show (((P.length : Nat) : Int) + 1).toNat = (P ++ [c]).length by simp]
      exact this
    rw [e]
    refine ⟨by omega, ?_⟩
    rw [Bool.or_eq_true, eqI_t]
    exact hd
theorem starts_no (P : List UInt8) (c : UInt8) (R : List UInt8) (h : begB c.toNat = false) (h2 : (c.toNat : Int) ≠ 45) : startsI (BA (P ++ c :: R)) P.length = false := by
  unfold startsI
  rw [toNat_P, by_at, if_neg (by rw [eqI_t]; exact h2), h, Bool.and_false]
theorem tok_id (P : List UInt8) (x : ByteArray) (hx : nameL x.data.toList = true) (Q : List UInt8) (hQ : ∀ q ∈ Q.head?, goesB q.toNat = false ∧ (q.toNat : Int) ≠ 40) :
    oneT (BA (P ++ (x.data.toList ++ Q))) P.length = (⟨1, x, 0⟩, ((P.length + x.data.toList.length : Nat) : Int)) := by
  obtain ⟨c, X, hL, hg, hc⟩ := name_first hx
  have hst : startsI (BA (P ++ (x.data.toList ++ Q))) P.length = true := by rw [hL]; exact starts_at P c X Q hc
  have hsp := span_at goesB x.data.toList P Q hg (fun q hq => (hQ q hq).1)
  have hv : ((97 ≤ (c.toNat : Int) ∧ (c.toNat : Int) ≤ 122) ∨ (65 ≤ (c.toNat : Int) ∧ (c.toNat : Int) ≤ 90) ∨ (c.toNat : Int) = 95 ∨ 128 ≤ (c.toNat : Int)) ∨ (c.toNat : Int) = 45 := by
    rcases hc with h | ⟨h, _⟩
    · exact .inl (begB_t h)
    · exact .inr h
  have e0 : P ++ (x.data.toList ++ Q) = P ++ c :: (X ++ Q) := by rw [hL]; rfl
  have hnum : numI (BA (P ++ c :: (X ++ Q))) P.length = 0 := by
    refine num_no P c (X ++ Q) (by rw [digB_f]; omega) (fun e => ?_) (fun e => ?_)
    · exfalso; subst e
      have : ((46 : UInt8).toNat : Int) = 46 := rfl
      omega
    · rcases hc with h | ⟨h, d, Y, rfl, hd⟩
      · have := begB_t h
        exfalso
        rcases e with rfl | rfl
        · have : ((43 : UInt8).toNat : Int) = 43 := rfl
          omega
        · have : ((45 : UInt8).toNat : Int) = 45 := rfl
          omega
      · intro q hq
        simp at hq; subst hq
        rcases hd with hd | hd
        · have := begB_t hd
          exact ⟨by rw [digB_f]; omega, by omega⟩
        · exact ⟨by rw [digB_f]; omega, by omega⟩
  rw [e0] at hst hsp ⊢
  rw [one_hash P c (X ++ Q) (fun e => by subst e; have : ((47 : UInt8).toNat : Int) = 47 := rfl; omega) (by rw [blankB_f]; omega) (by omega) hnum, hash_at P c (X ++ Q) (by omega) (by omega)]
  unfold nameT
  rw [if_pos hst, hsp, if_neg, ← e0]
  · rw [toNat_P, show (((P.length : Nat) : Int) + (x.data.toList.length : Nat)).toNat = P.length + x.data.toList.length by omega, ex_at]
    rfl
  · intro hh
    have := has_first (x := 40) (t := []) (by omega) hh
    rw [show (((P.length : Nat) : Int) + (x.data.toList.length : Nat)).toNat = P.length + x.data.toList.length by omega, ← e0] at this
    cases Q with
    | nil =>
      rw [by_get, List.append_nil, List.getElem?_eq_none (by simp)] at this
      cases this
    | cons q Q =>
      have e1 := by_at (P ++ x.data.toList) q Q
      rw [List.append_assoc, List.length_append] at e1
      rw [e1] at this
      exact (hQ q rfl).2 this
theorem tn (n : Nat) : ((n : Nat) : Int).toNat = n := by omega
theorem tn2 (a b : Nat) : (((a : Nat) : Int) + ((b : Nat) : Int)).toNat = a + b := by omega
theorem tok_hash (P : List UInt8) (x : ByteArray) (hx : nameL x.data.toList = true) (Q : List UInt8) (hQ : ∀ q ∈ Q.head?, goesB q.toNat = false) :
    oneT (BA (P ++ (35 :: x.data.toList ++ Q))) P.length = (⟨4, x, 0⟩, ((P.length + (35 :: x.data.toList).length : Nat) : Int)) := by
  obtain ⟨c, X, hL, hg, hc⟩ := name_first hx
  have hnum : numI (BA (P ++ (35 :: x.data.toList ++ Q))) P.length = 0 := num_no P 35 _ (by decide) (fun e => by cases e) (fun e => by rcases e with e | e <;> cases e)
  have hb : byteAt (BA (P ++ (35 :: x.data.toList ++ Q))) P.length = 35 := by
    rw [List.cons_append, by_at]; rfl
  have hh : oneT (BA (P ++ (35 :: x.data.toList ++ Q))) P.length = hashT (BA (P ++ (35 :: x.data.toList ++ Q))) P.length := by
    rw [List.cons_append] at hnum ⊢
    exact one_hash P 35 _ (by decide) (by decide) (by decide) hnum
  rw [hh]
  obtain ⟨P1, hP1⟩ : ∃ P1 : List UInt8, P1 = P ++ [35] := ⟨_, rfl⟩
  have eP : P ++ (35 :: x.data.toList ++ Q) = P1 ++ (x.data.toList ++ Q) := by rw [hP1]; simp
  have lP : P1.length = P.length + 1 := by rw [hP1]; simp
  have lP2 : ((P.length : Nat) : Int) + 1 = (P1.length : Nat) := by omega
  have hsp := span_at goesB x.data.toList P1 Q hg hQ
  rw [eP] at hb ⊢
  unfold hashT
  rw [lP2, hsp, tn, hb, if_pos (by rw [Bool.and_eq_true, Bool.not_eq_true', leI_f, hL]; simp only [List.length_cons]; exact ⟨by decide, by omega⟩), tn, tn2, ex_at]
  simp only [List.length_cons]
  rw [show ((P.length + (x.data.toList.length + 1) : Nat) : Int) = ((P1.length : Nat) : Int) + (x.data.toList.length : Nat) by omega]
theorem tok_str (P : List UInt8) (x : ByteArray) (hx : textL x.data.toList = true) (Q : List UInt8) :
    oneT (BA (P ++ (34 :: (x.data.toList ++ [34]) ++ Q))) P.length = (⟨5, x, 0⟩, ((P.length + (34 :: (x.data.toList ++ [34])).length : Nat) : Int)) := by
  have hw : ∀ y ∈ x.data.toList, quoB 34 y.toNat = true := fun y hy => by
    unfold textL at hx
    simp only [Bool.and_eq_true, decide_eq_true_eq] at hx
    have := List.all_eq_true.1 hx.1 y hy
    unfold wordB at this
    simp only [Bool.and_eq_true, decide_eq_true_eq, Bool.not_eq_true', decide_eq_false_iff_not] at this
    unfold quoB
    rw [Bool.and_eq_true, Bool.not_eq_true', Bool.not_eq_true', eqI_f, eqI_f]
    omega
  have hb : byteAt (BA (P ++ (34 :: (x.data.toList ++ [34]) ++ Q))) P.length = 34 := by
    rw [List.cons_append, by_at]; rfl
  obtain ⟨P1, hP1⟩ : ∃ P1 : List UInt8, P1 = P ++ [34] := ⟨_, rfl⟩
  have eP : P ++ (34 :: (x.data.toList ++ [34]) ++ Q) = P1 ++ (x.data.toList ++ (34 :: Q)) := by rw [hP1]; simp
  have lP : P1.length = P.length + 1 := by rw [hP1]; simp
  have lP2 : ((P.length : Nat) : Int) + 1 = (P1.length : Nat) := by omega
  have e34 : ((P.length + (34 :: (x.data.toList ++ [34])).length : Nat) : Int) = ((P1.length + x.data.toList.length : Nat) : Int) + 1 := by
    simp only [List.length_append, List.length_cons, List.length_nil]
    omega
  rw [e34]
  rw [eP] at hb ⊢
  have hz : quoZ (BA (P1 ++ (x.data.toList ++ 34 :: Q))) P.length = ((P1.length + x.data.toList.length : Nat) : Int) := by
    unfold quoZ
    rw [tn, hb, lP2]
    exact up_at (quoB 34) x.data.toList P1 (34 :: Q) hw (fun q hq => by simp at hq; subst hq; decide)
  have hbz : byteAt (BA (P1 ++ (x.data.toList ++ 34 :: Q))) (P1.length + x.data.toList.length) = 34 := by
    have := by_at (P1 ++ x.data.toList) 34 Q
    rw [List.length_append, List.append_assoc] at this
    exact this
  have hsz : (BA (P1 ++ (x.data.toList ++ 34 :: Q))).size = P1.length + x.data.toList.length + 1 + Q.length := by
    rw [ba_size]
    simp only [List.length_append, List.length_cons]
    omega
  have one : oneT (BA (P1 ++ (x.data.toList ++ 34 :: Q))) P.length = (⟨quoK (BA (P1 ++ (x.data.toList ++ 34 :: Q))) P.length, quoX (BA (P1 ++ (x.data.toList ++ 34 :: Q))) P.length, 0⟩, quoE (BA (P1 ++ (x.data.toList ++ 34 :: Q))) P.length) := by
    unfold oneT
    rw [if_neg, if_neg, if_pos]
    · rw [tn, hb]; decide
    · rw [tn, hb]; decide
    · intro hh
      have := has_first (x := 47) (t := [42]) (by omega) hh
      rw [tn, hb] at this
      cases this
  rw [one]
  have n1 : ¬ eqI ((P1.length + x.data.toList.length : Nat) : Int) (BA (P1 ++ (x.data.toList ++ 34 :: Q))).size = true := by rw [eqI_t]; omega
  unfold quoK quoX quoE
  rw [hz, tn, hbz, if_neg n1, if_neg n1, if_neg (by decide), if_neg (by decide), lP2, tn, ex_at]
theorem tok_sg (P : List UInt8) (k : Int) (c : UInt8) (h : (k = 10 ∧ c = 58) ∨ (k = 12 ∧ c = 44) ∨ (k = 15 ∧ c = 91) ∨ (k = 16 ∧ c = 93)) (Q : List UInt8) :
    oneT (BA (P ++ c :: Q)) P.length = (⟨k, ⟨⟨[]⟩⟩, 0⟩, ((P.length + 1 : Nat) : Int)) := by
  have hn : numI (BA (P ++ c :: Q)) P.length = 0 := by
    refine num_no P c Q ?_ ?_ ?_
    · rcases h with ⟨_, rfl⟩ | ⟨_, rfl⟩ | ⟨_, rfl⟩ | ⟨_, rfl⟩ <;> decide
    · intro e; rcases h with ⟨_, rfl⟩ | ⟨_, rfl⟩ | ⟨_, rfl⟩ | ⟨_, rfl⟩ <;> cases e
    · intro e; rcases h with ⟨_, rfl⟩ | ⟨_, rfl⟩ | ⟨_, rfl⟩ | ⟨_, rfl⟩ <;> rcases e with e | e <;> cases e
  have hs : startsI (BA (P ++ c :: Q)) P.length = false := by
    refine starts_no P c Q ?_ ?_ <;> rcases h with ⟨_, rfl⟩ | ⟨_, rfl⟩ | ⟨_, rfl⟩ | ⟨_, rfl⟩ <;> decide
  have hk : sgnI c.toNat = k := by rcases h with ⟨rfl, rfl⟩ | ⟨rfl, rfl⟩ | ⟨rfl, rfl⟩ | ⟨rfl, rfl⟩ <;> decide
  have hk0 : (!leI k 0) = true := by rcases h with ⟨rfl, rfl⟩ | ⟨rfl, rfl⟩ | ⟨rfl, rfl⟩ | ⟨rfl, rfl⟩ <;> decide
  rw [one_hash P c Q ?_ ?_ ?_ hn, hash_at P c Q ?_ ?_]
  · unfold nameT
    rw [hs, if_neg (by simp), tn, by_at, hk, if_pos hk0]
    rfl
  all_goals (rcases h with ⟨_, rfl⟩ | ⟨_, rfl⟩ | ⟨_, rfl⟩ | ⟨_, rfl⟩ <;> decide)
theorem tok_dl (P : List UInt8) (c : UInt8) (h : c = 46 ∨ c = 61 ∨ c = 62 ∨ c = 43 ∨ c = 126 ∨ c = 42) (Q : List UInt8) (h1 : c = 46 → ∀ q ∈ Q.head?, digB q.toNat = false) (h2 : c = 43 → ∀ q ∈ Q.head?, digB q.toNat = false ∧ (q.toNat : Int) ≠ 46) :
    oneT (BA (P ++ c :: Q)) P.length = (⟨19, ⟨⟨[c]⟩⟩, 0⟩, ((P.length + 1 : Nat) : Int)) := by
  have hn : numI (BA (P ++ c :: Q)) P.length = 0 := by
    refine num_no P c Q ?_ h1 ?_
    · rcases h with rfl | rfl | rfl | rfl | rfl | rfl <;> decide
    · intro e
      rcases e with e | e
      · exact h2 e
      · exfalso; subst e; rcases h with e | e | e | e | e | e <;> cases e
  have hs : startsI (BA (P ++ c :: Q)) P.length = false := by
    refine starts_no P c Q ?_ ?_ <;> rcases h with rfl | rfl | rfl | rfl | rfl | rfl <;> decide
  have hk : (!leI (sgnI c.toNat) 0) = false := by rcases h with rfl | rfl | rfl | rfl | rfl | rfl <;> decide
  rw [one_hash P c Q ?_ ?_ ?_ hn, hash_at P c Q ?_ ?_]
  · unfold nameT
    have ex := ex_at P [c] Q
    rw [hs, if_neg (by simp), tn, by_at, hk, if_neg (by simp), show (((P.length : Nat) : Int) + 1).toNat = P.length + 1 by omega]
    have ex2 : (BA (P ++ c :: Q)).extract P.length (P.length + 1) = BA [c] := ex
    rw [ex2]
    rfl
  all_goals (rcases h with rfl | rfl | rfl | rfl | rfl | rfl <;> decide)
theorem tok_sp (P Q : List UInt8) (h : ∀ q ∈ Q.head?, blankB q.toNat = false) : oneT (BA (P ++ 32 :: Q)) P.length = (⟨20, ⟨⟨[]⟩⟩, 0⟩, ((P.length + 1 : Nat) : Int)) := by
  have hs := span_at blankB [32] P Q (fun x hx => by simp at hx; subst hx; decide) h
  have hs2 : spanI blankB (BA (P ++ 32 :: Q)) P.length = 1 := hs
  unfold oneT
  rw [if_neg, if_pos, hs2]
  · rfl
  · rw [tn, by_at]; decide
  · intro hh
    have := has_first (x := 47) (t := [42]) (by omega) hh
    rw [tn, by_at] at this
    cases this
end Go.Proofs.Ytconlneohilnmaa
namespace Go.Proofs.Ytconlneohilnmaa
open Go Go.RowKit Pl Sy
theorem one_tok {t : TokV} (h : GoodT t) (P Q : List UInt8) (hf : FolQ t Q) : oneT (BA (P ++ (txtL t ++ Q))) P.length = (t, ((P.length + (txtL t).length : Nat) : Int)) := by
  cases h with
  | id x hx => exact tok_id P x hx Q fun q hq => (hf q hq).1 rfl
  | hash x hx => exact tok_hash P x hx Q fun q hq => (hf q hq).2.1 rfl
  | str x hx => exact tok_str P x hx Q
  | sg k c hk =>
    have e : txtL ⟨k, ⟨⟨[]⟩⟩, 0⟩ = [c] := by rcases hk with ⟨rfl, rfl⟩ | ⟨rfl, rfl⟩ | ⟨rfl, rfl⟩ | ⟨rfl, rfl⟩ <;> rfl
    rw [e]
    exact tok_sg P k c hk Q
  | sp => exact tok_sp P Q fun q hq => (hf q hq).2.2.1 rfl
  | dl c hc =>
    have e : txtL ⟨19, ⟨⟨[c]⟩⟩, 0⟩ = [c] := rfl
    rw [e]
    exact tok_dl P c hc Q (fun e q hq => (hf q hq).2.2.2.1 rfl (by rw [e])) (fun e q hq => (hf q hq).2.2.2.2 rfl (by rw [e]))
theorem good_kind {t : TokV} (h : GoodT t) : leI t.kind 0 = false := by
  cases h with
  | sg k c hk => rw [leI_f]; show ¬ k ≤ (0 : Int); omega
  | _ => rfl
theorem good_ne {t : TokV} (h : GoodT t) : ∃ f X, txtL t = f :: X := by
  cases h with
  | id x hx =>
    obtain ⟨c, X, hL, _⟩ := name_first hx
    exact ⟨c, X, hL⟩
  | hash x hx => exact ⟨_, _, rfl⟩
  | str x hx => exact ⟨_, _, rfl⟩
  | sg k c hk =>
    refine ⟨c, [], ?_⟩
    rcases hk with ⟨rfl, rfl⟩ | ⟨rfl, rfl⟩ | ⟨rfl, rfl⟩ | ⟨rfl, rfl⟩ <;> rfl
  | sp => exact ⟨_, _, rfl⟩
  | dl c hc => exact ⟨c, [], rfl⟩
def fbT (t : TokV) : Int := ((txtL t).headD 0).toNat
def ChainT : List TokV → Prop
  | [] => True
  | [_] => True
  | t :: u :: l => FolT t (fbT u) ∧ ChainT (u :: l)
def catL (l : List TokV) : List UInt8 := l.flatMap txtL
theorem catL_cons (t : TokV) (l : List TokV) : catL (t :: l) = txtL t ++ catL l := List.flatMap_cons ..
theorem chain_tail {t : TokV} {l : List TokV} (h : ChainT (t :: l)) : ChainT l := by
  cases l with
  | nil => trivial
  | cons u l => exact h.2
theorem chain_fol {t : TokV} {l : List TokV} (h : ChainT (t :: l)) (hg : ∀ u ∈ l, GoodT u) : FolQ t (catL l) := by
  cases l with
  | nil => intro q hq; cases hq
  | cons u l =>
    intro q hq
    obtain ⟨f, X, e⟩ := good_ne (hg u (by simp))
    rw [catL_cons, e] at hq
    simp at hq
    subst hq
    have := h.1
    unfold fbT at this
    rw [e] at this
    exact this
theorem cutN_cat : ∀ (l : List TokV) (P : List UInt8) (n : Nat), (∀ t ∈ l, GoodT t) → ChainT l → l.length ≤ n → cutN (BA (P ++ catL l)) n P.length = l
  | [], P, n, _, _, _ => by
    have e : catL [] = [] := rfl
    rw [e, List.append_nil]
    cases n with
    | zero => rfl
    | succ n =>
      unfold cutN
      rw [if_neg (by rw [ba_size]; omega)]
  | t :: l, P, 0, _, _, h => by simp at h
  | t :: l, P, n + 1, hg, hc, h => by
    have ht := hg t (by simp)
    have one := one_tok ht P (catL l) (chain_fol hc fun u hu => hg u (by simp [hu]))
    obtain ⟨f, X, e⟩ := good_ne ht
    have hlt : ((P.length : Nat) : Int) < (BA (P ++ catL (t :: l))).size := by
      rw [ba_size, catL_cons, e]
      simp only [List.length_append, List.length_cons]
      omega
    rw [← catL_cons] at one
    have eK : oneK (BA (P ++ catL (t :: l))) P.length = t.kind := by unfold oneK; rw [one]
    have eX : oneX (BA (P ++ catL (t :: l))) P.length = t.text := by unfold oneX; rw [one]
    have eN : oneN (BA (P ++ catL (t :: l))) P.length = t.n := by unfold oneN; rw [one]
    have eE : oneE (BA (P ++ catL (t :: l))) P.length = ((P.length + (txtL t).length : Nat) : Int) := by unfold oneE; rw [one]
    unfold cutN
    rw [if_pos hlt, eK, eX, eN, eE, if_neg (by rw [good_kind ht]; simp)]
    have ih := cutN_cat l (P ++ txtL t) n (fun u hu => hg u (by simp [hu])) (chain_tail hc) (by simpa using h)
    rw [List.append_assoc, ← catL_cons, List.length_append] at ih
    rw [ih]
    rfl
theorem cat_len : ∀ (l : List TokV), (∀ t ∈ l, GoodT t) → l.length ≤ (catL l).length
  | [], _ => Nat.zero_le _
  | t :: l, h => by
    have := cat_len l (fun u hu => h u (by simp [hu]))
    obtain ⟨f, X, e⟩ := good_ne (h t (by simp))
    rw [catL_cons, e]
    simp only [List.length_append, List.length_cons]
    omega
theorem cut_cat {l : List TokV} (h : ∀ t ∈ l, GoodT t) (hc : ChainT l) : cutT (BA (catL l)) = l := by
  have := cutN_cat l [] (BA (catL l)).size h hc (by rw [ba_size]; exact cat_len l h)
  rw [List.nil_append] at this
  exact this
theorem fol_of {t u : TokV} (ht : GoodT t) (hu : GoodT u) (h1 : t.kind = 1 ∨ t.kind = 4 → u.kind ≠ 1) (h2 : t.kind = 20 → u.kind ≠ 20) (h3 : t.kind = 19 → u.kind ≠ 19) : FolT t (fbT u) := by
  have num : ∀ f : Int, (f = 35 ∨ f = 34 ∨ f = 58 ∨ f = 44 ∨ f = 91 ∨ f = 93 ∨ f = 32 ∨ f = 46 ∨ f = 61 ∨ f = 62 ∨ f = 43 ∨ f = 126 ∨ f = 42) → goesB f = false ∧ f ≠ 40 ∧ digB f = false := fun f hf => by
    rcases hf with rfl | rfl | rfl | rfl | rfl | rfl | rfl | rfl | rfl | rfl | rfl | rfl | rfl <;> decide
  have key : (u.kind ≠ 1 → goesB (fbT u) = false ∧ fbT u ≠ 40) ∧ (u.kind ≠ 20 → blankB (fbT u) = false) ∧ digB (fbT u) = false ∧ (u.kind ≠ 19 → fbT u ≠ 46) := by
    cases hu with
    | id x hx =>
      obtain ⟨c, X, hL, _, hc⟩ := name_first hx
      have e : fbT ⟨1, x, 0⟩ = c.toNat := by
        show (((txtL ⟨1, x, 0⟩).headD 0).toNat : Int) = _
        rw [show txtL ⟨1, x, 0⟩ = c :: X from hL]; rfl
      rw [e]
      have hv : ((97 ≤ (c.toNat : Int) ∧ (c.toNat : Int) ≤ 122) ∨ (65 ≤ (c.toNat : Int) ∧ (c.toNat : Int) ≤ 90) ∨ (c.toNat : Int) = 95 ∨ 128 ≤ (c.toNat : Int)) ∨ (c.toNat : Int) = 45 := by
        rcases hc with h | ⟨h, _⟩
        · exact .inl (begB_t h)
        · exact .inr h
      exact ⟨fun h => absurd rfl h, fun _ => by rw [blankB_f]; omega, by rw [digB_f]; omega, fun _ => by omega⟩
    | hash x hx =>
      have e : fbT ⟨4, x, 0⟩ = 35 := rfl
      rw [e]
      exact ⟨fun _ => ⟨by decide, by decide⟩, fun _ => by decide, by decide, fun _ => by decide⟩
    | str x hx =>
      have e : fbT ⟨5, x, 0⟩ = 34 := rfl
      rw [e]
      exact ⟨fun _ => ⟨by decide, by decide⟩, fun _ => by decide, by decide, fun _ => by decide⟩
    | sg k c hk => rcases hk with ⟨rfl, rfl⟩ | ⟨rfl, rfl⟩ | ⟨rfl, rfl⟩ | ⟨rfl, rfl⟩ <;> exact ⟨fun _ => ⟨by decide, by decide⟩, fun _ => by decide, by decide, fun _ => by decide⟩
    | sp => exact ⟨fun _ => ⟨by decide, by decide⟩, fun h => absurd rfl h, by decide, fun _ => by decide⟩
    | dl c hc => rcases hc with rfl | rfl | rfl | rfl | rfl | rfl <;> exact ⟨fun _ => ⟨by decide, by decide⟩, fun _ => by decide, by decide, fun h => absurd rfl h⟩
  obtain ⟨k1, k2, k3, k4⟩ := key
  exact ⟨fun e => k1 (h1 (.inl e)), fun e => (k1 (h1 (.inr e))).1, fun e => k2 (h2 e), fun _ _ => k3, fun e _ => ⟨k3, k4 (h3 e)⟩⟩
end Go.Proofs.Ytconlneohilnmaa
