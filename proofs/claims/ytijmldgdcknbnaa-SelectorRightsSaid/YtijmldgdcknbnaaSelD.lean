/-
  Layer 7: may a selector be? The program's.
-/
import Derived.Test.YtijmldgdcknbnaaSelC
namespace Go.Proofs.Ytijmldgdcknbnaa
open Go Go.RowKit Pl Sy
set_option linter.unusedVariables false
set_option linter.unusedSimpArgs false
def PartsOk (xs : List PartV) : Prop := xs.length ≤ 17592186044416 ∧ ∀ p ∈ xs, PartOk p
def anyP (g : PartV → Bool) (xs : List PartV) : Bool := xs.any g
/-sy cfp_p
fun (xs : List PartV) (d : D) => probeV SyTool.probe [cLacks] 400 30 34 [pview xs, .fn (.func 35) [] []] M0 d
-/
namespace Sy
abbrev cpF (xs : List PartV) (k j : Int) : Fr := [some ((@AV.view (xs).length 6 (@pcell xs))), some ((@AV.fn (@Fn.func 35) [] [])), none, none, some (int j), none, some ((@AV.view (xs).length 6 (@pcell xs))), some ((int (((xs).length : Nat) : Int))), some (int k), none, none, none, none, none, none, none, none, none, none]
abbrev cpE (xs : List PartV) (j : Int) : Fr := [some ((@AV.view (xs).length 6 (@pcell xs))), some ((@AV.fn (@Fn.func 35) [] [])), none, none, some (int j), none, some ((@AV.view (xs).length 6 (@pcell xs))), some ((int (((xs).length : Nat) : Int))), none, none, none, none, none, none, none, none, none, none, none]
end Sy
/-sy cfp_r
fun (xs : List PartV) (k : Int) (d : D) => reckL [cWrong (xs.getD k.toNat partNone)] [] 400 30 62 3 [true, true, false, false, true, false, true, true, true, false, false, false, false, false, false, false, false, false, false] (cpF xs k 0) M0 d
-/
theorem Sy.cp_scan (xs : List PartV) (hx : PartsOk xs) : LoopTo Try.prog (theBody Try.prog 62 3) (xs.length + 1) (cpF xs 0 0) M0 fun ex F' M' => M' = M0 ∧ ((0 ≤ idxF wrongB xs 0 ∧ ex = .ret ∧ F' = cpF xs (idxF wrongB xs 0) (idxF wrongB xs 0)) ∨ (idxF wrongB xs 0 = -1 ∧ ex = .exit 0 ∧ F' = cpF xs xs.length 0)) :=
  scan xs wrongB partNone (fun k => cpF xs k 0) (fun k => cpF xs k k) M0 fun k n G h0 h1 c1 c2 c3 => by
    refine roundL [cWrong (xs.getD k.toNat partNone)] [] 400 30 62 3 Try.func62 rfl (by kernel_rfl) [true, true, false, false, true, false, true, true, true, false, false, false, false, false, false, false, false, false, false] (.br (.yes (.yes (.br .done .done))) .done) (.fork (!(leI (((xs).length : Nat) : Int) k)) (.need (@inR k (xs).length) (.need (@isSo (@And ([(@AV.agg [(@pcell xs (k).toNat 0), (@pcell xs (k).toNat 1), (@pcell xs (k).toNat 2), (@pcell xs (k).toNat 3), (@pcell xs (k).toNat 4), (@pcell xs (k).toNat 5)])] = [(@AV.agg [(int ((xs.getD (k).toNat partNone)).comb), (@AV.lit (@Value.string ((xs.getD (k).toNat partNone)).tag)), (@AV.lit (@Value.string ((xs.getD (k).toNat partNone)).id)), (@AV.view (((xs.getD (k).toNat partNone)).cls).length 1 (fun x873058 => (fun x850371 => (@AV.lit ([(@Value.string (((xs.getD (k).toNat partNone)).cls.getD x873058 (@ByteArray.mk (@Array.mk _ []))))].getD x850371 (@Value.tuple (@Array.mk _ []))))))), (@AV.view (((xs.getD (k).toNat partNone)).tests).length 3 (fun x61927 => (fun x879180 => (@AV.lit ([(@Value.string ((((xs.getD (k).toNat partNone)).tests.getD x61927 testNone)).name), (@Value.bool ((((xs.getD (k).toNat partNone)).tests.getD x61927 testNone)).equal), (@Value.string ((((xs.getD (k).toNat partNone)).tests.getD x61927 testNone)).value)].getD x879180 (@Value.tuple (@Array.mk _ []))))))), (int ((xs.getD (k).toNat partNone)).states)])]) (@And ((@ByteArray.size ((xs.getD (k).toNat partNone)).tag) ≤ 9223372036854775807) (@And ((@ByteArray.size ((xs.getD (k).toNat partNone)).id) ≤ 9223372036854775807) (@And (@And ((((xs.getD (k).toNat partNone)).cls).length ≤ 17592186044416) (∀ (s : ByteArray), s ∈ (xs.getD k.toNat partNone).cls → s.size ≤ maxLen)) (@And ((((xs.getD (k).toNat partNone)).tests).length ≤ 17592186044416) (∀ (t : TestV), t ∈ (xs.getD k.toNat partNone).tests → t.Ok))))))) (.fork (@wrongB (xs.getD (k).toNat partNone)) (.leaf (Ex.ret, ([(some (@AV.view (xs).length 6 (@pcell xs))), (some (@AV.fn (@Fn.func 35) [] [])), none, none, (some (int k)), none, (some (@AV.view (xs).length 6 (@pcell xs))), (some (int (((xs).length : Nat) : Int))), (some (int k)), none, none, none, none, none, none, none, none, none, none], (@Mem.mk 0 0 [])))) (.leaf (Ex.norm, ([(some (@AV.view (xs).length 6 (@pcell xs))), (some (@AV.fn (@Fn.func 35) [] [])), none, none, (some (int (0 : Int))), none, (some (@AV.view (xs).length 6 (@pcell xs))), (some (int (((xs).length : Nat) : Int))), (some (int (w64 (k + (1 : Int))))), none, none, none, none, none, none, none, none, none, none], (@Mem.mk 0 0 []))))))) (.leaf ((@Ex.exit 0), ([(some (@AV.view (xs).length 6 (@pcell xs))), (some (@AV.fn (@Fn.func 35) [] [])), none, none, (some (int (0 : Int))), none, (some (@AV.view (xs).length 6 (@pcell xs))), (some (int (((xs).length : Nat) : Int))), (some (int k)), none, none, none, none, none, none, none, none, none, none], (@Mem.mk 0 0 []))))) (by kernel_rfl) ?_
    have hl := hx.1
    refine fork_ok (fun h => ?_) (fun h => ?_)
    · simp only [Bool.not_eq_true', Bool.not_eq_false', leI_t, leI_f, eqI_t, eqI_f, inR_t, inR_f, isSo_t, isSo_f] at h
      have hr : inR k xs.length = true := by rw [inR_t]; omega
      refine need_t hr (need_so ⟨rfl, hx.2 _ (getD_mem xs k _ h0 (by omega))⟩ (fork_ok (fun h2 => c2 (by omega) h2) (fun h2 => ?_)))
      rw [w64_in (r := k + 1) (by omega)]
      exact c1 (by omega) h2
    · simp only [Bool.not_eq_true', Bool.not_eq_false', leI_t, leI_f, eqI_t, eqI_f, inR_t, inR_f, isSo_t, isSo_f] at h
      exact c3 (by omega)
namespace Sy
noncomputable abbrev lpCp (xs : List PartV) : Lp Try.prog where
  f := 62
  key := 3
  S := formS (fun F M => slotI F 8) (fun k => cpF xs k 0) (fun _ => M0) (fun k => PartsOk xs ∧ k = 0) (fun k => .fork (leI 0 (idxF wrongB xs 0)) (.leaf (.ret, cpE xs (idxF wrongB xs 0), M0)) (.leaf (.exit 0, cpE xs 0, M0))) [true, true, false, false, true, false, true, true, true, false, false, false, false, false, false, false, false, false, false]
  one := by kernel_rfl
  ok := formS_ok fun k ⟨h1, h2⟩ => by
    subst h2
    refine ⟨xs.length + 1, ?_⟩
    refine ((Sy.cp_scan xs h1).out [true, true, false, false, true, false, true, true, false, false, false, false, false, false, false, false, false, false, false]).mono fun ex F M hg => ?_
    obtain ⟨F0, ⟨hM, hg⟩, rfl⟩ := hg
    rcases hg with ⟨q1, rfl, rfl⟩ | ⟨q1, rfl, rfl⟩
    · exact .inl ⟨by rw [leI_t]; exact q1, by rw [hM]; rfl⟩
    · exact .inr ⟨by rw [leI_f, q1]; omega, by rw [hM]; rfl⟩
end Sy
/-sy cfp_t
fun (xs : List PartV) (d : D) => reckV [] [lpCp xs] 400 30 34 [pview xs, .fn (.func 35) [] []] M0 d
-/
theorem Sy.cfp_t (xs : List PartV) (h : PartsOk xs) : CallTo Try.prog 34 [pview xs, .fn (.func 35) [] []] M0 fun v _ => v = boo (anyP wrongB xs) :=
  toV [] [lpCp xs] 400 30 (.br .done .done) (.need (@isSo (@And (((some (@AV.view (xs).length 6 (@pcell xs))) :: (some (@AV.fn (@Fn.func 35) [] [])) :: [none, none, (some (int (0 : Int))), none, (some (@AV.view (xs).length 6 (@pcell xs))), (some (int (((xs).length : Nat) : Int))), (some (int (0 : Int))), none, none, none, none, none, none, none, none, none, none]) = [(some (@AV.view (xs).length 6 (@pcell xs))), (some (@AV.fn (@Fn.func 35) [] [])), none, none, (some (int (0 : Int))), none, (some (@AV.view (xs).length 6 (@pcell xs))), (some (int (((xs).length : Nat) : Int))), (some (int (0 : Int))), none, none, none, none, none, none, none, none, none, none]) ((@Mem.mk 0 0 []) = M0))) (.need (@isSo (@And (@And ((xs).length ≤ 17592186044416) (∀ (p : PartV), p ∈ xs → PartOk p)) ((0 : Int) = (0 : Int)))) (.fork (leI (0 : Int) (@Pl.idxF _ wrongB xs 0)) (.leaf (boo (leI (0 : Int) (@Pl.idxF _ wrongB xs 0)))) (.leaf (boo false))))) (by kernel_rfl) (by
    unfold anyP
    rw [← idxF_any wrongB xs 0]
    refine need_so ⟨rfl, rfl⟩ (need_so ⟨h, rfl⟩ (fork_ok (fun h1 => ?_) (fun h1 => ?_)))
    · rw [leI_eq]; exact rfl
    · rw [leI_eq] at h1; rw [h1]; exact rfl)
noncomputable abbrev Sy.cAnyP (xs : List PartV) : Con Try.prog := at1 34 [pview xs, .fn (.func 35) [] []] (boo (anyP wrongB xs)) (PartsOk xs) fun h => ⟨⟨⟨pview_free xs, ⟨trivial, trivial⟩, trivial⟩, trivial⟩, cfp_t xs h⟩
/-sy right_p
fun (xs : List PartV) (d : D) => probeV SyTool.probe [cAnyP xs] 400 30 13 [.agg [pview xs]] M0 d
-/
namespace Sy
abbrev riF (xs : List PartV) (k : Int) (b : Bool) : Fr := [none, some ((@AV.ptr 0 0)), some (boo b), none, none, none, none, none, none, none, none, none, none, none, none, none, none, none, none, none, none, some ((@AV.view (xs).length 6 (@pcell xs))), some ((int (((xs).length : Nat) : Int))), some (int k), none, none, none, none, none, none, none, none, none, none, none, none, none, none, none, none, none, none, none, none, none, none, none, none, none, none]
abbrev riM (xs : List PartV) : Mem := (@Mem.mk 1 0 [(some (@Blk.mk [(@AV.view (xs).length 6 (@pcell xs))] 25 none))])
end Sy
/-sy right_r
fun (xs : List PartV) (k : Int) (d : D) => reckL [] [] 400 30 13 5 [false, true, true, false, false, false, false, false, false, false, false, false, false, false, false, false, false, false, false, false, false, true, true, true, false, false, false, false, false, false, false, false, false, false, false, false, false, false, false, false, false, false, false, false, false, false, false, false, false, false] (riF xs k false) (riM xs) d
-/
/-- may what stands between two parts not be? -/
def combB (k : Nat) (c : Int) : Bool := if k = 0 then !eqI c 0 else !leI 1 c || !leI c 4
def combs (xs : List PartV) (k : Nat) : Bool := combB k (xs.getD k partNone).comb
theorem Sy.riF_lt (xs : List PartV) (k : Int) (b : Bool) : LtF 1 (riF xs k b) := by
  simp only [LtF]
  exact ⟨show 0 < 1 by omega, trivial, Free.lt (pview_free xs), trivial, trivial, trivial⟩
theorem Sy.riM_lt (xs : List PartV) : LtB 1 (riM xs).bs := ⟨⟨⟨Free.lt (pview_free xs), trivial⟩, rfl⟩, trivial⟩
theorem Sy.ri_scan (xs : List PartV) (hx : xs.length ≤ 17592186044416) : LoopTo Try.prog (theBody Try.prog 13 5) (xs.length + 1) (riF xs 0 false) (riM xs) fun ex F' M' => M' = riM xs ∧ ((0 ≤ idxN (combs xs) xs.length ∧ ex = .ret ∧ F' = riF xs (idxN (combs xs) xs.length) false) ∨ (idxN (combs xs) xs.length = -1 ∧ ex = .exit 0 ∧ F' = riF xs xs.length false)) :=
  scanN xs.length (combs xs) (fun k => riF xs k false) (fun k => riF xs k false) (riM xs) fun k n G h0 h1 c1 c2 c3 => by
    refine roundCut plain mixed [] [] 400 30 13 5 Try.func13 rfl (by kernel_rfl) [false, true, true, false, false, false, false, false, false, false, false, false, false, false, false, false, false, false, false, false, false, true, true, true, false, false, false, false, false, false, false, false, false, false, false, false, false, false, false, false, false, false, false, false, false, false, false, false, false, false] (.br (.yes (.br (.auto 2 (.br (.auto 1 (.br (.auto 2 (.br (.auto 6 (.br .done .done)) (.auto 7 .done))) (.auto 10 .done))) (.auto 12 .done))) (.auto 5 (.br (.auto 2 (.br (.auto 6 (.br .done .done)) (.auto 7 .done))) (.auto 10 .done))))) .done) (.fork (!(leI (((xs).length : Nat) : Int) k)) (.need (@inR k (xs).length) (.fork (eqI k (0 : Int)) (.fork (!(!(eqI ((xs.getD (k).toNat partNone)).comb (0 : Int)))) (.fork (!(leI k (0 : Int))) (.fork (!(!(leI (1 : Int) ((xs.getD (k).toNat partNone)).comb))) (.fork (!(leI ((xs.getD (k).toNat partNone)).comb (4 : Int))) (.leaf (Ex.ret, ([none, (some (@AV.ptr 0 0)), (some (boo false)), none, none, none, none, none, none, none, none, none, none, none, none, none, none, none, none, none, none, (some (@AV.view (xs).length 6 (@pcell xs))), (some (int (((xs).length : Nat) : Int))), (some (int k)), none, none, none, none, none, none, none, none, none, none, none, none, none, none, none, none, none, none, none, none, none, none, none, none, none, none], (@Mem.mk (1 + 1) (0 + 1) [(some (@Blk.mk [(@pcell xs (k).toNat 0), (@pcell xs (k).toNat 1), (@pcell xs (k).toNat 2), (@pcell xs (k).toNat 3), (@pcell xs (k).toNat 4), (@pcell xs (k).toNat 5)] 29 none)), (some (@Blk.mk [(@AV.view (xs).length 6 (@pcell xs))] 25 none))])))) (.leaf (Ex.norm, ([none, (some (@AV.ptr 0 0)), (some (boo false)), none, none, none, none, none, none, none, none, none, none, none, none, none, none, none, none, none, none, (some (@AV.view (xs).length 6 (@pcell xs))), (some (int (((xs).length : Nat) : Int))), (some (int (w64 (k + (1 : Int))))), none, none, none, none, none, none, none, none, none, none, none, none, none, none, none, none, none, none, none, none, none, none, none, none, none, none], (@Mem.mk (1 + 1) (0 + 1) [(some (@Blk.mk [(@pcell xs (k).toNat 0), (@pcell xs (k).toNat 1), (@pcell xs (k).toNat 2), (@pcell xs (k).toNat 3), (@pcell xs (k).toNat 4), (@pcell xs (k).toNat 5)] 29 none)), (some (@Blk.mk [(@AV.view (xs).length 6 (@pcell xs))] 25 none))]))))) (.leaf (Ex.ret, ([none, (some (@AV.ptr 0 0)), (some (boo false)), none, none, none, none, none, none, none, none, none, none, none, none, none, none, none, none, none, none, (some (@AV.view (xs).length 6 (@pcell xs))), (some (int (((xs).length : Nat) : Int))), (some (int k)), none, none, none, none, none, none, none, none, none, none, none, none, none, none, none, none, none, none, none, none, none, none, none, none, none, none], (@Mem.mk (1 + 1) (0 + 1) [(some (@Blk.mk [(@pcell xs (k).toNat 0), (@pcell xs (k).toNat 1), (@pcell xs (k).toNat 2), (@pcell xs (k).toNat 3), (@pcell xs (k).toNat 4), (@pcell xs (k).toNat 5)] 29 none)), (some (@Blk.mk [(@AV.view (xs).length 6 (@pcell xs))] 25 none))]))))) (.leaf (Ex.norm, ([none, (some (@AV.ptr 0 0)), (some (boo false)), none, none, none, none, none, none, none, none, none, none, none, none, none, none, none, none, none, none, (some (@AV.view (xs).length 6 (@pcell xs))), (some (int (((xs).length : Nat) : Int))), (some (int (w64 (k + (1 : Int))))), none, none, none, none, none, none, none, none, none, none, none, none, none, none, none, none, none, none, none, none, none, none, none, none, none, none], (@Mem.mk (1 + 1) (0 + 1) [(some (@Blk.mk [(@pcell xs (k).toNat 0), (@pcell xs (k).toNat 1), (@pcell xs (k).toNat 2), (@pcell xs (k).toNat 3), (@pcell xs (k).toNat 4), (@pcell xs (k).toNat 5)] 29 none)), (some (@Blk.mk [(@AV.view (xs).length 6 (@pcell xs))] 25 none))]))))) (.leaf (Ex.ret, ([none, (some (@AV.ptr 0 0)), (some (boo false)), none, none, none, none, none, none, none, none, none, none, none, none, none, none, none, none, none, none, (some (@AV.view (xs).length 6 (@pcell xs))), (some (int (((xs).length : Nat) : Int))), (some (int k)), none, none, none, none, none, none, none, none, none, none, none, none, none, none, none, none, none, none, none, none, none, none, none, none, none, none], (@Mem.mk (1 + 1) (0 + 1) [(some (@Blk.mk [(@pcell xs (k).toNat 0), (@pcell xs (k).toNat 1), (@pcell xs (k).toNat 2), (@pcell xs (k).toNat 3), (@pcell xs (k).toNat 4), (@pcell xs (k).toNat 5)] 29 none)), (some (@Blk.mk [(@AV.view (xs).length 6 (@pcell xs))] 25 none))]))))) (.fork (!(leI k (0 : Int))) (.fork (!(!(leI (1 : Int) ((xs.getD (k).toNat partNone)).comb))) (.fork (!(leI ((xs.getD (k).toNat partNone)).comb (4 : Int))) (.leaf (Ex.ret, ([none, (some (@AV.ptr 0 0)), (some (boo false)), none, none, none, none, none, none, none, none, none, none, none, none, none, none, none, none, none, none, (some (@AV.view (xs).length 6 (@pcell xs))), (some (int (((xs).length : Nat) : Int))), (some (int k)), none, none, none, none, none, none, none, none, none, none, none, none, none, none, none, none, none, none, none, none, none, none, none, none, none, none], (@Mem.mk (1 + 1) (0 + 1) [(some (@Blk.mk [(@pcell xs (k).toNat 0), (@pcell xs (k).toNat 1), (@pcell xs (k).toNat 2), (@pcell xs (k).toNat 3), (@pcell xs (k).toNat 4), (@pcell xs (k).toNat 5)] 29 none)), (some (@Blk.mk [(@AV.view (xs).length 6 (@pcell xs))] 25 none))])))) (.leaf (Ex.norm, ([none, (some (@AV.ptr 0 0)), (some (boo false)), none, none, none, none, none, none, none, none, none, none, none, none, none, none, none, none, none, none, (some (@AV.view (xs).length 6 (@pcell xs))), (some (int (((xs).length : Nat) : Int))), (some (int (w64 (k + (1 : Int))))), none, none, none, none, none, none, none, none, none, none, none, none, none, none, none, none, none, none, none, none, none, none, none, none, none, none], (@Mem.mk (1 + 1) (0 + 1) [(some (@Blk.mk [(@pcell xs (k).toNat 0), (@pcell xs (k).toNat 1), (@pcell xs (k).toNat 2), (@pcell xs (k).toNat 3), (@pcell xs (k).toNat 4), (@pcell xs (k).toNat 5)] 29 none)), (some (@Blk.mk [(@AV.view (xs).length 6 (@pcell xs))] 25 none))]))))) (.leaf (Ex.ret, ([none, (some (@AV.ptr 0 0)), (some (boo false)), none, none, none, none, none, none, none, none, none, none, none, none, none, none, none, none, none, none, (some (@AV.view (xs).length 6 (@pcell xs))), (some (int (((xs).length : Nat) : Int))), (some (int k)), none, none, none, none, none, none, none, none, none, none, none, none, none, none, none, none, none, none, none, none, none, none, none, none, none, none], (@Mem.mk (1 + 1) (0 + 1) [(some (@Blk.mk [(@pcell xs (k).toNat 0), (@pcell xs (k).toNat 1), (@pcell xs (k).toNat 2), (@pcell xs (k).toNat 3), (@pcell xs (k).toNat 4), (@pcell xs (k).toNat 5)] 29 none)), (some (@Blk.mk [(@AV.view (xs).length 6 (@pcell xs))] 25 none))]))))) (.leaf (Ex.norm, ([none, (some (@AV.ptr 0 0)), (some (boo false)), none, none, none, none, none, none, none, none, none, none, none, none, none, none, none, none, none, none, (some (@AV.view (xs).length 6 (@pcell xs))), (some (int (((xs).length : Nat) : Int))), (some (int (w64 (k + (1 : Int))))), none, none, none, none, none, none, none, none, none, none, none, none, none, none, none, none, none, none, none, none, none, none, none, none, none, none], (@Mem.mk (1 + 1) (0 + 1) [(some (@Blk.mk [(@pcell xs (k).toNat 0), (@pcell xs (k).toNat 1), (@pcell xs (k).toNat 2), (@pcell xs (k).toNat 3), (@pcell xs (k).toNat 4), (@pcell xs (k).toNat 5)] 29 none)), (some (@Blk.mk [(@AV.view (xs).length 6 (@pcell xs))] 25 none))]))))))) (.leaf ((@Ex.exit 0), ([none, (some (@AV.ptr 0 0)), (some (boo false)), none, none, none, none, none, none, none, none, none, none, none, none, none, none, none, none, none, none, (some (@AV.view (xs).length 6 (@pcell xs))), (some (int (((xs).length : Nat) : Int))), (some (int k)), none, none, none, none, none, none, none, none, none, none, none, none, none, none, none, none, none, none, none, none, none, none, none, none, none, none], (@Mem.mk 1 0 [(some (@Blk.mk [(@AV.view (xs).length 6 (@pcell xs))] 25 none))]))))) (by kernel_rfl) ?_
    refine fork_ok (fun h => ?_) (fun h => ?_)
    · simp only [Bool.not_eq_true', Bool.not_eq_false', leI_t, leI_f, eqI_t, eqI_f, inR_t, inR_f, isSo_t, isSo_f] at h
      have hr : inR k xs.length = true := by rw [inR_t]; omega
      have w1 : w64 (k + 1) = k + 1 := w64_in (by omega)
      have e0 : k = 0 → combs xs k.toNat = !eqI (xs.getD k.toNat partNone).comb 0 := fun e => by unfold combs combB; rw [if_pos (by omega)]
      have e1 : ¬ k = 0 → combs xs k.toNat = (!leI 1 (xs.getD k.toNat partNone).comb || !leI (xs.getD k.toNat partNone).comb 4) := fun e => by unfold combs combB; rw [if_neg (by omega)]
      rw [w1]
      have ret : combs xs k.toNat = true → G .ret (riF xs k false) (riM xs) := c2 (by omega)
      have go : combs xs k.toNat = false → LoopTo Try.prog (theBody Try.prog 13 5) n (riF xs (k + 1) false) (riM xs) G := c1 (by omega)
      refine need_t hr (fork_ok (fun q0 => fork_ok (fun q1 => fork_ok (fun q2 => ?_) (fun q2 => ⟨show 1 ≤ 1 + 1 by omega, riF_lt _ _ _, riM_lt _, go ?_⟩)) (fun q1 => ⟨show 1 ≤ 1 + 1 by omega, riF_lt _ _ _, riM_lt _, ret ?_⟩)) (fun q0 => fork_ok (fun q1 => fork_ok (fun q2 => fork_ok (fun q3 => ⟨show 1 ≤ 1 + 1 by omega, riF_lt _ _ _, riM_lt _, ret ?_⟩) (fun q3 => ⟨show 1 ≤ 1 + 1 by omega, riF_lt _ _ _, riM_lt _, go ?_⟩)) (fun q2 => ⟨show 1 ≤ 1 + 1 by omega, riF_lt _ _ _, riM_lt _, ret ?_⟩)) (fun q1 => ?_)))
      · simp only [Bool.not_eq_true', Bool.not_eq_false', leI_t, leI_f, eqI_t, eqI_f, inR_t, inR_f, isSo_t, isSo_f] at q0 q2
        omega
      · simp only [Bool.not_eq_true', Bool.not_eq_false', leI_t, leI_f, eqI_t, eqI_f, inR_t, inR_f, isSo_t, isSo_f] at q0
        rw [e0 q0]
        simpa using q1
      · simp only [Bool.not_eq_true', Bool.not_eq_false', leI_t, leI_f, eqI_t, eqI_f, inR_t, inR_f, isSo_t, isSo_f] at q0
        rw [e0 q0]
        simpa using q1
      · simp only [Bool.not_eq_true', Bool.not_eq_false', leI_t, leI_f, eqI_t, eqI_f, inR_t, inR_f, isSo_t, isSo_f] at q0
        rw [e1 q0, q3]
        simp
      · simp only [Bool.not_eq_true', Bool.not_eq_false', leI_t, leI_f, eqI_t, eqI_f, inR_t, inR_f, isSo_t, isSo_f] at q0
        rw [e1 q0]
        simp only [Bool.not_eq_true', Bool.not_eq_false', Bool.not_not] at q2 q3
        rw [q2, q3]
        rfl
      · simp only [Bool.not_eq_true', Bool.not_eq_false', leI_t, leI_f, eqI_t, eqI_f, inR_t, inR_f, isSo_t, isSo_f] at q0
        rw [e1 q0]
        simp only [Bool.not_eq_true', Bool.not_eq_false', Bool.not_not] at q2
        rw [q2]
        rfl
      · simp only [Bool.not_eq_true', Bool.not_eq_false', leI_t, leI_f, eqI_t, eqI_f, inR_t, inR_f, isSo_t, isSo_f] at q0 q1
        omega
    · simp only [Bool.not_eq_true', Bool.not_eq_false', leI_t, leI_f, eqI_t, eqI_f, inR_t, inR_f, isSo_t, isSo_f] at h
      exact ⟨Nat.le_refl _, riF_lt _ _ _, riM_lt _, c3 (by omega)⟩
namespace Sy
noncomputable abbrev lpRi (xs : List PartV) : Lp Try.prog where
  f := 13
  key := 5
  S := formS (fun F M => slotI F 23) (fun k => riF xs k false) (fun _ => riM xs) (fun k => xs.length ≤ 17592186044416 ∧ k = 0) (fun k => .fork (anyN (combs xs) xs.length) (.leaf (.ret, [none, some ((@AV.ptr 0 0)), some ((boo false)), none, none, none, none, none, none, none, none, none, none, none, none, none, none, none, none, none, none, some ((@AV.view (xs).length 6 (@pcell xs))), some ((int (((xs).length : Nat) : Int))), none, none, none, none, none, none, none, none, none, none, none, none, none, none, none, none, none, none, none, none, none, none, none, none, none, none, none], riM xs)) (.leaf (.exit 0, [none, some ((@AV.ptr 0 0)), some ((boo false)), none, none, none, none, none, none, none, none, none, none, none, none, none, none, none, none, none, none, some ((@AV.view (xs).length 6 (@pcell xs))), some ((int (((xs).length : Nat) : Int))), none, none, none, none, none, none, none, none, none, none, none, none, none, none, none, none, none, none, none, none, none, none, none, none, none, none, none], riM xs))) [false, true, true, false, false, false, false, false, false, false, false, false, false, false, false, false, false, false, false, false, false, true, true, true, false, false, false, false, false, false, false, false, false, false, false, false, false, false, false, false, false, false, false, false, false, false, false, false, false, false]
  one := by kernel_rfl
  ok := formS_ok fun k ⟨h1, h2⟩ => by
    subst h2
    refine ⟨xs.length + 1, ?_⟩
    refine ((Sy.ri_scan xs h1).out [false, true, true, false, false, false, false, false, false, false, false, false, false, false, false, false, false, false, false, false, false, true, true, false, false, false, false, false, false, false, false, false, false, false, false, false, false, false, false, false, false, false, false, false, false, false, false, false, false, false]).mono fun ex F M hg => ?_
    obtain ⟨F0, ⟨hM, hg⟩, rfl⟩ := hg
    rcases hg with ⟨q1, rfl, rfl⟩ | ⟨q1, rfl, rfl⟩
    · exact .inl ⟨by rw [← anyN_idx, leI_t]; exact q1, by rw [hM]; rfl⟩
    · exact .inr ⟨by rw [← anyN_idx, leI_f, q1]; omega, by rw [hM]; rfl⟩
end Sy
/-sy right_t
fun (xs : List PartV) (d : D) => reckV [cAnyP xs] [lpRi xs] 400 30 13 [.agg [pview xs]] M0 d
-/
/-- may a selector be? -/
def rightB (xs : List PartV) : Bool := !eqI xs.length 0 && (leI xs.length 8 && (!anyP wrongB xs && !anyN (combs xs) xs.length))
theorem Sy.right_t (xs : List PartV) (h : PartsOk xs) : CallTo Try.prog 13 [.agg [pview xs]] M0 fun v _ => v = boo (rightB xs) :=
  toV [cAnyP xs] [lpRi xs] 400 30 (.br (.auto 3 (.br (.auto 1 (.yes (.auto 0 (.br .done (.br .done .done))))) (.auto 3 .done))) (.auto 8 .done)) (.fork (!(eqI (((xs).length : Nat) : Int) (0 : Int))) (.fork (!(!(leI (((xs).length : Nat) : Int) (8 : Int)))) (.need (@isSo (@And ([(@AV.view (xs).length 6 (@pcell xs)), (@AV.fn (@Fn.func 35) [] [])] = [(@AV.view (xs).length 6 (@pcell xs)), (@AV.fn (@Fn.func 35) [] [])]) (@And ((xs).length ≤ 17592186044416) (∀ (p : PartV), p ∈ xs → PartOk p)))) (.fork (@anyP wrongB xs) (.leaf (boo false)) (.need (@isSo (@And ((none :: [(some (@AV.ptr 0 0)), (some (boo false)), none, none, none, none, none, none, none, none, none, none, none, none, none, none, none, none, none, none, (some (@AV.view (xs).length 6 (@pcell xs))), (some (int (((xs).length : Nat) : Int))), (some (int (0 : Int))), none, none, none, none, none, none, none, none, none, none, none, none, none, none, none, none, none, none, none, none, none, none, none, none, none, none]) = [none, (some (@AV.ptr 0 0)), (some (boo false)), none, none, none, none, none, none, none, none, none, none, none, none, none, none, none, none, none, none, (some (@AV.view (xs).length 6 (@pcell xs))), (some (int (((xs).length : Nat) : Int))), (some (int (0 : Int))), none, none, none, none, none, none, none, none, none, none, none, none, none, none, none, none, none, none, none, none, none, none, none, none, none, none]) ((@Mem.mk 1 0 [(some (@Blk.mk [(@AV.view (xs).length 6 (@pcell xs))] 25 none))]) = (@Mem.mk 1 0 [(some (@Blk.mk [(@AV.view (xs).length 6 (@pcell xs))] 25 none))])))) (.need (@isSo (@And ((xs).length ≤ 17592186044416) ((0 : Int) = (0 : Int)))) (.fork (@anyN (@combs xs) (xs).length) (.leaf (boo false)) (.leaf (boo true))))))) (.leaf (boo false))) (.leaf (boo false))) (by kernel_rfl) (by
    unfold rightB
    repeat' (first
      | refine fork_ok (fun _ => ?_) (fun _ => ?_)
      | refine need_so ⟨rfl, rfl⟩ ?_
      | refine need_so ⟨rfl, h⟩ ?_
      | refine need_so ⟨h.1, rfl⟩ ?_)
    all_goals refine leaf_boo ?_
    all_goals (simp only [Bool.not_eq_true', Bool.not_eq_false', Bool.not_not] at *)
    all_goals simp only [*, Bool.not_true, Bool.not_false, Bool.true_and, Bool.false_and, Bool.and_false, Bool.and_true, Bool.or_true, Bool.true_or, Bool.or_false, Bool.false_or])
noncomputable abbrev Sy.cRight (xs : List PartV) : Con Try.prog := at1 13 [.agg [pview xs]] (boo (rightB xs)) (PartsOk xs) fun h => ⟨⟨⟨⟨pview_free xs, trivial⟩, trivial⟩, trivial⟩, right_t xs h⟩
end Go.Proofs.Ytijmldgdcknbnaa
