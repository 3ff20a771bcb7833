/-
  Layer 7: are two selectors the same? Lists of parts.
-/
import Derived.Test.YtijmldgdcknbnaaSelI
import Derived.Test.YtijmldgdcknbnaaSelF
namespace Go.Proofs.Ytijmldgdcknbnaa
open Go Go.RowKit Pl Sy
set_option linter.unusedVariables false
set_option linter.unusedSimpArgs false
/-sy ep_p
fun (xs ys : List PartV) (d : D) => probeV SyTool.probe [] 400 30 32 [pview xs, pview ys, .fn (.func 33) [] []] M0 d
-/
/-sy so_p
fun (xs ys : List PartV) (d : D) => probeV SyTool.probe [] 400 30 18 [.agg [pview xs], .agg [pview ys]] M0 d
-/
namespace Sy
abbrev epF (xs ys : List PartV) (k : Int) : Fr := [some ((@AV.view (xs).length 6 (@pcell xs))), some ((@AV.view (ys).length 6 (@pcell ys))), some ((@AV.fn (@Fn.func 33) [] [])), none, none, none, some ((boo false)), none, none, none, none, none, none, none, none, some ((@AV.view (xs).length 6 (@pcell xs))), some ((int (((xs).length : Nat) : Int))), some (int k), none, none, none, none, none, none, none, none, none, none, none, none, none, none]
abbrev soF (xs ys : List PartV) (k : Int) : Fr := [none, none, some ((@AV.ptr 0 0)), some ((@AV.ptr (0 + 1) 0)), some ((boo false)), some (int k), none, none, none, none, none, none, none, none, none, none, none, none, none, none, none, none, none, none, none, none, none, none, none, none, none, none]
abbrev soM (xs ys : List PartV) : Mem := (@Mem.mk ((0 + 1) + 1) 0 [(some (@Blk.mk [(@AV.view (ys).length 6 (@pcell ys))] 25 none)), (some (@Blk.mk [(@AV.view (xs).length 6 (@pcell xs))] 25 none))])
end Sy
/-sy ep_r
fun (xs ys : List PartV) (k : Int) (d : D) => reckL [cLike (xs.getD k.toNat partNone) (ys.getD k.toNat partNone)] [] 400 30 32 5 [true, true, true, false, false, false, true, false, false, false, false, false, false, false, false, true, true, true, false, false, false, false, false, false, false, false, false, false, false, false, false, false] (epF xs ys k) M0 d
-/
/-sy so_r
fun (xs ys : List PartV) (k : Int) (d : D) => reckL [cSp (xs.getD k.toNat partNone) (ys.getD k.toNat partNone)] [] 400 30 18 5 [false, false, true, true, true, true, false, false, false, false, false, false, false, false, false, false, false, false, false, false, false, false, false, false, false, false, false, false, false, false, false, false] (soF xs ys k) (soM xs ys) d
-/
/-- do they differ at a place? -/
def diffP (xs ys : List PartV) (i : Nat) : Bool := !sameP (xs.getD i partNone) (ys.getD i partNone)
def sameL (xs ys : List PartV) : Bool := eqI xs.length ys.length && !anyN (diffP xs ys) xs.length

theorem Sy.epF_lt (xs ys : List PartV) (k : Int) : LtF 0 (epF xs ys k) := by
  simp only [LtF]
  exact ⟨Free.lt (pview_free xs), Free.lt (pview_free ys), ⟨trivial, trivial⟩, trivial, Free.lt (pview_free xs), trivial, trivial, trivial⟩
theorem Sy.ep_scan (xs ys : List PartV) (hl : eqI xs.length ys.length = true) (hx : PartsOk xs) : LoopTo Try.prog (theBody Try.prog 32 5) (xs.length + 1) (epF xs ys 0) M0 fun ex F' M' => M' = M0 ∧ ((0 ≤ idxN (diffP xs ys) xs.length ∧ ex = .ret ∧ F' = epF xs ys (idxN (diffP xs ys) xs.length)) ∨ (idxN (diffP xs ys) xs.length = -1 ∧ ex = .exit 0 ∧ F' = epF xs ys xs.length)) :=
  scanN xs.length (diffP xs ys) (fun k => epF xs ys k) (fun k => epF xs ys k) M0 fun k n G h0 h1 c1 c2 c3 => by
    refine roundCut plain mixed [cLike (xs.getD k.toNat partNone) (ys.getD k.toNat partNone)] [] 400 30 32 5 Try.func32 rfl (by kernel_rfl) [true, true, true, false, false, false, true, false, false, false, false, false, false, false, false, true, true, true, false, false, false, false, false, false, false, false, false, false, false, false, false, false] (.br (.yes (.yes (.yes (.br .done .done)))) .done) (.fork (!(leI (((xs).length : Nat) : Int) k)) (.need (@inR k (xs).length) (.need (@inR k (ys).length) (.need (@isSo (@And ([(@AV.agg [(@pcell xs (k).toNat 0), (@pcell xs (k).toNat 1), (@pcell xs (k).toNat 2), (@pcell xs (k).toNat 3), (@pcell xs (k).toNat 4), (@pcell xs (k).toNat 5)]), (@AV.agg [(@pcell ys (k).toNat 0), (@pcell ys (k).toNat 1), (@pcell ys (k).toNat 2), (@pcell ys (k).toNat 3), (@pcell ys (k).toNat 4), (@pcell ys (k).toNat 5)])] = [(@AV.agg [(int ((xs.getD (k).toNat partNone)).comb), (@AV.lit (@Value.string ((xs.getD (k).toNat partNone)).tag)), (@AV.lit (@Value.string ((xs.getD (k).toNat partNone)).id)), (@AV.view (((xs.getD (k).toNat partNone)).cls).length 1 (fun x474710 => (fun x421178 => (@AV.lit ([(@Value.string (((xs.getD (k).toNat partNone)).cls.getD x474710 (@ByteArray.mk (@Array.mk _ []))))].getD x421178 (@Value.tuple (@Array.mk _ []))))))), (@AV.view (((xs.getD (k).toNat partNone)).tests).length 3 (fun x398019 => (fun x467568 => (@AV.lit ([(@Value.string ((((xs.getD (k).toNat partNone)).tests.getD x398019 testNone)).name), (@Value.bool ((((xs.getD (k).toNat partNone)).tests.getD x398019 testNone)).equal), (@Value.string ((((xs.getD (k).toNat partNone)).tests.getD x398019 testNone)).value)].getD x467568 (@Value.tuple (@Array.mk _ []))))))), (int ((xs.getD (k).toNat partNone)).states)]), (@AV.agg [(int ((ys.getD (k).toNat partNone)).comb), (@AV.lit (@Value.string ((ys.getD (k).toNat partNone)).tag)), (@AV.lit (@Value.string ((ys.getD (k).toNat partNone)).id)), (@AV.view (((ys.getD (k).toNat partNone)).cls).length 1 (fun x722680 => (fun x698933 => (@AV.lit ([(@Value.string (((ys.getD (k).toNat partNone)).cls.getD x722680 (@ByteArray.mk (@Array.mk _ []))))].getD x698933 (@Value.tuple (@Array.mk _ []))))))), (@AV.view (((ys.getD (k).toNat partNone)).tests).length 3 (fun x894045 => (fun x929246 => (@AV.lit ([(@Value.string ((((ys.getD (k).toNat partNone)).tests.getD x894045 testNone)).name), (@Value.bool ((((ys.getD (k).toNat partNone)).tests.getD x894045 testNone)).equal), (@Value.string ((((ys.getD (k).toNat partNone)).tests.getD x894045 testNone)).value)].getD x929246 (@Value.tuple (@Array.mk _ []))))))), (int ((ys.getD (k).toNat partNone)).states)])]) (@And ((@ByteArray.size ((xs.getD (k).toNat partNone)).tag) ≤ 9223372036854775807) (@And ((@ByteArray.size ((xs.getD (k).toNat partNone)).id) ≤ 9223372036854775807) (@And (@And ((((xs.getD (k).toNat partNone)).cls).length ≤ 17592186044416) (∀ (s : ByteArray), s ∈ (xs.getD k.toNat partNone).cls → s.size ≤ maxLen)) (@And ((((xs.getD (k).toNat partNone)).tests).length ≤ 17592186044416) (∀ (t : TestV), t ∈ (xs.getD k.toNat partNone).tests → t.Ok))))))) (.fork (!(@sameP (xs.getD (k).toNat partNone) (ys.getD (k).toNat partNone))) (.leaf (Ex.ret, ([(some (@AV.view (xs).length 6 (@pcell xs))), (some (@AV.view (ys).length 6 (@pcell ys))), (some (@AV.fn (@Fn.func 33) [] [])), none, none, none, (some (boo false)), none, none, none, none, none, none, none, none, (some (@AV.view (xs).length 6 (@pcell xs))), (some (int (((xs).length : Nat) : Int))), (some (int k)), none, none, none, none, none, none, none, none, none, none, none, none, none, none], (@Mem.mk ((0 + 1) + 1) ((0 + 1) + 1) ((some (@Blk.mk [(@pcell ys (k).toNat 0), (@pcell ys (k).toNat 1), (@pcell ys (k).toNat 2), (@pcell ys (k).toNat 3), (@pcell ys (k).toNat 4), (@pcell ys (k).toNat 5)] 29 none)) :: [(some (@Blk.mk [(@pcell xs (k).toNat 0), (@pcell xs (k).toNat 1), (@pcell xs (k).toNat 2), (@pcell xs (k).toNat 3), (@pcell xs (k).toNat 4), (@pcell xs (k).toNat 5)] 29 none))]))))) (.leaf (Ex.norm, ([(some (@AV.view (xs).length 6 (@pcell xs))), (some (@AV.view (ys).length 6 (@pcell ys))), (some (@AV.fn (@Fn.func 33) [] [])), none, none, none, (some (boo false)), none, none, none, none, none, none, none, none, (some (@AV.view (xs).length 6 (@pcell xs))), (some (int (((xs).length : Nat) : Int))), (some (int (w64 (k + (1 : Int))))), none, none, none, none, none, none, none, none, none, none, none, none, none, none], (@Mem.mk ((0 + 1) + 1) ((0 + 1) + 1) ((some (@Blk.mk [(@pcell ys (k).toNat 0), (@pcell ys (k).toNat 1), (@pcell ys (k).toNat 2), (@pcell ys (k).toNat 3), (@pcell ys (k).toNat 4), (@pcell ys (k).toNat 5)] 29 none)) :: [(some (@Blk.mk [(@pcell xs (k).toNat 0), (@pcell xs (k).toNat 1), (@pcell xs (k).toNat 2), (@pcell xs (k).toNat 3), (@pcell xs (k).toNat 4), (@pcell xs (k).toNat 5)] 29 none))]))))))))) (.leaf ((@Ex.exit 0), ([(some (@AV.view (xs).length 6 (@pcell xs))), (some (@AV.view (ys).length 6 (@pcell ys))), (some (@AV.fn (@Fn.func 33) [] [])), none, none, none, (some (boo false)), none, none, none, none, none, none, none, none, (some (@AV.view (xs).length 6 (@pcell xs))), (some (int (((xs).length : Nat) : Int))), (some (int k)), none, none, none, none, none, none, none, none, none, none, none, none, none, none], (@Mem.mk 0 0 []))))) (by kernel_rfl) ?_
    rw [eqI_t] at hl
    have hm : xs.length ≤ 17592186044416 := hx.1
    refine fork_ok (fun h => ?_) (fun h => ?_)
    · simp only [Bool.not_eq_true', Bool.not_eq_false', leI_t, leI_f, eqI_t, eqI_f, inR_t, inR_f, isSo_t, isSo_f] at h
      have hr : inR k xs.length = true := by rw [inR_t]; omega
      have hr2 : inR k ys.length = true := by rw [inR_t]; omega
      refine need_t hr (need_t hr2 (need_so ⟨rfl, hx.2 _ (getD_mem xs k _ h0 (by omega))⟩ (fork_ok (fun h2 => ⟨show 0 ≤ 0 + 1 + 1 by omega, epF_lt _ _ _, trivial, c2 (by omega) h2⟩) (fun h2 => ⟨show 0 ≤ 0 + 1 + 1 by omega, ?_, trivial, ?_⟩))))
      · rw [w64_in (r := k + 1) (by omega)]
        exact epF_lt _ _ _
      · rw [w64_in (r := k + 1) (by omega)]
        exact c1 (by omega) h2
    · simp only [Bool.not_eq_true', Bool.not_eq_false', leI_t, leI_f, eqI_t, eqI_f, inR_t, inR_f, isSo_t, isSo_f] at h
      exact ⟨Nat.le_refl _, epF_lt _ _ _, trivial, c3 (by omega)⟩
namespace Sy
noncomputable abbrev lp_ep (xs ys : List PartV) : Lp Try.prog where
  f := 32
  key := 5
  S := formS (fun F M => slotI F 17) (fun k => epF xs ys k) (fun _ => M0) (fun k => (eqI xs.length ys.length = true ∧ PartsOk xs) ∧ k = 0) (fun k => .fork (anyN (diffP xs ys) xs.length) (.leaf (.ret, [some ((@AV.view (xs).length 6 (@pcell xs))), some ((@AV.view (ys).length 6 (@pcell ys))), some ((@AV.fn (@Fn.func 33) [] [])), none, none, none, some ((boo false)), none, none, none, none, none, none, none, none, some ((@AV.view (xs).length 6 (@pcell xs))), some ((int (((xs).length : Nat) : Int))), none, none, none, none, none, none, none, none, none, none, none, none, none, none, none], M0)) (.leaf (.exit 0, [some ((@AV.view (xs).length 6 (@pcell xs))), some ((@AV.view (ys).length 6 (@pcell ys))), some ((@AV.fn (@Fn.func 33) [] [])), none, none, none, some ((boo false)), none, none, none, none, none, none, none, none, some ((@AV.view (xs).length 6 (@pcell xs))), some ((int (((xs).length : Nat) : Int))), none, none, none, none, none, none, none, none, none, none, none, none, none, none, none], M0))) [true, true, true, false, false, false, true, false, false, false, false, false, false, false, false, true, true, true, false, false, false, false, false, false, false, false, false, false, false, false, false, false]
  one := by kernel_rfl
  ok := formS_ok fun k ⟨h1, h2⟩ => by
    subst h2
    refine ⟨xs.length + 1, ?_⟩
    refine ((Sy.ep_scan xs ys h1.1 h1.2).out [true, true, true, false, false, false, true, false, false, false, false, false, false, false, false, true, true, false, false, false, false, false, false, false, false, false, false, false, false, false, false, false]).mono fun ex F M hg => ?_
    obtain ⟨F0, ⟨hM, hg⟩, rfl⟩ := hg
    rcases hg with ⟨q1, rfl, rfl⟩ | ⟨q1, rfl, rfl⟩
    · exact .inl ⟨by rw [← anyN_idx, leI_t]; exact q1, by rw [hM]; rfl⟩
    · exact .inr ⟨by rw [← anyN_idx, leI_f, q1]; omega, by rw [hM]; rfl⟩
end Sy
/-sy ep_t
fun (xs ys : List PartV) (d : D) => reckV [] [lp_ep xs ys] 400 30 32 [pview xs, pview ys, .fn (.func 33) [] []] M0 d
-/
theorem Sy.ep_t (xs ys : List PartV) (hx : PartsOk xs) : CallTo Try.prog 32 [pview xs, pview ys, .fn (.func 33) [] []] M0 fun v _ => v = boo (sameL xs ys) :=
  toV [] [lp_ep xs ys] 400 30 (.br .done (.br .done .done)) (.fork (!(eqI (((xs).length : Nat) : Int) (((ys).length : Nat) : Int))) (.leaf (boo false)) (.need (@isSo (@And (((some (@AV.view (xs).length 6 (@pcell xs))) :: (some (@AV.view (ys).length 6 (@pcell ys))) :: (some (@AV.fn (@Fn.func 33) [] [])) :: [none, none, none, (some (boo false)), none, none, none, none, none, none, none, none, (some (@AV.view (xs).length 6 (@pcell xs))), (some (int (((xs).length : Nat) : Int))), (some (int (0 : Int))), none, none, none, none, none, none, none, none, none, none, none, none, none, none]) = [(some (@AV.view (xs).length 6 (@pcell xs))), (some (@AV.view (ys).length 6 (@pcell ys))), (some (@AV.fn (@Fn.func 33) [] [])), none, none, none, (some (boo false)), none, none, none, none, none, none, none, none, (some (@AV.view (xs).length 6 (@pcell xs))), (some (int (((xs).length : Nat) : Int))), (some (int (0 : Int))), none, none, none, none, none, none, none, none, none, none, none, none, none, none]) ((@Mem.mk 0 0 []) = M0))) (.need (@isSo (@And (@And ((eqI (((xs).length : Nat) : Int) (((ys).length : Nat) : Int)) = true) (@And ((xs).length ≤ 17592186044416) (∀ (p : PartV), p ∈ xs → PartOk p))) ((0 : Int) = (0 : Int)))) (.fork (@anyN (@diffP xs ys) (xs).length) (.leaf (boo false)) (.leaf (boo true)))))) (by kernel_rfl) (by
    unfold sameL
    refine fork_ok (fun h => ?_) (fun h => need_so ⟨rfl, rfl⟩ (need_so ⟨⟨by simpa using h, hx⟩, rfl⟩ (fork_ok (fun h2 => ?_) (fun h2 => ?_))))
    · simp only [Bool.not_eq_true'] at h
      rw [h]; exact rfl
    · rw [h2]; refine leaf_boo ?_; simp
    · rw [h2]; refine leaf_boo ?_; simpa using h)
noncomputable abbrev Sy.c_ep (xs ys : List PartV) : Con Try.prog := at1 32 [pview xs, pview ys, .fn (.func 33) [] []] (boo (sameL xs ys)) (PartsOk xs) fun h => ⟨⟨⟨pview_free xs, pview_free ys, ⟨trivial, trivial⟩, trivial⟩, trivial⟩, ep_t xs ys h⟩

theorem Sy.so_scan (xs ys : List PartV) (hl : eqI xs.length ys.length = true) (hx : PartsOk xs) : LoopTo Try.prog (theBody Try.prog 18 5) (xs.length + 1) (soF xs ys 0) (soM xs ys) fun ex F' M' => M' = (soM xs ys) ∧ ((0 ≤ idxN (diffP xs ys) xs.length ∧ ex = .ret ∧ F' = soF xs ys (idxN (diffP xs ys) xs.length)) ∨ (idxN (diffP xs ys) xs.length = -1 ∧ ex = .exit 0 ∧ F' = soF xs ys xs.length)) :=
  scanN xs.length (diffP xs ys) (fun k => soF xs ys k) (fun k => soF xs ys k) (soM xs ys) fun k n G h0 h1 c1 c2 c3 => by
    refine roundL [cSp (xs.getD k.toNat partNone) (ys.getD k.toNat partNone)] [] 400 30 18 5 Try.func18 rfl (by kernel_rfl) [false, false, true, true, true, true, false, false, false, false, false, false, false, false, false, false, false, false, false, false, false, false, false, false, false, false, false, false, false, false, false, false] (.br (.yes (.yes (.yes (.br .done .done)))) .done) (.fork (!(leI (((xs).length : Nat) : Int) k)) (.need (@inR k (xs).length) (.need (@inR k (ys).length) (.need (@isSo (@And ([(@AV.agg [(@pcell xs (k).toNat 0), (@pcell xs (k).toNat 1), (@pcell xs (k).toNat 2), (@pcell xs (k).toNat 3), (@pcell xs (k).toNat 4), (@pcell xs (k).toNat 5)]), (@AV.agg [(@pcell ys (k).toNat 0), (@pcell ys (k).toNat 1), (@pcell ys (k).toNat 2), (@pcell ys (k).toNat 3), (@pcell ys (k).toNat 4), (@pcell ys (k).toNat 5)])] = [(@AV.agg [(int ((xs.getD (k).toNat partNone)).comb), (@AV.lit (@Value.string ((xs.getD (k).toNat partNone)).tag)), (@AV.lit (@Value.string ((xs.getD (k).toNat partNone)).id)), (@AV.view (((xs.getD (k).toNat partNone)).cls).length 1 (fun x474710 => (fun x421178 => (@AV.lit ([(@Value.string (((xs.getD (k).toNat partNone)).cls.getD x474710 (@ByteArray.mk (@Array.mk _ []))))].getD x421178 (@Value.tuple (@Array.mk _ []))))))), (@AV.view (((xs.getD (k).toNat partNone)).tests).length 3 (fun x398019 => (fun x467568 => (@AV.lit ([(@Value.string ((((xs.getD (k).toNat partNone)).tests.getD x398019 testNone)).name), (@Value.bool ((((xs.getD (k).toNat partNone)).tests.getD x398019 testNone)).equal), (@Value.string ((((xs.getD (k).toNat partNone)).tests.getD x398019 testNone)).value)].getD x467568 (@Value.tuple (@Array.mk _ []))))))), (int ((xs.getD (k).toNat partNone)).states)]), (@AV.agg [(int ((ys.getD (k).toNat partNone)).comb), (@AV.lit (@Value.string ((ys.getD (k).toNat partNone)).tag)), (@AV.lit (@Value.string ((ys.getD (k).toNat partNone)).id)), (@AV.view (((ys.getD (k).toNat partNone)).cls).length 1 (fun x722680 => (fun x698933 => (@AV.lit ([(@Value.string (((ys.getD (k).toNat partNone)).cls.getD x722680 (@ByteArray.mk (@Array.mk _ []))))].getD x698933 (@Value.tuple (@Array.mk _ []))))))), (@AV.view (((ys.getD (k).toNat partNone)).tests).length 3 (fun x894045 => (fun x929246 => (@AV.lit ([(@Value.string ((((ys.getD (k).toNat partNone)).tests.getD x894045 testNone)).name), (@Value.bool ((((ys.getD (k).toNat partNone)).tests.getD x894045 testNone)).equal), (@Value.string ((((ys.getD (k).toNat partNone)).tests.getD x894045 testNone)).value)].getD x929246 (@Value.tuple (@Array.mk _ []))))))), (int ((ys.getD (k).toNat partNone)).states)])]) (@And ((@ByteArray.size ((xs.getD (k).toNat partNone)).tag) ≤ 9223372036854775807) (@And ((@ByteArray.size ((xs.getD (k).toNat partNone)).id) ≤ 9223372036854775807) (@And (@And ((((xs.getD (k).toNat partNone)).cls).length ≤ 17592186044416) (∀ (s : ByteArray), s ∈ (xs.getD k.toNat partNone).cls → s.size ≤ maxLen)) (@And ((((xs.getD (k).toNat partNone)).tests).length ≤ 17592186044416) (∀ (t : TestV), t ∈ (xs.getD k.toNat partNone).tests → t.Ok))))))) (.fork (!(@sameP (xs.getD (k).toNat partNone) (ys.getD (k).toNat partNone))) (.leaf (Ex.ret, ([none, none, (some (@AV.ptr 0 0)), (some (@AV.ptr 1 0)), (some (boo false)), (some (int k)), none, none, none, none, none, none, none, none, none, none, none, none, none, none, none, none, none, none, none, none, none, none, none, none, none, none], (@Mem.mk 2 0 [(some (@Blk.mk [(@AV.view (ys).length 6 (@pcell ys))] 25 none)), (some (@Blk.mk [(@AV.view (xs).length 6 (@pcell xs))] 25 none))])))) (.leaf (Ex.norm, ([none, none, (some (@AV.ptr 0 0)), (some (@AV.ptr 1 0)), (some (boo false)), (some (int (w64 (k + (1 : Int))))), none, none, none, none, none, none, none, none, none, none, none, none, none, none, none, none, none, none, none, none, none, none, none, none, none, none], (@Mem.mk 2 0 [(some (@Blk.mk [(@AV.view (ys).length 6 (@pcell ys))] 25 none)), (some (@Blk.mk [(@AV.view (xs).length 6 (@pcell xs))] 25 none))])))))))) (.leaf ((@Ex.exit 0), ([none, none, (some (@AV.ptr 0 0)), (some (@AV.ptr 1 0)), (some (boo false)), (some (int k)), none, none, none, none, none, none, none, none, none, none, none, none, none, none, none, none, none, none, none, none, none, none, none, none, none, none], (@Mem.mk 2 0 [(some (@Blk.mk [(@AV.view (ys).length 6 (@pcell ys))] 25 none)), (some (@Blk.mk [(@AV.view (xs).length 6 (@pcell xs))] 25 none))]))))) (by kernel_rfl) ?_
    rw [eqI_t] at hl
    have hm : xs.length ≤ 17592186044416 := hx.1
    refine fork_ok (fun h => ?_) (fun h => ?_)
    · simp only [Bool.not_eq_true', Bool.not_eq_false', leI_t, leI_f, eqI_t, eqI_f, inR_t, inR_f, isSo_t, isSo_f] at h
      have hr : inR k xs.length = true := by rw [inR_t]; omega
      have hr2 : inR k ys.length = true := by rw [inR_t]; omega
      refine need_t hr (need_t hr2 (need_so ⟨rfl, hx.2 _ (getD_mem xs k _ h0 (by omega))⟩ (fork_ok (fun h2 => c2 (by omega) h2) (fun h2 => ?_))))
      rw [w64_in (r := k + 1) (by omega)]
      exact c1 (by omega) h2
    · simp only [Bool.not_eq_true', Bool.not_eq_false', leI_t, leI_f, eqI_t, eqI_f, inR_t, inR_f, isSo_t, isSo_f] at h
      exact c3 (by omega)
namespace Sy
noncomputable abbrev lp_so (xs ys : List PartV) : Lp Try.prog where
  f := 18
  key := 5
  S := formS (fun F M => slotI F 5) (fun k => soF xs ys k) (fun _ => (soM xs ys)) (fun k => (eqI xs.length ys.length = true ∧ PartsOk xs) ∧ k = 0) (fun k => .fork (anyN (diffP xs ys) xs.length) (.leaf (.ret, [none, none, some ((@AV.ptr 0 0)), some ((@AV.ptr (0 + 1) 0)), some ((boo false)), none, none, none, none, none, none, none, none, none, none, none, none, none, none, none, none, none, none, none, none, none, none, none, none, none, none, none], (soM xs ys))) (.leaf (.exit 0, [none, none, some ((@AV.ptr 0 0)), some ((@AV.ptr (0 + 1) 0)), some ((boo false)), none, none, none, none, none, none, none, none, none, none, none, none, none, none, none, none, none, none, none, none, none, none, none, none, none, none, none], (soM xs ys)))) [false, false, true, true, true, true, false, false, false, false, false, false, false, false, false, false, false, false, false, false, false, false, false, false, false, false, false, false, false, false, false, false]
  one := by kernel_rfl
  ok := formS_ok fun k ⟨h1, h2⟩ => by
    subst h2
    refine ⟨xs.length + 1, ?_⟩
    refine ((Sy.so_scan xs ys h1.1 h1.2).out [false, false, true, true, true, false, false, false, false, false, false, false, false, false, false, false, false, false, false, false, false, false, false, false, false, false, false, false, false, false, false, false]).mono fun ex F M hg => ?_
    obtain ⟨F0, ⟨hM, hg⟩, rfl⟩ := hg
    rcases hg with ⟨q1, rfl, rfl⟩ | ⟨q1, rfl, rfl⟩
    · exact .inl ⟨by rw [← anyN_idx, leI_t]; exact q1, by rw [hM]; rfl⟩
    · exact .inr ⟨by rw [← anyN_idx, leI_f, q1]; omega, by rw [hM]; rfl⟩
end Sy
/-sy so_t
fun (xs ys : List PartV) (d : D) => reckV [] [lp_so xs ys] 400 30 18 [.agg [pview xs], .agg [pview ys]] M0 d
-/
theorem Sy.so_t (xs ys : List PartV) (hx : PartsOk xs) : CallTo Try.prog 18 [.agg [pview xs], .agg [pview ys]] M0 fun v _ => v = boo (sameL xs ys) :=
  toV [] [lp_so xs ys] 400 30 (.br .done (.br .done .done)) (.fork (!(eqI (((xs).length : Nat) : Int) (((ys).length : Nat) : Int))) (.leaf (boo false)) (.need (@isSo (@And ((none :: none :: [(some (@AV.ptr 0 0)), (some (@AV.ptr (0 + 1) 0)), (some (boo false)), (some (int (0 : Int))), none, none, none, none, none, none, none, none, none, none, none, none, none, none, none, none, none, none, none, none, none, none, none, none, none, none]) = [none, none, (some (@AV.ptr 0 0)), (some (@AV.ptr 1 0)), (some (boo false)), (some (int (0 : Int))), none, none, none, none, none, none, none, none, none, none, none, none, none, none, none, none, none, none, none, none, none, none, none, none, none, none]) ((@Mem.mk ((0 + 1) + 1) 0 [(some (@Blk.mk [(@AV.view (ys).length 6 (@pcell ys))] 25 none)), (some (@Blk.mk [(@AV.view (xs).length 6 (@pcell xs))] 25 none))]) = (@Mem.mk 2 0 [(some (@Blk.mk [(@AV.view (ys).length 6 (@pcell ys))] 25 none)), (some (@Blk.mk [(@AV.view (xs).length 6 (@pcell xs))] 25 none))])))) (.need (@isSo (@And (@And ((eqI (((xs).length : Nat) : Int) (((ys).length : Nat) : Int)) = true) (@And ((xs).length ≤ 17592186044416) (∀ (p : PartV), p ∈ xs → PartOk p))) ((0 : Int) = (0 : Int)))) (.fork (@anyN (@diffP xs ys) (xs).length) (.leaf (boo false)) (.leaf (boo true)))))) (by kernel_rfl) (by
    unfold sameL
    refine fork_ok (fun h => ?_) (fun h => need_so ⟨rfl, rfl⟩ (need_so ⟨⟨by simpa using h, hx⟩, rfl⟩ (fork_ok (fun h2 => ?_) (fun h2 => ?_))))
    · simp only [Bool.not_eq_true'] at h
      rw [h]; exact rfl
    · rw [h2]; refine leaf_boo ?_; simp
    · rw [h2]; refine leaf_boo ?_; simpa using h)
noncomputable abbrev Sy.c_so (xs ys : List PartV) : Con Try.prog := at1 18 [.agg [pview xs], .agg [pview ys]] (boo (sameL xs ys)) (PartsOk xs) fun h => ⟨⟨⟨⟨pview_free xs, trivial⟩, ⟨pview_free ys, trivial⟩, trivial⟩, trivial⟩, so_t xs ys h⟩
end Go.Proofs.Ytijmldgdcknbnaa
