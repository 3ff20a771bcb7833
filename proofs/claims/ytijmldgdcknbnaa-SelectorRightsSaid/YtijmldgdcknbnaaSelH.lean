/-
  Layer 7: are two selectors the same?
-/
import Derived.Test.YtijmldgdcknbnaaSelC
namespace Go.Proofs.Ytijmldgdcknbnaa
open Go Go.RowKit Pl Sy
set_option linter.unusedVariables false
set_option linter.unusedSimpArgs false
/-sy es_p
fun (xs ys : List ByteArray) (d : D) => probeV SyTool.probe [] 400 30 60 [cview xs, cview ys] M0 d
-/
/-sy et_p
fun (xs ys : List TestV) (d : D) => probeV SyTool.probe [] 400 30 61 [tview xs, tview ys] M0 d
-/
/-sy st_p
fun (xs ys : List ByteArray) (d : D) => probeV SyTool.probe [] 400 30 71 [cview xs, cview ys] M0 d
-/
namespace Sy
abbrev esF (xs ys : List ByteArray) (k : Int) : Fr := [some ((@AV.view (xs).length 1 (fun x942310 => (fun x864417 => (@AV.lit ([(@Value.string (xs.getD x942310 (@ByteArray.mk (@Array.mk _ []))))].getD x864417 (@Value.tuple (@Array.mk _ [])))))))), some ((@AV.view (ys).length 1 (fun x781353 => (fun x163668 => (@AV.lit ([(@Value.string (ys.getD x781353 (@ByteArray.mk (@Array.mk _ []))))].getD x163668 (@Value.tuple (@Array.mk _ [])))))))), none, none, some ((boo false)), none, none, none, none, none, none, none, some ((int (((xs).length : Nat) : Int))), some (int k), none, none, none, none, none, none, none, none, none, none, none, none]
abbrev etF (xs ys : List TestV) (k : Int) : Fr := [some ((@AV.view (xs).length 3 (fun x942310 => (fun x864417 => (@AV.lit ([(@Value.string ((xs.getD x942310 testNone)).name), (@Value.bool ((xs.getD x942310 testNone)).equal), (@Value.string ((xs.getD x942310 testNone)).value)].getD x864417 (@Value.tuple (@Array.mk _ [])))))))), some ((@AV.view (ys).length 3 (fun x781353 => (fun x163668 => (@AV.lit ([(@Value.string ((ys.getD x781353 testNone)).name), (@Value.bool ((ys.getD x781353 testNone)).equal), (@Value.string ((ys.getD x781353 testNone)).value)].getD x163668 (@Value.tuple (@Array.mk _ [])))))))), none, none, some ((boo false)), none, none, none, none, none, none, none, some ((int (((xs).length : Nat) : Int))), some (int k), none, none, none, none, none, none, none, none, none, none, none, none]
abbrev stF (xs ys : List ByteArray) (k : Int) : Fr := [some ((@AV.view (xs).length 1 (fun x942310 => (fun x864417 => (@AV.lit ([(@Value.string (xs.getD x942310 (@ByteArray.mk (@Array.mk _ []))))].getD x864417 (@Value.tuple (@Array.mk _ [])))))))), some ((@AV.view (ys).length 1 (fun x781353 => (fun x163668 => (@AV.lit ([(@Value.string (ys.getD x781353 (@ByteArray.mk (@Array.mk _ []))))].getD x163668 (@Value.tuple (@Array.mk _ [])))))))), none, none, some ((boo false)), some (int k), none, none, none, none, none, none, none, none, none, none, none, none, none, none, none, none, none, none, none, none]
end Sy
/-sy es_r
fun (xs ys : List ByteArray) (k : Int) (d : D) => reckL [] [] 400 30 60 5 [true, true, false, false, true, false, false, false, false, false, false, false, true, true, false, false, false, false, false, false, false, false, false, false, false, false] (esF xs ys k) M0 d
-/
/-sy et_r
fun (xs ys : List TestV) (k : Int) (d : D) => reckL [] [] 400 30 61 5 [true, true, false, false, true, false, false, false, false, false, false, false, true, true, false, false, false, false, false, false, false, false, false, false, false, false] (etF xs ys k) M0 d
-/
/-sy st_r
fun (xs ys : List ByteArray) (k : Int) (d : D) => reckL [] [] 400 30 71 5 [true, true, false, false, true, true, false, false, false, false, false, false, false, false, false, false, false, false, false, false, false, false, false, false, false, false] (stF xs ys k) M0 d
-/
/-- do they differ at a place? -/
def diffS (xs ys : List ByteArray) (i : Nat) : Bool := !bytesEq (xs.getD i ⟨#[]⟩).data.toList (ys.getD i ⟨#[]⟩).data.toList
def eqT (x y : TestV) : Bool := bytesEq x.name.data.toList y.name.data.toList && (decide (x.equal = y.equal) && (bytesEq x.value.data.toList y.value.data.toList && true))
def diffT (xs ys : List TestV) (i : Nat) : Bool := !eqT (xs.getD i testNone) (ys.getD i testNone)
def sameS (xs ys : List ByteArray) : Bool := eqI xs.length ys.length && !anyN (diffS xs ys) xs.length
def sameT (xs ys : List TestV) : Bool := eqI xs.length ys.length && !anyN (diffT xs ys) xs.length

theorem Sy.es_scan (xs ys : List ByteArray) (hl : eqI xs.length ys.length = true) (hx : xs.length ≤ 17592186044416) : LoopTo Try.prog (theBody Try.prog 60 5) (xs.length + 1) (esF xs ys 0) M0 fun ex F' M' => M' = M0 ∧ ((0 ≤ idxN (diffS xs ys) xs.length ∧ ex = .ret ∧ F' = esF xs ys (idxN (diffS xs ys) xs.length)) ∨ (idxN (diffS xs ys) xs.length = -1 ∧ ex = .exit 0 ∧ F' = esF xs ys xs.length)) :=
  scanN xs.length (diffS xs ys) (fun k => esF xs ys k) (fun k => esF xs ys k) M0 fun k n G h0 h1 c1 c2 c3 => by
    refine roundL [] [] 400 30 60 5 Try.func60 rfl (by kernel_rfl) [true, true, false, false, true, false, false, false, false, false, false, false, true, true, false, false, false, false, false, false, false, false, false, false, false, false] (.br (.yes (.yes (.br .done .done))) .done) (.fork (!(leI (((xs).length : Nat) : Int) k)) (.need (@inR k (xs).length) (.need (@inR k (ys).length) (.fork (!(@bytesEq (@Array.toList _ (@ByteArray.data (xs.getD (k).toNat (@ByteArray.mk (@Array.mk _ []))))) (@Array.toList _ (@ByteArray.data (ys.getD (k).toNat (@ByteArray.mk (@Array.mk _ []))))))) (.leaf (Ex.ret, ([(some (@AV.view (xs).length 1 (fun x665936 => (fun x67288 => (@AV.lit ([(@Value.string (xs.getD x665936 (@ByteArray.mk (@Array.mk _ []))))].getD x67288 (@Value.tuple (@Array.mk _ [])))))))), (some (@AV.view (ys).length 1 (fun x550629 => (fun x132797 => (@AV.lit ([(@Value.string (ys.getD x550629 (@ByteArray.mk (@Array.mk _ []))))].getD x132797 (@Value.tuple (@Array.mk _ [])))))))), none, none, (some (boo false)), none, none, none, none, none, none, none, (some (int (((xs).length : Nat) : Int))), (some (int k)), none, none, none, none, none, none, none, none, none, none, none, none], (@Mem.mk 0 0 [])))) (.leaf (Ex.norm, ([(some (@AV.view (xs).length 1 (fun x514185 => (fun x138334 => (@AV.lit ([(@Value.string (xs.getD x514185 (@ByteArray.mk (@Array.mk _ []))))].getD x138334 (@Value.tuple (@Array.mk _ [])))))))), (some (@AV.view (ys).length 1 (fun x238538 => (fun x186587 => (@AV.lit ([(@Value.string (ys.getD x238538 (@ByteArray.mk (@Array.mk _ []))))].getD x186587 (@Value.tuple (@Array.mk _ [])))))))), none, none, (some (boo false)), none, none, none, none, none, none, none, (some (int (((xs).length : Nat) : Int))), (some (int (w64 (k + (1 : Int))))), none, none, none, none, none, none, none, none, none, none, none, none], (@Mem.mk 0 0 []))))))) (.leaf ((@Ex.exit 0), ([(some (@AV.view (xs).length 1 (fun x556771 => (fun x41519 => (@AV.lit ([(@Value.string (xs.getD x556771 (@ByteArray.mk (@Array.mk _ []))))].getD x41519 (@Value.tuple (@Array.mk _ [])))))))), (some (@AV.view (ys).length 1 (fun x571916 => (fun x170929 => (@AV.lit ([(@Value.string (ys.getD x571916 (@ByteArray.mk (@Array.mk _ []))))].getD x170929 (@Value.tuple (@Array.mk _ [])))))))), none, none, (some (boo false)), none, none, none, none, none, none, none, (some (int (((xs).length : Nat) : Int))), (some (int k)), none, none, none, none, none, none, none, none, none, none, none, none], (@Mem.mk 0 0 []))))) (by kernel_rfl) ?_
    rw [eqI_t] at hl
    have hm : xs.length ≤ 17592186044416 := hx
    refine fork_ok (fun h => ?_) (fun h => ?_)
    · simp only [Bool.not_eq_true', Bool.not_eq_false', leI_t, leI_f, eqI_t, eqI_f, inR_t, inR_f, isSo_t, isSo_f] at h
      have hr : inR k xs.length = true := by rw [inR_t]; omega
      have hr2 : inR k ys.length = true := by rw [inR_t]; omega
      refine need_t hr (need_t hr2 ((fork_ok (fun h2 => c2 (by omega) h2) (fun h2 => ?_))))
      rw [w64_in (r := k + 1) (by omega)]
      exact c1 (by omega) h2
    · simp only [Bool.not_eq_true', Bool.not_eq_false', leI_t, leI_f, eqI_t, eqI_f, inR_t, inR_f, isSo_t, isSo_f] at h
      exact c3 (by omega)
namespace Sy
noncomputable abbrev lp_es (xs ys : List ByteArray) : Lp Try.prog where
  f := 60
  key := 5
  S := formS (fun F M => slotI F 13) (fun k => esF xs ys k) (fun _ => M0) (fun k => (eqI xs.length ys.length = true ∧ xs.length ≤ 17592186044416) ∧ k = 0) (fun k => .fork (anyN (diffS xs ys) xs.length) (.leaf (.ret, [some ((@AV.view (xs).length 1 (fun x942310 => (fun x864417 => (@AV.lit ([(@Value.string (xs.getD x942310 (@ByteArray.mk (@Array.mk _ []))))].getD x864417 (@Value.tuple (@Array.mk _ [])))))))), some ((@AV.view (ys).length 1 (fun x781353 => (fun x163668 => (@AV.lit ([(@Value.string (ys.getD x781353 (@ByteArray.mk (@Array.mk _ []))))].getD x163668 (@Value.tuple (@Array.mk _ [])))))))), none, none, some ((boo false)), none, none, none, none, none, none, none, some ((int (((xs).length : Nat) : Int))), none, none, none, none, none, none, none, none, none, none, none, none, none], M0)) (.leaf (.exit 0, [some ((@AV.view (xs).length 1 (fun x942310 => (fun x864417 => (@AV.lit ([(@Value.string (xs.getD x942310 (@ByteArray.mk (@Array.mk _ []))))].getD x864417 (@Value.tuple (@Array.mk _ [])))))))), some ((@AV.view (ys).length 1 (fun x781353 => (fun x163668 => (@AV.lit ([(@Value.string (ys.getD x781353 (@ByteArray.mk (@Array.mk _ []))))].getD x163668 (@Value.tuple (@Array.mk _ [])))))))), none, none, some ((boo false)), none, none, none, none, none, none, none, some ((int (((xs).length : Nat) : Int))), none, none, none, none, none, none, none, none, none, none, none, none, none], M0))) [true, true, false, false, true, false, false, false, false, false, false, false, true, true, false, false, false, false, false, false, false, false, false, false, false, false]
  one := by kernel_rfl
  ok := formS_ok fun k ⟨h1, h2⟩ => by
    subst h2
    refine ⟨xs.length + 1, ?_⟩
    refine ((Sy.es_scan xs ys h1.1 h1.2).out [true, true, false, false, true, false, false, false, false, false, false, false, true, false, false, false, false, false, false, false, false, false, false, false, false, false]).mono fun ex F M hg => ?_
    obtain ⟨F0, ⟨hM, hg⟩, rfl⟩ := hg
    rcases hg with ⟨q1, rfl, rfl⟩ | ⟨q1, rfl, rfl⟩
    · exact .inl ⟨by rw [← anyN_idx, leI_t]; exact q1, by rw [hM]; rfl⟩
    · exact .inr ⟨by rw [← anyN_idx, leI_f, q1]; omega, by rw [hM]; rfl⟩
end Sy
/-sy es_t
fun (xs ys : List ByteArray) (d : D) => reckV [] [lp_es xs ys] 400 30 60 [cview xs, cview ys] M0 d
-/
theorem Sy.es_t (xs ys : List ByteArray) (hx : xs.length ≤ 17592186044416) : CallTo Try.prog 60 [cview xs, cview ys] M0 fun v _ => v = boo (sameS xs ys) :=
  toV [] [lp_es xs ys] 400 30 (.br .done (.br .done .done)) (.fork (!(eqI (((xs).length : Nat) : Int) (((ys).length : Nat) : Int))) (.leaf (boo false)) (.need (@isSo (@And (((some (@AV.view (xs).length 1 (fun x969997 => (fun x892078 => (@AV.lit ([(@Value.string (xs.getD x969997 (@ByteArray.mk (@Array.mk _ []))))].getD x892078 (@Value.tuple (@Array.mk _ [])))))))) :: (some (@AV.view (ys).length 1 (fun x639730 => (fun x540235 => (@AV.lit ([(@Value.string (ys.getD x639730 (@ByteArray.mk (@Array.mk _ []))))].getD x540235 (@Value.tuple (@Array.mk _ [])))))))) :: [none, none, (some (boo false)), none, none, none, none, none, none, none, (some (int (((xs).length : Nat) : Int))), (some (int (0 : Int))), none, none, none, none, none, none, none, none, none, none, none, none]) = [(some (@AV.view (xs).length 1 (fun x70636 => (fun x786484 => (@AV.lit ([(@Value.string (xs.getD x70636 (@ByteArray.mk (@Array.mk _ []))))].getD x786484 (@Value.tuple (@Array.mk _ [])))))))), (some (@AV.view (ys).length 1 (fun x646729 => (fun x878593 => (@AV.lit ([(@Value.string (ys.getD x646729 (@ByteArray.mk (@Array.mk _ []))))].getD x878593 (@Value.tuple (@Array.mk _ [])))))))), none, none, (some (boo false)), none, none, none, none, none, none, none, (some (int (((xs).length : Nat) : Int))), (some (int (0 : Int))), none, none, none, none, none, none, none, none, none, none, none, none]) ((@Mem.mk 0 0 []) = M0))) (.need (@isSo (@And (@And ((eqI (((xs).length : Nat) : Int) (((ys).length : Nat) : Int)) = true) ((xs).length ≤ 17592186044416)) ((0 : Int) = (0 : Int)))) (.fork (@anyN (@diffS xs ys) (xs).length) (.leaf (boo false)) (.leaf (boo true)))))) (by kernel_rfl) (by
    unfold sameS
    refine fork_ok (fun h => ?_) (fun h => need_so ⟨rfl, rfl⟩ (need_so ⟨⟨by simpa using h, hx⟩, rfl⟩ (fork_ok (fun h2 => ?_) (fun h2 => ?_))))
    · simp only [Bool.not_eq_true'] at h
      rw [h]; exact rfl
    · rw [h2]; refine leaf_boo ?_; simp
    · rw [h2]; refine leaf_boo ?_; simpa using h)
noncomputable abbrev Sy.c_es (xs ys : List ByteArray) : Con Try.prog := at1 60 [cview xs, cview ys] (boo (sameS xs ys)) (xs.length ≤ 17592186044416) fun h => ⟨⟨⟨viewOf_free strCells ⟨#[]⟩ 1 xs, viewOf_free strCells ⟨#[]⟩ 1 ys, trivial⟩, trivial⟩, es_t xs ys h⟩

theorem Sy.et_scan (xs ys : List TestV) (hl : eqI xs.length ys.length = true) (hx : xs.length ≤ 17592186044416) : LoopTo Try.prog (theBody Try.prog 61 5) (xs.length + 1) (etF xs ys 0) M0 fun ex F' M' => M' = M0 ∧ ((0 ≤ idxN (diffT xs ys) xs.length ∧ ex = .ret ∧ F' = etF xs ys (idxN (diffT xs ys) xs.length)) ∨ (idxN (diffT xs ys) xs.length = -1 ∧ ex = .exit 0 ∧ F' = etF xs ys xs.length)) :=
  scanN xs.length (diffT xs ys) (fun k => etF xs ys k) (fun k => etF xs ys k) M0 fun k n G h0 h1 c1 c2 c3 => by
    refine roundL [] [] 400 30 61 5 Try.func61 rfl (by kernel_rfl) [true, true, false, false, true, false, false, false, false, false, false, false, true, true, false, false, false, false, false, false, false, false, false, false, false, false] (.br (.yes (.yes (.br .done .done))) .done) (.fork (!(leI (((xs).length : Nat) : Int) k)) (.need (@inR k (xs).length) (.need (@inR k (ys).length) (.fork (!((@bytesEq (@Array.toList _ (@ByteArray.data ((xs.getD (k).toNat testNone)).name)) (@Array.toList _ (@ByteArray.data ((ys.getD (k).toNat testNone)).name))) && ((@Decidable.decide (((xs.getD (k).toNat testNone)).equal = ((ys.getD (k).toNat testNone)).equal) _) && ((@bytesEq (@Array.toList _ (@ByteArray.data ((xs.getD (k).toNat testNone)).value)) (@Array.toList _ (@ByteArray.data ((ys.getD (k).toNat testNone)).value))) && true)))) (.leaf (Ex.ret, ([(some (@AV.view (xs).length 3 (fun x665936 => (fun x67288 => (@AV.lit ([(@Value.string ((xs.getD x665936 testNone)).name), (@Value.bool ((xs.getD x665936 testNone)).equal), (@Value.string ((xs.getD x665936 testNone)).value)].getD x67288 (@Value.tuple (@Array.mk _ [])))))))), (some (@AV.view (ys).length 3 (fun x550629 => (fun x132797 => (@AV.lit ([(@Value.string ((ys.getD x550629 testNone)).name), (@Value.bool ((ys.getD x550629 testNone)).equal), (@Value.string ((ys.getD x550629 testNone)).value)].getD x132797 (@Value.tuple (@Array.mk _ [])))))))), none, none, (some (boo false)), none, none, none, none, none, none, none, (some (int (((xs).length : Nat) : Int))), (some (int k)), none, none, none, none, none, none, none, none, none, none, none, none], (@Mem.mk 0 0 [])))) (.leaf (Ex.norm, ([(some (@AV.view (xs).length 3 (fun x514185 => (fun x138334 => (@AV.lit ([(@Value.string ((xs.getD x514185 testNone)).name), (@Value.bool ((xs.getD x514185 testNone)).equal), (@Value.string ((xs.getD x514185 testNone)).value)].getD x138334 (@Value.tuple (@Array.mk _ [])))))))), (some (@AV.view (ys).length 3 (fun x238538 => (fun x186587 => (@AV.lit ([(@Value.string ((ys.getD x238538 testNone)).name), (@Value.bool ((ys.getD x238538 testNone)).equal), (@Value.string ((ys.getD x238538 testNone)).value)].getD x186587 (@Value.tuple (@Array.mk _ [])))))))), none, none, (some (boo false)), none, none, none, none, none, none, none, (some (int (((xs).length : Nat) : Int))), (some (int (w64 (k + (1 : Int))))), none, none, none, none, none, none, none, none, none, none, none, none], (@Mem.mk 0 0 []))))))) (.leaf ((@Ex.exit 0), ([(some (@AV.view (xs).length 3 (fun x556771 => (fun x41519 => (@AV.lit ([(@Value.string ((xs.getD x556771 testNone)).name), (@Value.bool ((xs.getD x556771 testNone)).equal), (@Value.string ((xs.getD x556771 testNone)).value)].getD x41519 (@Value.tuple (@Array.mk _ [])))))))), (some (@AV.view (ys).length 3 (fun x571916 => (fun x170929 => (@AV.lit ([(@Value.string ((ys.getD x571916 testNone)).name), (@Value.bool ((ys.getD x571916 testNone)).equal), (@Value.string ((ys.getD x571916 testNone)).value)].getD x170929 (@Value.tuple (@Array.mk _ [])))))))), none, none, (some (boo false)), none, none, none, none, none, none, none, (some (int (((xs).length : Nat) : Int))), (some (int k)), none, none, none, none, none, none, none, none, none, none, none, none], (@Mem.mk 0 0 []))))) (by kernel_rfl) ?_
    rw [eqI_t] at hl
    have hm : xs.length ≤ 17592186044416 := hx
    refine fork_ok (fun h => ?_) (fun h => ?_)
    · simp only [Bool.not_eq_true', Bool.not_eq_false', leI_t, leI_f, eqI_t, eqI_f, inR_t, inR_f, isSo_t, isSo_f] at h
      have hr : inR k xs.length = true := by rw [inR_t]; omega
      have hr2 : inR k ys.length = true := by rw [inR_t]; omega
      refine need_t hr (need_t hr2 ((fork_ok (fun h2 => c2 (by omega) h2) (fun h2 => ?_))))
      rw [w64_in (r := k + 1) (by omega)]
      exact c1 (by omega) h2
    · simp only [Bool.not_eq_true', Bool.not_eq_false', leI_t, leI_f, eqI_t, eqI_f, inR_t, inR_f, isSo_t, isSo_f] at h
      exact c3 (by omega)
namespace Sy
noncomputable abbrev lp_et (xs ys : List TestV) : Lp Try.prog where
  f := 61
  key := 5
  S := formS (fun F M => slotI F 13) (fun k => etF xs ys k) (fun _ => M0) (fun k => (eqI xs.length ys.length = true ∧ xs.length ≤ 17592186044416) ∧ k = 0) (fun k => .fork (anyN (diffT xs ys) xs.length) (.leaf (.ret, [some ((@AV.view (xs).length 3 (fun x942310 => (fun x864417 => (@AV.lit ([(@Value.string ((xs.getD x942310 testNone)).name), (@Value.bool ((xs.getD x942310 testNone)).equal), (@Value.string ((xs.getD x942310 testNone)).value)].getD x864417 (@Value.tuple (@Array.mk _ [])))))))), some ((@AV.view (ys).length 3 (fun x781353 => (fun x163668 => (@AV.lit ([(@Value.string ((ys.getD x781353 testNone)).name), (@Value.bool ((ys.getD x781353 testNone)).equal), (@Value.string ((ys.getD x781353 testNone)).value)].getD x163668 (@Value.tuple (@Array.mk _ [])))))))), none, none, some ((boo false)), none, none, none, none, none, none, none, some ((int (((xs).length : Nat) : Int))), none, none, none, none, none, none, none, none, none, none, none, none, none], M0)) (.leaf (.exit 0, [some ((@AV.view (xs).length 3 (fun x942310 => (fun x864417 => (@AV.lit ([(@Value.string ((xs.getD x942310 testNone)).name), (@Value.bool ((xs.getD x942310 testNone)).equal), (@Value.string ((xs.getD x942310 testNone)).value)].getD x864417 (@Value.tuple (@Array.mk _ [])))))))), some ((@AV.view (ys).length 3 (fun x781353 => (fun x163668 => (@AV.lit ([(@Value.string ((ys.getD x781353 testNone)).name), (@Value.bool ((ys.getD x781353 testNone)).equal), (@Value.string ((ys.getD x781353 testNone)).value)].getD x163668 (@Value.tuple (@Array.mk _ [])))))))), none, none, some ((boo false)), none, none, none, none, none, none, none, some ((int (((xs).length : Nat) : Int))), none, none, none, none, none, none, none, none, none, none, none, none, none], M0))) [true, true, false, false, true, false, false, false, false, false, false, false, true, true, false, false, false, false, false, false, false, false, false, false, false, false]
  one := by kernel_rfl
  ok := formS_ok fun k ⟨h1, h2⟩ => by
    subst h2
    refine ⟨xs.length + 1, ?_⟩
    refine ((Sy.et_scan xs ys h1.1 h1.2).out [true, true, false, false, true, false, false, false, false, false, false, false, true, false, false, false, false, false, false, false, false, false, false, false, false, false]).mono fun ex F M hg => ?_
    obtain ⟨F0, ⟨hM, hg⟩, rfl⟩ := hg
    rcases hg with ⟨q1, rfl, rfl⟩ | ⟨q1, rfl, rfl⟩
    · exact .inl ⟨by rw [← anyN_idx, leI_t]; exact q1, by rw [hM]; rfl⟩
    · exact .inr ⟨by rw [← anyN_idx, leI_f, q1]; omega, by rw [hM]; rfl⟩
end Sy
/-sy et_t
fun (xs ys : List TestV) (d : D) => reckV [] [lp_et xs ys] 400 30 61 [tview xs, tview ys] M0 d
-/
theorem Sy.et_t (xs ys : List TestV) (hx : xs.length ≤ 17592186044416) : CallTo Try.prog 61 [tview xs, tview ys] M0 fun v _ => v = boo (sameT xs ys) :=
  toV [] [lp_et xs ys] 400 30 (.br .done (.br .done .done)) (.fork (!(eqI (((xs).length : Nat) : Int) (((ys).length : Nat) : Int))) (.leaf (boo false)) (.need (@isSo (@And (((some (@AV.view (xs).length 3 (fun x817244 => (fun x749369 => (@AV.lit ([(@Value.string ((xs.getD x817244 testNone)).name), (@Value.bool ((xs.getD x817244 testNone)).equal), (@Value.string ((xs.getD x817244 testNone)).value)].getD x749369 (@Value.tuple (@Array.mk _ [])))))))) :: (some (@AV.view (ys).length 3 (fun x868825 => (fun x963066 => (@AV.lit ([(@Value.string ((ys.getD x868825 testNone)).name), (@Value.bool ((ys.getD x868825 testNone)).equal), (@Value.string ((ys.getD x868825 testNone)).value)].getD x963066 (@Value.tuple (@Array.mk _ [])))))))) :: [none, none, (some (boo false)), none, none, none, none, none, none, none, (some (int (((xs).length : Nat) : Int))), (some (int (0 : Int))), none, none, none, none, none, none, none, none, none, none, none, none]) = [(some (@AV.view (xs).length 3 (fun x196006 => (fun x64127 => (@AV.lit ([(@Value.string ((xs.getD x196006 testNone)).name), (@Value.bool ((xs.getD x196006 testNone)).equal), (@Value.string ((xs.getD x196006 testNone)).value)].getD x64127 (@Value.tuple (@Array.mk _ [])))))))), (some (@AV.view (ys).length 3 (fun x465464 => (fun x424704 => (@AV.lit ([(@Value.string ((ys.getD x465464 testNone)).name), (@Value.bool ((ys.getD x465464 testNone)).equal), (@Value.string ((ys.getD x465464 testNone)).value)].getD x424704 (@Value.tuple (@Array.mk _ [])))))))), none, none, (some (boo false)), none, none, none, none, none, none, none, (some (int (((xs).length : Nat) : Int))), (some (int (0 : Int))), none, none, none, none, none, none, none, none, none, none, none, none]) ((@Mem.mk 0 0 []) = M0))) (.need (@isSo (@And (@And ((eqI (((xs).length : Nat) : Int) (((ys).length : Nat) : Int)) = true) ((xs).length ≤ 17592186044416)) ((0 : Int) = (0 : Int)))) (.fork (@anyN (@diffT xs ys) (xs).length) (.leaf (boo false)) (.leaf (boo true)))))) (by kernel_rfl) (by
    unfold sameT
    refine fork_ok (fun h => ?_) (fun h => need_so ⟨rfl, rfl⟩ (need_so ⟨⟨by simpa using h, hx⟩, rfl⟩ (fork_ok (fun h2 => ?_) (fun h2 => ?_))))
    · simp only [Bool.not_eq_true'] at h
      rw [h]; exact rfl
    · rw [h2]; refine leaf_boo ?_; simp
    · rw [h2]; refine leaf_boo ?_; simpa using h)
noncomputable abbrev Sy.c_et (xs ys : List TestV) : Con Try.prog := at1 61 [tview xs, tview ys] (boo (sameT xs ys)) (xs.length ≤ 17592186044416) fun h => ⟨⟨⟨viewOf_free TestV.cells testNone 3 xs, viewOf_free TestV.cells testNone 3 ys, trivial⟩, trivial⟩, et_t xs ys h⟩

theorem Sy.st_scan (xs ys : List ByteArray) (hl : eqI xs.length ys.length = true) (hx : xs.length ≤ 17592186044416) : LoopTo Try.prog (theBody Try.prog 71 5) (xs.length + 1) (stF xs ys 0) M0 fun ex F' M' => M' = M0 ∧ ((0 ≤ idxN (diffS xs ys) xs.length ∧ ex = .ret ∧ F' = stF xs ys (idxN (diffS xs ys) xs.length)) ∨ (idxN (diffS xs ys) xs.length = -1 ∧ ex = .exit 0 ∧ F' = stF xs ys xs.length)) :=
  scanN xs.length (diffS xs ys) (fun k => stF xs ys k) (fun k => stF xs ys k) M0 fun k n G h0 h1 c1 c2 c3 => by
    refine roundL [] [] 400 30 71 5 Try.func71 rfl (by kernel_rfl) [true, true, false, false, true, true, false, false, false, false, false, false, false, false, false, false, false, false, false, false, false, false, false, false, false, false] (.br (.yes (.yes (.br .done .done))) .done) (.fork (!(leI (((xs).length : Nat) : Int) k)) (.need (@inR k (xs).length) (.need (@inR k (ys).length) (.fork (!(@bytesEq (@Array.toList _ (@ByteArray.data (xs.getD (k).toNat (@ByteArray.mk (@Array.mk _ []))))) (@Array.toList _ (@ByteArray.data (ys.getD (k).toNat (@ByteArray.mk (@Array.mk _ []))))))) (.leaf (Ex.ret, ([(some (@AV.view (xs).length 1 (fun x665936 => (fun x67288 => (@AV.lit ([(@Value.string (xs.getD x665936 (@ByteArray.mk (@Array.mk _ []))))].getD x67288 (@Value.tuple (@Array.mk _ [])))))))), (some (@AV.view (ys).length 1 (fun x550629 => (fun x132797 => (@AV.lit ([(@Value.string (ys.getD x550629 (@ByteArray.mk (@Array.mk _ []))))].getD x132797 (@Value.tuple (@Array.mk _ [])))))))), none, none, (some (boo false)), (some (int k)), none, none, none, none, none, none, none, none, none, none, none, none, none, none, none, none, none, none, none, none], (@Mem.mk 0 0 [])))) (.leaf (Ex.norm, ([(some (@AV.view (xs).length 1 (fun x514185 => (fun x138334 => (@AV.lit ([(@Value.string (xs.getD x514185 (@ByteArray.mk (@Array.mk _ []))))].getD x138334 (@Value.tuple (@Array.mk _ [])))))))), (some (@AV.view (ys).length 1 (fun x238538 => (fun x186587 => (@AV.lit ([(@Value.string (ys.getD x238538 (@ByteArray.mk (@Array.mk _ []))))].getD x186587 (@Value.tuple (@Array.mk _ [])))))))), none, none, (some (boo false)), (some (int (w64 (k + (1 : Int))))), none, none, none, none, none, none, none, none, none, none, none, none, none, none, none, none, none, none, none, none], (@Mem.mk 0 0 []))))))) (.leaf ((@Ex.exit 0), ([(some (@AV.view (xs).length 1 (fun x556771 => (fun x41519 => (@AV.lit ([(@Value.string (xs.getD x556771 (@ByteArray.mk (@Array.mk _ []))))].getD x41519 (@Value.tuple (@Array.mk _ [])))))))), (some (@AV.view (ys).length 1 (fun x571916 => (fun x170929 => (@AV.lit ([(@Value.string (ys.getD x571916 (@ByteArray.mk (@Array.mk _ []))))].getD x170929 (@Value.tuple (@Array.mk _ [])))))))), none, none, (some (boo false)), (some (int k)), none, none, none, none, none, none, none, none, none, none, none, none, none, none, none, none, none, none, none, none], (@Mem.mk 0 0 []))))) (by kernel_rfl) ?_
    rw [eqI_t] at hl
    have hm : xs.length ≤ 17592186044416 := hx
    refine fork_ok (fun h => ?_) (fun h => ?_)
    · simp only [Bool.not_eq_true', Bool.not_eq_false', leI_t, leI_f, eqI_t, eqI_f, inR_t, inR_f, isSo_t, isSo_f] at h
      have hr : inR k xs.length = true := by rw [inR_t]; omega
      have hr2 : inR k ys.length = true := by rw [inR_t]; omega
      refine need_t hr (need_t hr2 ((fork_ok (fun h2 => c2 (by omega) h2) (fun h2 => ?_))))
      rw [w64_in (r := k + 1) (by omega)]
      exact c1 (by omega) h2
    · simp only [Bool.not_eq_true', Bool.not_eq_false', leI_t, leI_f, eqI_t, eqI_f, inR_t, inR_f, isSo_t, isSo_f] at h
      exact c3 (by omega)
namespace Sy
noncomputable abbrev lp_st (xs ys : List ByteArray) : Lp Try.prog where
  f := 71
  key := 5
  S := formS (fun F M => slotI F 5) (fun k => stF xs ys k) (fun _ => M0) (fun k => (eqI xs.length ys.length = true ∧ xs.length ≤ 17592186044416) ∧ k = 0) (fun k => .fork (anyN (diffS xs ys) xs.length) (.leaf (.ret, [some ((@AV.view (xs).length 1 (fun x942310 => (fun x864417 => (@AV.lit ([(@Value.string (xs.getD x942310 (@ByteArray.mk (@Array.mk _ []))))].getD x864417 (@Value.tuple (@Array.mk _ [])))))))), some ((@AV.view (ys).length 1 (fun x781353 => (fun x163668 => (@AV.lit ([(@Value.string (ys.getD x781353 (@ByteArray.mk (@Array.mk _ []))))].getD x163668 (@Value.tuple (@Array.mk _ [])))))))), none, none, some ((boo false)), none, none, none, none, none, none, none, none, none, none, none, none, none, none, none, none, none, none, none, none, none], M0)) (.leaf (.exit 0, [some ((@AV.view (xs).length 1 (fun x942310 => (fun x864417 => (@AV.lit ([(@Value.string (xs.getD x942310 (@ByteArray.mk (@Array.mk _ []))))].getD x864417 (@Value.tuple (@Array.mk _ [])))))))), some ((@AV.view (ys).length 1 (fun x781353 => (fun x163668 => (@AV.lit ([(@Value.string (ys.getD x781353 (@ByteArray.mk (@Array.mk _ []))))].getD x163668 (@Value.tuple (@Array.mk _ [])))))))), none, none, some ((boo false)), none, none, none, none, none, none, none, none, none, none, none, none, none, none, none, none, none, none, none, none, none], M0))) [true, true, false, false, true, true, false, false, false, false, false, false, false, false, false, false, false, false, false, false, false, false, false, false, false, false]
  one := by kernel_rfl
  ok := formS_ok fun k ⟨h1, h2⟩ => by
    subst h2
    refine ⟨xs.length + 1, ?_⟩
    refine ((Sy.st_scan xs ys h1.1 h1.2).out [true, true, false, false, true, false, false, false, false, false, false, false, false, false, false, false, false, false, false, false, false, false, false, false, false, false]).mono fun ex F M hg => ?_
    obtain ⟨F0, ⟨hM, hg⟩, rfl⟩ := hg
    rcases hg with ⟨q1, rfl, rfl⟩ | ⟨q1, rfl, rfl⟩
    · exact .inl ⟨by rw [← anyN_idx, leI_t]; exact q1, by rw [hM]; rfl⟩
    · exact .inr ⟨by rw [← anyN_idx, leI_f, q1]; omega, by rw [hM]; rfl⟩
end Sy
/-sy st_t
fun (xs ys : List ByteArray) (d : D) => reckV [] [lp_st xs ys] 400 30 71 [cview xs, cview ys] M0 d
-/
theorem Sy.st_t (xs ys : List ByteArray) (hx : xs.length ≤ 17592186044416) : CallTo Try.prog 71 [cview xs, cview ys] M0 fun v _ => v = boo (sameS xs ys) :=
  toV [] [lp_st xs ys] 400 30 (.br .done (.br .done .done)) (.fork (!(eqI (((xs).length : Nat) : Int) (((ys).length : Nat) : Int))) (.leaf (boo false)) (.need (@isSo (@And (((some (@AV.view (xs).length 1 (fun x877531 => (fun x20087 => (@AV.lit ([(@Value.string (xs.getD x877531 (@ByteArray.mk (@Array.mk _ []))))].getD x20087 (@Value.tuple (@Array.mk _ [])))))))) :: (some (@AV.view (ys).length 1 (fun x873376 => (fun x576925 => (@AV.lit ([(@Value.string (ys.getD x873376 (@ByteArray.mk (@Array.mk _ []))))].getD x576925 (@Value.tuple (@Array.mk _ [])))))))) :: [none, none, (some (boo false)), (some (int (0 : Int))), none, none, none, none, none, none, none, none, none, none, none, none, none, none, none, none, none, none, none, none]) = [(some (@AV.view (xs).length 1 (fun x322293 => (fun x618966 => (@AV.lit ([(@Value.string (xs.getD x322293 (@ByteArray.mk (@Array.mk _ []))))].getD x618966 (@Value.tuple (@Array.mk _ [])))))))), (some (@AV.view (ys).length 1 (fun x50298 => (fun x660643 => (@AV.lit ([(@Value.string (ys.getD x50298 (@ByteArray.mk (@Array.mk _ []))))].getD x660643 (@Value.tuple (@Array.mk _ [])))))))), none, none, (some (boo false)), (some (int (0 : Int))), none, none, none, none, none, none, none, none, none, none, none, none, none, none, none, none, none, none, none, none]) ((@Mem.mk 0 0 []) = M0))) (.need (@isSo (@And (@And ((eqI (((xs).length : Nat) : Int) (((ys).length : Nat) : Int)) = true) ((xs).length ≤ 17592186044416)) ((0 : Int) = (0 : Int)))) (.fork (@anyN (@diffS xs ys) (xs).length) (.leaf (boo false)) (.leaf (boo true)))))) (by kernel_rfl) (by
    unfold sameS
    refine fork_ok (fun h => ?_) (fun h => need_so ⟨rfl, rfl⟩ (need_so ⟨⟨by simpa using h, hx⟩, rfl⟩ (fork_ok (fun h2 => ?_) (fun h2 => ?_))))
    · simp only [Bool.not_eq_true'] at h
      rw [h]; exact rfl
    · rw [h2]; refine leaf_boo ?_; simp
    · rw [h2]; refine leaf_boo ?_; simpa using h)
noncomputable abbrev Sy.c_st (xs ys : List ByteArray) : Con Try.prog := at1 71 [cview xs, cview ys] (boo (sameS xs ys)) (xs.length ≤ 17592186044416) fun h => ⟨⟨⟨viewOf_free strCells ⟨#[]⟩ 1 xs, viewOf_free strCells ⟨#[]⟩ 1 ys, trivial⟩, trivial⟩, st_t xs ys h⟩
end Go.Proofs.Ytijmldgdcknbnaa
