/-
  Layer 6: are two lists of declarations the same? Where they are.
-/
import Derived.Test.YtjljlcflmcjapaaDeclW5
namespace Go.Proofs.Ytjljlcflmcjapaa
open Go Go.RowKit Pl Sy
set_option linter.unusedVariables false
set_option linter.unusedSimpArgs false
/-sy same_p
fun (l : List TokV) (d : D) => probeV SyTool.probe [] 400 30 55 [kv l, kv l] M0 d
-/
namespace Sy
abbrev smF (l : List TokV) (k : Int) (b : Bool) : Fr := [some ((@AV.view (l).length 3 (fun x864417 => (fun x781353 => (@AV.lit ([(@Value.int IntKind.i64 ((l.getD x864417 tok0)).kind), (@Value.string ((l.getD x864417 tok0)).text), (@Value.int IntKind.i64 ((l.getD x864417 tok0)).n)].getD x781353 (@Value.tuple (@Array.mk _ [])))))))), some ((@AV.view (l).length 3 (fun x163668 => (fun x144767 => (@AV.lit ([(@Value.int IntKind.i64 ((l.getD x163668 tok0)).kind), (@Value.string ((l.getD x163668 tok0)).text), (@Value.int IntKind.i64 ((l.getD x163668 tok0)).n)].getD x144767 (@Value.tuple (@Array.mk _ [])))))))), none, none, some (boo b), some (int k), none, none, none, none, none, none, none, none, none, none, none, none, none, none, none, none, none, none, none, none]
end Sy
/-sy same_r
fun (l : List TokV) (k : Int) (d : D) => reckL [] [] 400 30 55 5 [true, true, false, false, true, true, false, false, false, false, false, false, false, false, false, false, false, false, false, false, false, false, false, false, false, false] (smF l k false) M0 d
-/
/-- a token is the same as itself -/
def tokSame (x : TokV) : Bool := eqI x.kind x.kind && (bytesEq x.text.data.toList x.text.data.toList && (eqI x.n x.n && true))
theorem bytes_self : ∀ l, bytesEq l l = true := fun l => by rw [bytesEq_eq]; simp
theorem tokSame_t (x : TokV) : tokSame x = true := by
  unfold tokSame
  rw [bytes_self, show eqI x.kind x.kind = true by rw [eqI_t], show eqI x.n x.n = true by rw [eqI_t]]
  rfl
theorem Sy.same_scan (l : List TokV) (hl : lim l) : LoopTo Try.prog (theBody Try.prog 55 5) (l.length - 0 + 1) (smF l (0 : Nat) false) M0 fun ex F' M' => ex = .exit 0 ∧ F' = smF l l.length false ∧ M' = M0 := by
  have key := hopL (P := Try.prog) (body := theBody Try.prog 55 5) l.length (fun _ => false) (fun j => j + 1) (fun k _ => Nat.lt_succ_self k) (fun k h => h) (fun k => smF l (k : Nat) false) (fun k => smF l (k : Nat) false) (fun _ => M0) .ret (fun κ n G h0 c1 c2 c3 => by
    generalize hκ : (κ : Int) = k at *
    refine roundL [] [] 400 30 55 5 Try.func55 rfl (by kernel_rfl) [true, true, false, false, true, true, false, false, false, false, false, false, false, false, false, false, false, false, false, false, false, false, false, false, false, false] (.br (.yes (.yes (.br .done .done))) .done) (.fork (!(leI (((l).length : Nat) : Int) k)) (.need (@inR k (l).length) (.need (@inR k (l).length) (.fork (!((eqI ((l.getD (k).toNat tok0)).kind ((l.getD (k).toNat tok0)).kind) && ((@bytesEq (@Array.toList _ (@ByteArray.data ((l.getD (k).toNat tok0)).text)) (@Array.toList _ (@ByteArray.data ((l.getD (k).toNat tok0)).text))) && ((eqI ((l.getD (k).toNat tok0)).n ((l.getD (k).toNat tok0)).n) && true)))) (.leaf (Ex.ret, ([(some (@AV.view (l).length 3 (fun x6241 => (fun x500484 => (@AV.lit ([(@Value.int IntKind.i64 ((l.getD x6241 tok0)).kind), (@Value.string ((l.getD x6241 tok0)).text), (@Value.int IntKind.i64 ((l.getD x6241 tok0)).n)].getD x500484 (@Value.tuple (@Array.mk _ [])))))))), (some (@AV.view (l).length 3 (fun x772452 => (fun x522511 => (@AV.lit ([(@Value.int IntKind.i64 ((l.getD x772452 tok0)).kind), (@Value.string ((l.getD x772452 tok0)).text), (@Value.int IntKind.i64 ((l.getD x772452 tok0)).n)].getD x522511 (@Value.tuple (@Array.mk _ [])))))))), none, none, (some (boo false)), (some (int k)), none, none, none, none, none, none, none, none, none, none, none, none, none, none, none, none, none, none, none, none], (@Mem.mk 0 0 [])))) (.leaf (Ex.norm, ([(some (@AV.view (l).length 3 (fun x68159 => (fun x801235 => (@AV.lit ([(@Value.int IntKind.i64 ((l.getD x68159 tok0)).kind), (@Value.string ((l.getD x68159 tok0)).text), (@Value.int IntKind.i64 ((l.getD x68159 tok0)).n)].getD x801235 (@Value.tuple (@Array.mk _ [])))))))), (some (@AV.view (l).length 3 (fun x280618 => (fun x804689 => (@AV.lit ([(@Value.int IntKind.i64 ((l.getD x280618 tok0)).kind), (@Value.string ((l.getD x280618 tok0)).text), (@Value.int IntKind.i64 ((l.getD x280618 tok0)).n)].getD x804689 (@Value.tuple (@Array.mk _ [])))))))), none, none, (some (boo false)), (some (int (w64 (k + (1 : Int))))), none, none, none, none, none, none, none, none, none, none, none, none, none, none, none, none, none, none, none, none], (@Mem.mk 0 0 []))))))) (.leaf ((@Ex.exit 0), ([(some (@AV.view (l).length 3 (fun x873678 => (fun x708077 => (@AV.lit ([(@Value.int IntKind.i64 ((l.getD x873678 tok0)).kind), (@Value.string ((l.getD x873678 tok0)).text), (@Value.int IntKind.i64 ((l.getD x873678 tok0)).n)].getD x708077 (@Value.tuple (@Array.mk _ [])))))))), (some (@AV.view (l).length 3 (fun x424613 => (fun x37608 => (@AV.lit ([(@Value.int IntKind.i64 ((l.getD x424613 tok0)).kind), (@Value.string ((l.getD x424613 tok0)).text), (@Value.int IntKind.i64 ((l.getD x424613 tok0)).n)].getD x37608 (@Value.tuple (@Array.mk _ [])))))))), none, none, (some (boo false)), (some (int k)), none, none, none, none, none, none, none, none, none, none, none, none, none, none, none, none, none, none, none, none], (@Mem.mk 0 0 []))))) (by kernel_rfl) ?_
    have hl' : l.length ≤ 17592186044416 := hl
    refine fork_ok (fun h => ?_) (fun h => ?_)
    · simp only [Bool.not_eq_true', Bool.not_eq_false', leI_t, leI_f, eqI_t, eqI_f, inR_t, inR_f, isSo_t, isSo_f] at h
      have hk : κ < l.length := by omega
      have hr : inR k l.length = true := by rw [inR_t]; omega
      have := c1 hk rfl
      rw [show ((κ + 1 : Nat) : Int) = k + 1 by omega] at this
      refine need_t hr (need_t hr (fork_ok (fun h2 => ?_) (fun h2 => ?_)))
      · have h3 : tokSame (l.getD k.toNat tok0) = true := tokSame_t _
        have h4 : (!tokSame (l.getD k.toNat tok0)) = true := h2
        rw [h3] at h4; cases h4
      · rw [w64_in (r := k + 1) (by omega)]
        exact this
    · simp only [Bool.not_eq_true', Bool.not_eq_false', leI_t, leI_f, eqI_t, eqI_f, inR_t, inR_f, isSo_t, isSo_f] at h
      have hk : κ = l.length := by omega
      have := c3 hk
      rw [← hk, hκ] at this
      exact this) 0 (Nat.zero_le _)
  refine key.mono fun ex F M hg => ?_
  obtain ⟨rfl, hg⟩ := hg
  rcases hg with ⟨q1, rfl, rfl⟩ | ⟨q1, rfl, rfl⟩
  · have := hops_at (g := fun _ => false) (nx := fun j => j + 1) (m := l.length) (fun k _ => Nat.lt_succ_self k) _ 0 (Nat.le_refl _) q1
    cases this
  · exact ⟨rfl, rfl, rfl⟩
namespace Sy
abbrev smFE (l : List TokV) : Fr := [some ((@AV.view (l).length 3 (fun x864417 => (fun x781353 => (@AV.lit ([(@Value.int IntKind.i64 ((l.getD x864417 tok0)).kind), (@Value.string ((l.getD x864417 tok0)).text), (@Value.int IntKind.i64 ((l.getD x864417 tok0)).n)].getD x781353 (@Value.tuple (@Array.mk _ [])))))))), some ((@AV.view (l).length 3 (fun x163668 => (fun x144767 => (@AV.lit ([(@Value.int IntKind.i64 ((l.getD x163668 tok0)).kind), (@Value.string ((l.getD x163668 tok0)).text), (@Value.int IntKind.i64 ((l.getD x163668 tok0)).n)].getD x144767 (@Value.tuple (@Array.mk _ [])))))))), none, none, none, none, none, none, none, none, none, none, none, none, none, none, none, none, none, none, none, none, none, none, none, none]
noncomputable abbrev lp_same (l : List TokV) : Lp Try.prog where
  f := 55
  key := 5
  S := formS (fun F M => slotI F 5) (fun k => smF l k false) (fun _ => M0) (fun k => (lim l) ∧ k = 0) (fun k => .leaf (.exit 0, smFE l, M0)) [true, true, false, false, true, true, false, false, false, false, false, false, false, false, false, false, false, false, false, false, false, false, false, false, false, false]
  one := by kernel_rfl
  ok := formS_ok fun k ⟨h1, h2⟩ => by
    subst h2
    refine ⟨_, ((Sy.same_scan l h1).out [true, true, false, false, false, false, false, false, false, false, false, false, false, false, false, false, false, false, false, false, false, false, false, false, false, false]).mono fun ex F M hg => ?_⟩
    obtain ⟨F0, ⟨rfl, rfl, rfl⟩, rfl⟩ := hg
    rfl
end Sy
/-sy same_t
fun (l : List TokV) (d : D) => reckV [] [lp_same l] 400 30 55 [kv l, kv l] M0 d
-/
theorem Sy.same_t (l : List TokV) (hl : lim l) : CallTo Try.prog 55 [kv l, kv l] M0 fun v _ => v = boo true :=
  toV [] [lp_same l] 400 30 (.br .done .done) (.fork (!(eqI (((l).length : Nat) : Int) (((l).length : Nat) : Int))) (.leaf (boo false)) (.need (@isSo (@And (((some (@AV.view (l).length 3 (fun x39132 => (fun x725195 => (@AV.lit ([(@Value.int IntKind.i64 ((l.getD x39132 tok0)).kind), (@Value.string ((l.getD x39132 tok0)).text), (@Value.int IntKind.i64 ((l.getD x39132 tok0)).n)].getD x725195 (@Value.tuple (@Array.mk _ [])))))))) :: (some (@AV.view (l).length 3 (fun x416074 => (fun x810334 => (@AV.lit ([(@Value.int IntKind.i64 ((l.getD x416074 tok0)).kind), (@Value.string ((l.getD x416074 tok0)).text), (@Value.int IntKind.i64 ((l.getD x416074 tok0)).n)].getD x810334 (@Value.tuple (@Array.mk _ [])))))))) :: [none, none, (some (boo false)), (some (int (0 : Int))), none, none, none, none, none, none, none, none, none, none, none, none, none, none, none, none, none, none, none, none]) = [(some (@AV.view (l).length 3 (fun x673909 => (fun x121837 => (@AV.lit ([(@Value.int IntKind.i64 ((l.getD x673909 tok0)).kind), (@Value.string ((l.getD x673909 tok0)).text), (@Value.int IntKind.i64 ((l.getD x673909 tok0)).n)].getD x121837 (@Value.tuple (@Array.mk _ [])))))))), (some (@AV.view (l).length 3 (fun x788304 => (fun x570695 => (@AV.lit ([(@Value.int IntKind.i64 ((l.getD x788304 tok0)).kind), (@Value.string ((l.getD x788304 tok0)).text), (@Value.int IntKind.i64 ((l.getD x788304 tok0)).n)].getD x570695 (@Value.tuple (@Array.mk _ [])))))))), none, none, (some (boo false)), (some (int (0 : Int))), none, none, none, none, none, none, none, none, none, none, none, none, none, none, none, none, none, none, none, none]) ((@Mem.mk 0 0 []) = M0))) (.need (@isSo (@And ((l).length ≤ 17592186044416) ((0 : Int) = (0 : Int)))) (.leaf (boo true))))) (by kernel_rfl) (by
    refine fork_ok (fun h => ?_) (fun h => need_so ⟨rfl, rfl⟩ (need_so ⟨hl, rfl⟩ rfl))
    simp only [Bool.not_eq_true', Bool.not_eq_false', leI_t, leI_f, eqI_t, eqI_f, inR_t, inR_f, isSo_t, isSo_f] at h
    exact absurd trivial h)
noncomputable abbrev Sy.cSame (l : List TokV) : Con Try.prog := at1 55 [kv l, kv l] (boo true) (lim l) fun h => ⟨⟨⟨kv_free l, kv_free l, trivial⟩, trivial⟩, same_t l h⟩
/-! ### SameDecls -/
def decl0 : DeclV := ⟨⟨#[]⟩, [], false⟩
namespace Sy
def dcells (d : DeclV) : List AV := [.lit (.string d.name), kv d.value, boo d.imp]
abbrev dv (ds : List DeclV) : AV := .view ds.length 3 fun i j => (dcells (ds.getD i decl0)).getD j (.lit undef)
end Sy
/-sy sd_p
fun (ds : List DeclV) (d : D) => probeV SyTool.probe [] 400 30 30 [dv ds, dv ds] M0 d
-/
namespace Sy
abbrev sdF (ds : List DeclV) (k : Int) (b : Bool) : Fr := [some ((@AV.view (ds).length 3 (fun x441689 => (fun x223522 => ([(@AV.lit (@Value.string ((ds.getD x441689 decl0)).name)), (@AV.view (((ds.getD x441689 decl0)).value).length 3 (fun x718187 => (fun x869287 => (@AV.lit ([(@Value.int IntKind.i64 ((((ds.getD x441689 decl0)).value.getD x718187 tok0)).kind), (@Value.string ((((ds.getD x441689 decl0)).value.getD x718187 tok0)).text), (@Value.int IntKind.i64 ((((ds.getD x441689 decl0)).value.getD x718187 tok0)).n)].getD x869287 (@Value.tuple (@Array.mk _ []))))))), (boo ((ds.getD x441689 decl0)).imp)].getD x223522 (@AV.lit (@Value.tuple (@Array.mk _ [])))))))), some ((@AV.view (ds).length 3 (fun x370816 => (fun x264472 => ([(@AV.lit (@Value.string ((ds.getD x370816 decl0)).name)), (@AV.view (((ds.getD x370816 decl0)).value).length 3 (fun x725717 => (fun x152166 => (@AV.lit ([(@Value.int IntKind.i64 ((((ds.getD x370816 decl0)).value.getD x725717 tok0)).kind), (@Value.string ((((ds.getD x370816 decl0)).value.getD x725717 tok0)).text), (@Value.int IntKind.i64 ((((ds.getD x370816 decl0)).value.getD x725717 tok0)).n)].getD x152166 (@Value.tuple (@Array.mk _ []))))))), (boo ((ds.getD x370816 decl0)).imp)].getD x264472 (@AV.lit (@Value.tuple (@Array.mk _ [])))))))), none, none, some (boo b), some (int k), none, none, none, none, none, none, none, none, none, none, none, none, none, none, none, none, none, none, none, none, none, none, none, none, none, none, none, none, none, none, none, none, none, none, none, none, none, none, none, none, none, none, none, none, none, none, none, none, none]
end Sy
/-sy sd_r
fun (ds : List DeclV) (k : Int) (d : D) => reckL [cSame (ds.getD k.toNat decl0).value] [] 400 30 30 5 [true, true, false, false, true, true, false, false, false, false, false, false, false, false, false, false, false, false, false, false, false, false, false, false, false, false, false, false, false, false, false, false, false, false, false, false, false, false, false, false, false, false, false, false, false, false, false, false, false, false, false, false, false, false, false] (sdF ds k false) M0 d
-/
def DsOk (ds : List DeclV) : Prop := ds.length ≤ 17592186044416 ∧ ∀ d ∈ ds, lim d.value
theorem Sy.sd_scan (ds : List DeclV) (hl : DsOk ds) : LoopTo Try.prog (theBody Try.prog 30 5) (ds.length - 0 + 1) (sdF ds (0 : Nat) false) M0 fun ex F' M' => ex = .exit 0 ∧ F' = sdF ds ds.length false ∧ M' = M0 := by
  have key := hopL (P := Try.prog) (body := theBody Try.prog 30 5) ds.length (fun _ => false) (fun j => j + 1) (fun k _ => Nat.lt_succ_self k) (fun k h => h) (fun k => sdF ds (k : Nat) false) (fun k => sdF ds (k : Nat) false) (fun _ => M0) .ret (fun κ n G h0 c1 c2 c3 => by
    generalize hκ : (κ : Int) = k at *
    refine roundL [cSame (ds.getD k.toNat decl0).value] [] 400 30 30 5 Try.func30 rfl (by kernel_rfl) [true, true, false, false, true, true, false, false, false, false, false, false, false, false, false, false, false, false, false, false, false, false, false, false, false, false, false, false, false, false, false, false, false, false, false, false, false, false, false, false, false, false, false, false, false, false, false, false, false, false, false, false, false, false, false] (.br (.yes (.yes (.br (.auto 1 (.yes (.auto 4 (.yes (.auto 3 (.br (.auto 1 (.yes (.auto 4 (.yes (.auto 2 (.yes (.auto 2 .done))))))) (.auto 12 .done))))))) (.auto 24 .done)))) .done) (.fork (!(leI (((ds).length : Nat) : Int) k)) (.need (@inR k (ds).length) (.need (@inR k (ds).length) (.fork (!(!(@bytesEq (@Array.toList _ (@ByteArray.data ((ds.getD (k).toNat decl0)).name)) (@Array.toList _ (@ByteArray.data ((ds.getD (k).toNat decl0)).name))))) (.need (@inR k (ds).length) (.need (@inR k (ds).length) (.fork (!(!(@Decidable.decide (((ds.getD (k).toNat decl0)).imp = ((ds.getD (k).toNat decl0)).imp) _))) (.need (@inR k (ds).length) (.need (@inR k (ds).length) (.need (@isSo (@And ([(@AV.view (((ds.getD (k).toNat decl0)).value).length 3 (fun x159739 => (fun x954263 => (@AV.lit ([(@Value.int IntKind.i64 ((((ds.getD (k).toNat decl0)).value.getD x159739 tok0)).kind), (@Value.string ((((ds.getD (k).toNat decl0)).value.getD x159739 tok0)).text), (@Value.int IntKind.i64 ((((ds.getD (k).toNat decl0)).value.getD x159739 tok0)).n)].getD x954263 (@Value.tuple (@Array.mk _ []))))))), (@AV.view (((ds.getD (k).toNat decl0)).value).length 3 (fun x658896 => (fun x545501 => (@AV.lit ([(@Value.int IntKind.i64 ((((ds.getD (k).toNat decl0)).value.getD x658896 tok0)).kind), (@Value.string ((((ds.getD (k).toNat decl0)).value.getD x658896 tok0)).text), (@Value.int IntKind.i64 ((((ds.getD (k).toNat decl0)).value.getD x658896 tok0)).n)].getD x545501 (@Value.tuple (@Array.mk _ [])))))))] = [(@AV.view (((ds.getD (k).toNat decl0)).value).length 3 (fun x857989 => (fun x529718 => (@AV.lit ([(@Value.int IntKind.i64 ((((ds.getD (k).toNat decl0)).value.getD x857989 tok0)).kind), (@Value.string ((((ds.getD (k).toNat decl0)).value.getD x857989 tok0)).text), (@Value.int IntKind.i64 ((((ds.getD (k).toNat decl0)).value.getD x857989 tok0)).n)].getD x529718 (@Value.tuple (@Array.mk _ []))))))), (@AV.view (((ds.getD (k).toNat decl0)).value).length 3 (fun x319626 => (fun x345907 => (@AV.lit ([(@Value.int IntKind.i64 ((((ds.getD (k).toNat decl0)).value.getD x319626 tok0)).kind), (@Value.string ((((ds.getD (k).toNat decl0)).value.getD x319626 tok0)).text), (@Value.int IntKind.i64 ((((ds.getD (k).toNat decl0)).value.getD x319626 tok0)).n)].getD x345907 (@Value.tuple (@Array.mk _ [])))))))]) ((((ds.getD (k).toNat decl0)).value).length ≤ 17592186044416))) (.leaf (Ex.norm, ([(some (@AV.view (ds).length 3 (fun x5492 => (fun x136108 => ([(@AV.lit (@Value.string ((ds.getD x5492 decl0)).name)), (@AV.view (((ds.getD x5492 decl0)).value).length 3 (fun x429873 => (fun x210809 => (@AV.lit ([(@Value.int IntKind.i64 ((((ds.getD x5492 decl0)).value.getD x429873 tok0)).kind), (@Value.string ((((ds.getD x5492 decl0)).value.getD x429873 tok0)).text), (@Value.int IntKind.i64 ((((ds.getD x5492 decl0)).value.getD x429873 tok0)).n)].getD x210809 (@Value.tuple (@Array.mk _ []))))))), (boo ((ds.getD x5492 decl0)).imp)].getD x136108 (@AV.lit (@Value.tuple (@Array.mk _ [])))))))), (some (@AV.view (ds).length 3 (fun x313198 => (fun x247183 => ([(@AV.lit (@Value.string ((ds.getD x313198 decl0)).name)), (@AV.view (((ds.getD x313198 decl0)).value).length 3 (fun x359611 => (fun x465664 => (@AV.lit ([(@Value.int IntKind.i64 ((((ds.getD x313198 decl0)).value.getD x359611 tok0)).kind), (@Value.string ((((ds.getD x313198 decl0)).value.getD x359611 tok0)).text), (@Value.int IntKind.i64 ((((ds.getD x313198 decl0)).value.getD x359611 tok0)).n)].getD x465664 (@Value.tuple (@Array.mk _ []))))))), (boo ((ds.getD x313198 decl0)).imp)].getD x247183 (@AV.lit (@Value.tuple (@Array.mk _ [])))))))), none, none, (some (boo false)), (some (int (w64 (k + (1 : Int))))), none, none, none, none, none, none, none, none, none, none, none, none, none, none, none, none, none, none, none, none, none, none, none, none, none, none, none, none, none, none, none, none, none, none, none, none, none, none, none, none, none, none, none, none, none, none, none, none, none], (@Mem.mk 0 0 []))))))) (.leaf (Ex.ret, ([(some (@AV.view (ds).length 3 (fun x808562 => (fun x270830 => ([(@AV.lit (@Value.string ((ds.getD x808562 decl0)).name)), (@AV.view (((ds.getD x808562 decl0)).value).length 3 (fun x56247 => (fun x768060 => (@AV.lit ([(@Value.int IntKind.i64 ((((ds.getD x808562 decl0)).value.getD x56247 tok0)).kind), (@Value.string ((((ds.getD x808562 decl0)).value.getD x56247 tok0)).text), (@Value.int IntKind.i64 ((((ds.getD x808562 decl0)).value.getD x56247 tok0)).n)].getD x768060 (@Value.tuple (@Array.mk _ []))))))), (boo ((ds.getD x808562 decl0)).imp)].getD x270830 (@AV.lit (@Value.tuple (@Array.mk _ [])))))))), (some (@AV.view (ds).length 3 (fun x688764 => (fun x670505 => ([(@AV.lit (@Value.string ((ds.getD x688764 decl0)).name)), (@AV.view (((ds.getD x688764 decl0)).value).length 3 (fun x569705 => (fun x549202 => (@AV.lit ([(@Value.int IntKind.i64 ((((ds.getD x688764 decl0)).value.getD x569705 tok0)).kind), (@Value.string ((((ds.getD x688764 decl0)).value.getD x569705 tok0)).text), (@Value.int IntKind.i64 ((((ds.getD x688764 decl0)).value.getD x569705 tok0)).n)].getD x549202 (@Value.tuple (@Array.mk _ []))))))), (boo ((ds.getD x688764 decl0)).imp)].getD x670505 (@AV.lit (@Value.tuple (@Array.mk _ [])))))))), none, none, (some (boo false)), (some (int k)), none, none, none, none, none, none, none, none, none, none, none, none, none, none, none, none, none, none, none, none, none, none, none, none, none, none, none, none, none, none, none, none, none, none, none, none, none, none, none, none, none, none, none, none, none, none, none, none, none], (@Mem.mk 0 0 []))))))) (.leaf (Ex.ret, ([(some (@AV.view (ds).length 3 (fun x994457 => (fun x790193 => ([(@AV.lit (@Value.string ((ds.getD x994457 decl0)).name)), (@AV.view (((ds.getD x994457 decl0)).value).length 3 (fun x890742 => (fun x582175 => (@AV.lit ([(@Value.int IntKind.i64 ((((ds.getD x994457 decl0)).value.getD x890742 tok0)).kind), (@Value.string ((((ds.getD x994457 decl0)).value.getD x890742 tok0)).text), (@Value.int IntKind.i64 ((((ds.getD x994457 decl0)).value.getD x890742 tok0)).n)].getD x582175 (@Value.tuple (@Array.mk _ []))))))), (boo ((ds.getD x994457 decl0)).imp)].getD x790193 (@AV.lit (@Value.tuple (@Array.mk _ [])))))))), (some (@AV.view (ds).length 3 (fun x972083 => (fun x554592 => ([(@AV.lit (@Value.string ((ds.getD x972083 decl0)).name)), (@AV.view (((ds.getD x972083 decl0)).value).length 3 (fun x353304 => (fun x311461 => (@AV.lit ([(@Value.int IntKind.i64 ((((ds.getD x972083 decl0)).value.getD x353304 tok0)).kind), (@Value.string ((((ds.getD x972083 decl0)).value.getD x353304 tok0)).text), (@Value.int IntKind.i64 ((((ds.getD x972083 decl0)).value.getD x353304 tok0)).n)].getD x311461 (@Value.tuple (@Array.mk _ []))))))), (boo ((ds.getD x972083 decl0)).imp)].getD x554592 (@AV.lit (@Value.tuple (@Array.mk _ [])))))))), none, none, (some (boo false)), (some (int k)), none, none, none, none, none, none, none, none, none, none, none, none, none, none, none, none, none, none, none, none, none, none, none, none, none, none, none, none, none, none, none, none, none, none, none, none, none, none, none, none, none, none, none, none, none, none, none, none, none], (@Mem.mk 0 0 []))))))) (.leaf ((@Ex.exit 0), ([(some (@AV.view (ds).length 3 (fun x263920 => (fun x944360 => ([(@AV.lit (@Value.string ((ds.getD x263920 decl0)).name)), (@AV.view (((ds.getD x263920 decl0)).value).length 3 (fun x45845 => (fun x653694 => (@AV.lit ([(@Value.int IntKind.i64 ((((ds.getD x263920 decl0)).value.getD x45845 tok0)).kind), (@Value.string ((((ds.getD x263920 decl0)).value.getD x45845 tok0)).text), (@Value.int IntKind.i64 ((((ds.getD x263920 decl0)).value.getD x45845 tok0)).n)].getD x653694 (@Value.tuple (@Array.mk _ []))))))), (boo ((ds.getD x263920 decl0)).imp)].getD x944360 (@AV.lit (@Value.tuple (@Array.mk _ [])))))))), (some (@AV.view (ds).length 3 (fun x155690 => (fun x133179 => ([(@AV.lit (@Value.string ((ds.getD x155690 decl0)).name)), (@AV.view (((ds.getD x155690 decl0)).value).length 3 (fun x693484 => (fun x116708 => (@AV.lit ([(@Value.int IntKind.i64 ((((ds.getD x155690 decl0)).value.getD x693484 tok0)).kind), (@Value.string ((((ds.getD x155690 decl0)).value.getD x693484 tok0)).text), (@Value.int IntKind.i64 ((((ds.getD x155690 decl0)).value.getD x693484 tok0)).n)].getD x116708 (@Value.tuple (@Array.mk _ []))))))), (boo ((ds.getD x155690 decl0)).imp)].getD x133179 (@AV.lit (@Value.tuple (@Array.mk _ [])))))))), none, none, (some (boo false)), (some (int k)), none, none, none, none, none, none, none, none, none, none, none, none, none, none, none, none, none, none, none, none, none, none, none, none, none, none, none, none, none, none, none, none, none, none, none, none, none, none, none, none, none, none, none, none, none, none, none, none, none], (@Mem.mk 0 0 []))))) (by kernel_rfl) ?_
    have hl' : ds.length ≤ 17592186044416 := hl.1
    refine fork_ok (fun h => ?_) (fun h => ?_)
    · simp only [Bool.not_eq_true', Bool.not_eq_false', leI_t, leI_f, eqI_t, eqI_f, inR_t, inR_f, isSo_t, isSo_f] at h
      have hk : κ < ds.length := by omega
      have hr : inR k ds.length = true := by rw [inR_t]; omega
      have := c1 hk rfl
      rw [show ((κ + 1 : Nat) : Int) = k + 1 by omega] at this
      have hv : lim (ds.getD k.toNat decl0).value := hl.2 _ (by
        rw [List.getD_eq_getElem?_getD, List.getElem?_eq_getElem (show k.toNat < ds.length by omega)]
        exact List.getElem_mem _)
      refine need_t hr (need_t hr (fork_ok (fun h2 => need_t hr (need_t hr (fork_ok (fun h3 => need_t hr (need_t hr (need_so ⟨rfl, hv⟩ ?_))) (fun h3 => ?_)))) (fun h2 => ?_)))
      · rw [w64_in (r := k + 1) (by omega)]
        exact this
      · simp at h3
      · rw [bytes_self] at h2; simp at h2
    · simp only [Bool.not_eq_true', Bool.not_eq_false', leI_t, leI_f, eqI_t, eqI_f, inR_t, inR_f, isSo_t, isSo_f] at h
      have hk : κ = ds.length := by omega
      have := c3 hk
      rw [← hk, hκ] at this
      exact this) 0 (Nat.zero_le _)
  refine key.mono fun ex F M hg => ?_
  obtain ⟨rfl, hg⟩ := hg
  rcases hg with ⟨q1, rfl, rfl⟩ | ⟨q1, rfl, rfl⟩
  · have := hops_at (g := fun _ => false) (nx := fun j => j + 1) (m := ds.length) (fun k _ => Nat.lt_succ_self k) _ 0 (Nat.le_refl _) q1
    cases this
  · exact ⟨rfl, rfl, rfl⟩
namespace Sy
abbrev sdFE (ds : List DeclV) : Fr := [some ((@AV.view (ds).length 3 (fun x441689 => (fun x223522 => ([(@AV.lit (@Value.string ((ds.getD x441689 decl0)).name)), (@AV.view (((ds.getD x441689 decl0)).value).length 3 (fun x718187 => (fun x869287 => (@AV.lit ([(@Value.int IntKind.i64 ((((ds.getD x441689 decl0)).value.getD x718187 tok0)).kind), (@Value.string ((((ds.getD x441689 decl0)).value.getD x718187 tok0)).text), (@Value.int IntKind.i64 ((((ds.getD x441689 decl0)).value.getD x718187 tok0)).n)].getD x869287 (@Value.tuple (@Array.mk _ []))))))), (boo ((ds.getD x441689 decl0)).imp)].getD x223522 (@AV.lit (@Value.tuple (@Array.mk _ [])))))))), some ((@AV.view (ds).length 3 (fun x370816 => (fun x264472 => ([(@AV.lit (@Value.string ((ds.getD x370816 decl0)).name)), (@AV.view (((ds.getD x370816 decl0)).value).length 3 (fun x725717 => (fun x152166 => (@AV.lit ([(@Value.int IntKind.i64 ((((ds.getD x370816 decl0)).value.getD x725717 tok0)).kind), (@Value.string ((((ds.getD x370816 decl0)).value.getD x725717 tok0)).text), (@Value.int IntKind.i64 ((((ds.getD x370816 decl0)).value.getD x725717 tok0)).n)].getD x152166 (@Value.tuple (@Array.mk _ []))))))), (boo ((ds.getD x370816 decl0)).imp)].getD x264472 (@AV.lit (@Value.tuple (@Array.mk _ [])))))))), none, none, none, none, none, none, none, none, none, none, none, none, none, none, none, none, none, none, none, none, none, none, none, none, none, none, none, none, none, none, none, none, none, none, none, none, none, none, none, none, none, none, none, none, none, none, none, none, none, none, none, none, none]
noncomputable abbrev lp_sd (ds : List DeclV) : Lp Try.prog where
  f := 30
  key := 5
  S := formS (fun F M => slotI F 5) (fun k => sdF ds k false) (fun _ => M0) (fun k => (DsOk ds) ∧ k = 0) (fun k => .leaf (.exit 0, sdFE ds, M0)) [true, true, false, false, true, true, false, false, false, false, false, false, false, false, false, false, false, false, false, false, false, false, false, false, false, false, false, false, false, false, false, false, false, false, false, false, false, false, false, false, false, false, false, false, false, false, false, false, false, false, false, false, false, false, false]
  one := by kernel_rfl
  ok := formS_ok fun k ⟨h1, h2⟩ => by
    subst h2
    refine ⟨_, ((Sy.sd_scan ds h1).out [true, true, false, false, false, false, false, false, false, false, false, false, false, false, false, false, false, false, false, false, false, false, false, false, false, false, false, false, false, false, false, false, false, false, false, false, false, false, false, false, false, false, false, false, false, false, false, false, false, false, false, false, false, false, false]).mono fun ex F M hg => ?_⟩
    obtain ⟨F0, ⟨rfl, rfl, rfl⟩, rfl⟩ := hg
    rfl
end Sy
/-sy sd_t
fun (ds : List DeclV) (d : D) => reckV [] [lp_sd ds] 400 30 30 [dv ds, dv ds] M0 d
-/
theorem Sy.sd_t (ds : List DeclV) (hl : DsOk ds) : CallTo Try.prog 30 [dv ds, dv ds] M0 fun v _ => v = boo true :=
  toV [] [lp_sd ds] 400 30 (.br .done .done) (.fork (!(eqI (((ds).length : Nat) : Int) (((ds).length : Nat) : Int))) (.leaf (boo false)) (.need (@isSo (@And (((some (@AV.view (ds).length 3 (fun x2700 => (fun x619537 => ([(@AV.lit (@Value.string ((ds.getD x2700 decl0)).name)), (@AV.view (((ds.getD x2700 decl0)).value).length 3 (fun x264410 => (fun x271950 => (@AV.lit ([(@Value.int IntKind.i64 ((((ds.getD x2700 decl0)).value.getD x264410 tok0)).kind), (@Value.string ((((ds.getD x2700 decl0)).value.getD x264410 tok0)).text), (@Value.int IntKind.i64 ((((ds.getD x2700 decl0)).value.getD x264410 tok0)).n)].getD x271950 (@Value.tuple (@Array.mk _ []))))))), (boo ((ds.getD x2700 decl0)).imp)].getD x619537 (@AV.lit (@Value.tuple (@Array.mk _ [])))))))) :: (some (@AV.view (ds).length 3 (fun x433007 => (fun x502088 => ([(@AV.lit (@Value.string ((ds.getD x433007 decl0)).name)), (@AV.view (((ds.getD x433007 decl0)).value).length 3 (fun x476832 => (fun x788973 => (@AV.lit ([(@Value.int IntKind.i64 ((((ds.getD x433007 decl0)).value.getD x476832 tok0)).kind), (@Value.string ((((ds.getD x433007 decl0)).value.getD x476832 tok0)).text), (@Value.int IntKind.i64 ((((ds.getD x433007 decl0)).value.getD x476832 tok0)).n)].getD x788973 (@Value.tuple (@Array.mk _ []))))))), (boo ((ds.getD x433007 decl0)).imp)].getD x502088 (@AV.lit (@Value.tuple (@Array.mk _ [])))))))) :: [none, none, (some (boo false)), (some (int (0 : Int))), none, none, none, none, none, none, none, none, none, none, none, none, none, none, none, none, none, none, none, none, none, none, none, none, none, none, none, none, none, none, none, none, none, none, none, none, none, none, none, none, none, none, none, none, none, none, none, none, none]) = [(some (@AV.view (ds).length 3 (fun x305781 => (fun x329714 => ([(@AV.lit (@Value.string ((ds.getD x305781 decl0)).name)), (@AV.view (((ds.getD x305781 decl0)).value).length 3 (fun x175339 => (fun x915191 => (@AV.lit ([(@Value.int IntKind.i64 ((((ds.getD x305781 decl0)).value.getD x175339 tok0)).kind), (@Value.string ((((ds.getD x305781 decl0)).value.getD x175339 tok0)).text), (@Value.int IntKind.i64 ((((ds.getD x305781 decl0)).value.getD x175339 tok0)).n)].getD x915191 (@Value.tuple (@Array.mk _ []))))))), (boo ((ds.getD x305781 decl0)).imp)].getD x329714 (@AV.lit (@Value.tuple (@Array.mk _ [])))))))), (some (@AV.view (ds).length 3 (fun x434948 => (fun x136324 => ([(@AV.lit (@Value.string ((ds.getD x434948 decl0)).name)), (@AV.view (((ds.getD x434948 decl0)).value).length 3 (fun x600865 => (fun x307478 => (@AV.lit ([(@Value.int IntKind.i64 ((((ds.getD x434948 decl0)).value.getD x600865 tok0)).kind), (@Value.string ((((ds.getD x434948 decl0)).value.getD x600865 tok0)).text), (@Value.int IntKind.i64 ((((ds.getD x434948 decl0)).value.getD x600865 tok0)).n)].getD x307478 (@Value.tuple (@Array.mk _ []))))))), (boo ((ds.getD x434948 decl0)).imp)].getD x136324 (@AV.lit (@Value.tuple (@Array.mk _ [])))))))), none, none, (some (boo false)), (some (int (0 : Int))), none, none, none, none, none, none, none, none, none, none, none, none, none, none, none, none, none, none, none, none, none, none, none, none, none, none, none, none, none, none, none, none, none, none, none, none, none, none, none, none, none, none, none, none, none, none, none, none, none]) ((@Mem.mk 0 0 []) = M0))) (.need (@isSo (@And (@And ((ds).length ≤ 17592186044416) (∀ (d : DeclV), d ∈ ds → lim d.value)) ((0 : Int) = (0 : Int)))) (.leaf (boo true))))) (by kernel_rfl) (by
    refine fork_ok (fun h => ?_) (fun h => need_so ⟨rfl, rfl⟩ (need_so ⟨hl, rfl⟩ rfl))
    simp only [Bool.not_eq_true', Bool.not_eq_false', leI_t, leI_f, eqI_t, eqI_f, inR_t, inR_f, isSo_t, isSo_f] at h
    exact absurd trivial h)
theorem rel_dv {W : World} {a : Option Addr} {cap : Nat} {rs : List DRow} {ds : List DeclV} (h : RDecls W a cap rs) (hd : ReadsD W rs ds) : Sy.rel (Sy.rho0 W) (Sy.dv ds) (.slice a rs.length cap) := by
  have hlen : rs.length = ds.length := by rw [← hd.1]; simp
  simp only [Sy.dv, Sy.rel]
  refine ⟨a, cap, by rw [hlen], by rw [← hlen]; exact h.le, h.max, h.nil, fun hn => ?_⟩
  rw [← hlen] at hn
  obtain ⟨b, off, rfl, hb, hcell⟩ := h.base (fun e => by rw [e] at hn; simp at hn)
  refine ⟨b, off, rfl, fun i j hi hj => ?_⟩
  rw [← hlen] at hi
  have hg : ds.getD i decl0 = rs[i].d := by
    rw [← hd.1, List.getD_eq_getElem?_getD, List.getElem?_map, List.getElem?_eq_getElem hi]; rfl
  rw [hg]
  have hv := hd.2 rs[i] (List.getElem_mem _)
  match j, hj with
  | 0, _ =>
    refine ⟨.string rs[i].d.name, ?_, ?_, rfl⟩
    · simp only [Sy.rho0, if_pos hb]; exact hcell i hi 0 _ rfl
    · simp [Sy.dcells, Sy.rel]
  | 1, _ =>
    refine ⟨.slice rs[i].a rs[i].d.value.length rs[i].cap, ?_, ?_, rfl⟩
    · simp only [Sy.rho0, if_pos hb]; exact hcell i hi 1 _ rfl
    · exact rel_kv hv
  | 2, _ =>
    refine ⟨.bool rs[i].d.imp, ?_, ?_, rfl⟩
    · simp only [Sy.rho0, if_pos hb]; exact hcell i hi 2 _ rfl
    · simp [Sy.dcells, Sy.rel]
theorem same_decls {w : World} {a b : Option Addr} {c d : Nat} {rs qs : List DRow} {ds : List DeclV} (h1 : RDecls w a c rs) (h2 : RDecls w b d qs) (g1 : ReadsD w rs ds) (g2 : ReadsD w qs ds) :
    Calls Try.prog 30 #[.slice a rs.length c, .slice b qs.length d] w fun e w' => e = .returned (.bool true) ∧ Below w.heap.size w w' := by
  have hlen : rs.length = ds.length := by rw [← g1.1]; simp
  have hok : DsOk ds := ⟨by rw [← hlen]; exact h1.sm, fun x hx => by
    rw [← g1.1] at hx
    obtain ⟨r, hr, rfl⟩ := List.mem_map.1 hx
    exact (g1.2 r hr).sm⟩
  refine (((Sy.sd_t ds hok).mono fun v _ e => (⟨_, e, rfl⟩ : ∃ u, v = .lit u ∧ u = .bool true)).calls (us := [.slice a rs.length c, .slice b qs.length d]) ?_).mono ?_
  · simp only [Sy.rels]
    exact ⟨_, _, rfl, rel_dv h1 g1, _, _, rfl, rel_dv h2 g2, rfl⟩
  · rintro e w' ⟨⟨u, rfl, rfl⟩, hb⟩
    exact ⟨rfl, hb⟩
end Go.Proofs.Ytjljlcflmcjapaa
