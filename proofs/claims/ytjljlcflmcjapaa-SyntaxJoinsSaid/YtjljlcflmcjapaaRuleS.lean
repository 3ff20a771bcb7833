/-
  Layer 6: Closed; are two lists of rules the same? Where they are.
-/
import Derived.Test.YtjljlcflmcjapaaRuleW2
namespace Go.Proofs.Ytjljlcflmcjapaa
open Go Go.RowKit Pl
set_option linter.unusedVariables false
set_option linter.unusedSimpArgs false
theorem rel_kv {W : World} {a : Option Addr} {cap : Nat} {xs : List TokV} (h : RToks W a cap xs) : Sy.rel (Sy.rho0 W) (Sy.kv xs) (.slice a xs.length cap) := by
  simp only [Sy.kv, Sy.viewOf, Sy.rel]
  refine ⟨a, cap, rfl, h.le, h.max, h.nil, fun hn => ?_⟩
  obtain ⟨b, off, rfl, hb, hcell⟩ := h.base (fun e => by rw [e] at hn; simp at hn)
  refine ⟨b, off, rfl, fun i j hi hj => ?_⟩
  have hg : xs.getD i tok0 = xs[i] := by rw [List.getD_eq_getElem?_getD, List.getElem?_eq_getElem hi]; rfl
  have hj' : j < (TokV.cells xs[i]).length := hj
  have hu : (TokV.cells xs[i])[j]? = some (TokV.cells xs[i])[j] := List.getElem?_eq_getElem hj'
  refine ⟨(TokV.cells xs[i])[j], ?_, ?_, Sy.tok_one _ _ (List.getElem_mem _)⟩
  · simp only [Sy.rho0, if_pos hb]
    exact hcell i hi j _ hu
  · rw [hg, List.getD_eq_getElem?_getD, hu]
    simp only [Option.getD_some]
/-sy clo_p
fun (l : List TokV) (d : D) => Sy.probeV SyTool.probe [Sy.cMatchR l] 400 30 33 [Sy.kv l] Sy.M0 d
-/
namespace Sy
abbrev clF (l : List TokV) (i : Int) (b : Bool) : Fr := [some ((@AV.view (l).length 3 (fun x864417 => (fun x781353 => (@AV.lit ([(@Value.int IntKind.i64 ((l.getD x864417 tok0)).kind), (@Value.string ((l.getD x864417 tok0)).text), (@Value.int IntKind.i64 ((l.getD x864417 tok0)).n)].getD x781353 (@Value.tuple (@Array.mk _ [])))))))), none, some (boo b), some (int i), none, none, none, none, none, none, none, none, none, none, none, none, none, none]
end Sy
/-sy clo_r
fun (l : List TokV) (i : Int) (d : D) => Sy.reckL [Sy.cMatchR l] [] 400 30 33 3 [true, false, true, true, false, false, false, false, false, false, false, false, false, false, false, false, false, false] (Sy.clF l i false) Sy.M0 d
-/
section
open Sy
theorem Sy.clo_scan (l : List TokV) (hl : lim l) : ∀ i, LoopTo Try.prog (theBody Try.prog 33 3) (l.length - i + 1) (clF l i false) M0 fun ex F' M' => M' = M0 ∧ ((closedF l i < l.length ∧ ex = .ret ∧ F' = clF l (closedF l i : Nat) false) ∨ (l.length ≤ closedF l i ∧ ex = .exit 0 ∧ F' = clF l (closedF l i : Nat) false)) :=
  hopM l.length (fun j => decide (mt l j = l.length)) (fun j => mt l j + 1) (mt_gt l) (fun i => clF l i false) (fun i => clF l i false) (fun _ => M0) .ret (.exit 0) fun κ n G c1 c2 c3 => by
    generalize hκ : (κ : Int) = i at *
    refine roundL [cMatchR l] [] 400 30 33 3 Try.func33 rfl (by kernel_rfl) [true, false, true, true, false, false, false, false, false, false, false, false, false, false, false, false, false, false] (.br (.yes (.br .done .done)) .done) (.fork (!(leI (((l).length : Nat) : Int) i)) (.need (@isSo (@And ([(@AV.view (l).length 3 (fun x996079 => (fun x532067 => (@AV.lit ([(@Value.int IntKind.i64 ((l.getD x996079 tok0)).kind), (@Value.string ((l.getD x996079 tok0)).text), (@Value.int IntKind.i64 ((l.getD x996079 tok0)).n)].getD x532067 (@Value.tuple (@Array.mk _ []))))))), (int i)] = [(@AV.view (l).length 3 (fun x772378 => (fun x119686 => (@AV.lit ([(@Value.int IntKind.i64 ((l.getD x772378 tok0)).kind), (@Value.string ((l.getD x772378 tok0)).text), (@Value.int IntKind.i64 ((l.getD x772378 tok0)).n)].getD x119686 (@Value.tuple (@Array.mk _ []))))))), (int i)]) ((l).length ≤ 17592186044416))) (.fork (eqI (@mtI l i) (((l).length : Nat) : Int)) (.leaf (Ex.ret, ([(some (@AV.view (l).length 3 (fun x520180 => (fun x729311 => (@AV.lit ([(@Value.int IntKind.i64 ((l.getD x520180 tok0)).kind), (@Value.string ((l.getD x520180 tok0)).text), (@Value.int IntKind.i64 ((l.getD x520180 tok0)).n)].getD x729311 (@Value.tuple (@Array.mk _ [])))))))), none, (some (boo false)), (some (int i)), none, none, none, none, none, none, none, none, none, none, none, none, none, none], (@Mem.mk 0 0 [])))) (.leaf (Ex.norm, ([(some (@AV.view (l).length 3 (fun x381985 => (fun x421556 => (@AV.lit ([(@Value.int IntKind.i64 ((l.getD x381985 tok0)).kind), (@Value.string ((l.getD x381985 tok0)).text), (@Value.int IntKind.i64 ((l.getD x381985 tok0)).n)].getD x421556 (@Value.tuple (@Array.mk _ [])))))))), none, (some (boo false)), (some (int (w64 ((@mtI l i) + (1 : Int))))), none, none, none, none, none, none, none, none, none, none, none, none, none, none], (@Mem.mk 0 0 [])))))) (.leaf ((@Ex.exit 0), ([(some (@AV.view (l).length 3 (fun x976213 => (fun x493288 => (@AV.lit ([(@Value.int IntKind.i64 ((l.getD x976213 tok0)).kind), (@Value.string ((l.getD x976213 tok0)).text), (@Value.int IntKind.i64 ((l.getD x976213 tok0)).n)].getD x493288 (@Value.tuple (@Array.mk _ [])))))))), none, (some (boo false)), (some (int i)), none, none, none, none, none, none, none, none, none, none, none, none, none, none], (@Mem.mk 0 0 []))))) (by kernel_rfl) ?_
    have hl' : l.length ≤ 17592186044416 := hl
    refine fork_ok (fun h => ?_) (fun h => ?_)
    · simp only [Bool.not_eq_true', Bool.not_eq_false', leI_t, leI_f, eqI_t, eqI_f, inR_t, inR_f, isSo_t, isSo_f] at h
      have hk : κ < l.length := by omega
      have hm := mt_le hk
      have e1 : mtI l i = (mt l κ : Int) := by rw [← hκ]; exact (mt_int l κ).1
      refine need_so ⟨rfl, hl⟩ (fork_ok (fun h2 => ?_) (fun h2 => ?_))
      · simp only [Bool.not_eq_true', Bool.not_eq_false', leI_t, leI_f, eqI_t, eqI_f, inR_t, inR_f, isSo_t, isSo_f] at h2
        exact c2 hk (by rw [decide_eq_true_eq]; omega)
      · simp only [Bool.not_eq_true', Bool.not_eq_false', leI_t, leI_f, eqI_t, eqI_f, inR_t, inR_f, isSo_t, isSo_f] at h2
        have := c1 hk (by rw [decide_eq_false_iff_not]; omega)
        rw [show ((mt l κ + 1 : Nat) : Int) = w64 (mtI l i + 1) by rw [e1, w64_in (r := (mt l κ : Int) + 1) (by omega)]; omega] at this
        exact this
    · simp only [Bool.not_eq_true', Bool.not_eq_false', leI_t, leI_f, eqI_t, eqI_f, inR_t, inR_f, isSo_t, isSo_f] at h
      exact c3 (by omega)
namespace Sy
abbrev clE (l : List TokV) (b : Bool) : Fr := [some ((@AV.view (l).length 3 (fun x864417 => (fun x781353 => (@AV.lit ([(@Value.int IntKind.i64 ((l.getD x864417 tok0)).kind), (@Value.string ((l.getD x864417 tok0)).text), (@Value.int IntKind.i64 ((l.getD x864417 tok0)).n)].getD x781353 (@Value.tuple (@Array.mk _ [])))))))), none, some (boo b), none, none, none, none, none, none, none, none, none, none, none, none, none, none, none]
noncomputable abbrev lp_cl (l : List TokV) : Lp Try.prog where
  f := 33
  key := 3
  S := formS (fun F M => slotI F 3) (fun i => clF l i false) (fun _ => M0) (fun i => lim l ∧ i = 0) (fun i => .fork (!leI (l.length : Nat) (closedF l 0 : Nat)) (.leaf (.ret, clE l false, M0)) (.leaf (.exit 0, clE l false, M0))) [true, false, true, true, false, false, false, false, false, false, false, false, false, false, false, false, false, false]
  one := by kernel_rfl
  ok := formS_ok fun i ⟨h1, h2⟩ => by
    subst h2
    refine ⟨_, ((Sy.clo_scan l h1 0).out [true, false, true, false, false, false, false, false, false, false, false, false, false, false, false, false, false, false]).mono fun ex F M hg => ?_⟩
    obtain ⟨F0, ⟨rfl, hg⟩, rfl⟩ := hg
    rcases hg with ⟨q1, rfl, rfl⟩ | ⟨q1, rfl, rfl⟩
    · exact .inl ⟨by rw [Bool.not_eq_true', leI_f]; omega, rfl⟩
    · exact .inr ⟨by rw [Bool.not_eq_false', leI_t]; omega, rfl⟩
end Sy
/-sy clo_t
fun (l : List TokV) (d : D) => Sy.reckV [] [Sy.lp_cl l] 400 30 33 [Sy.kv l] Sy.M0 d
-/
theorem Sy.clo_t (l : List TokV) (hl : lim l) : CallTo Try.prog 33 [kv l] M0 fun v _ => v = boo (leI (l.length : Nat) (closedF l 0 : Nat)) :=
  toV [] [lp_cl l] 400 30 (.br .done .done) (.need (@isSo (@And (((some (@AV.view (l).length 3 (fun x300044 => (fun x688105 => (@AV.lit ([(@Value.int IntKind.i64 ((l.getD x300044 tok0)).kind), (@Value.string ((l.getD x300044 tok0)).text), (@Value.int IntKind.i64 ((l.getD x300044 tok0)).n)].getD x688105 (@Value.tuple (@Array.mk _ [])))))))) :: [none, (some (boo false)), (some (int (0 : Int))), none, none, none, none, none, none, none, none, none, none, none, none, none, none]) = [(some (@AV.view (l).length 3 (fun x523817 => (fun x647778 => (@AV.lit ([(@Value.int IntKind.i64 ((l.getD x523817 tok0)).kind), (@Value.string ((l.getD x523817 tok0)).text), (@Value.int IntKind.i64 ((l.getD x523817 tok0)).n)].getD x647778 (@Value.tuple (@Array.mk _ [])))))))), none, (some (boo false)), (some (int (0 : Int))), none, none, none, none, none, none, none, none, none, none, none, none, none, none]) ((@Mem.mk 0 0 []) = M0))) (.need (@isSo (@And ((l).length ≤ 17592186044416) ((0 : Int) = (0 : Int)))) (.fork (!(leI (((l).length : Nat) : Int) (((@closedF l 0) : Nat) : Int))) (.leaf (boo false)) (.leaf (boo true))))) (by kernel_rfl) (by
    refine need_so ⟨rfl, rfl⟩ (need_so ⟨hl, rfl⟩ (fork_ok (fun q => ?_) (fun q => ?_)))
    · rw [Bool.not_eq_true'] at q; rw [q]; rfl
    · rw [Bool.not_eq_false'] at q; rw [q]; rfl)
end
theorem closed_w {w : World} {a : Option Addr} {cap : Nat} {m : List TokV} (h : RToks w a cap m) :
    Calls Try.prog 33 #[.slice a m.length cap] w fun e w' => e = .returned (.bool (decide (m.length ≤ closedF m 0))) ∧ Below w.heap.size w w' := by
  refine (((Sy.clo_t m h.sm).mono fun v _ e => (⟨_, e, rfl⟩ : ∃ u, v = .lit u ∧ u = .bool (Sy.leI (m.length : Nat) (closedF m 0 : Nat)))).calls (us := [.slice a m.length cap]) ?_).mono ?_
  · simp only [Sy.rels]
    exact ⟨_, _, rfl, rel_kv h, rfl⟩
  · rintro e w' ⟨⟨u, rfl, rfl⟩, hb⟩
    refine ⟨?_, hb⟩
    rw [Sy.leI_eq]
    exact ret_bool (by rw [Bool.eq_iff_iff]; simp)
open Sy
/-sy same_p
fun (l : List TokV) (d : D) => probeV SyTool.probe [] 400 30 55 [kv l, kv l] M0 d
-/
namespace Sy
abbrev smF (l : List TokV) (k : Int) (b : Bool) : Fr := [some ((@AV.view (l).length 3 (fun x864417 => (fun x781353 => (@AV.lit ([(@Value.int IntKind.i64 ((l.getD x864417 tok0)).kind), (@Value.string ((l.getD x864417 tok0)).text), (@Value.int IntKind.i64 ((l.getD x864417 tok0)).n)].getD x781353 (@Value.tuple (@Array.mk _ [])))))))), some ((@AV.view (l).length 3 (fun x163668 => (fun x144767 => (@AV.lit ([(@Value.int IntKind.i64 ((l.getD x163668 tok0)).kind), (@Value.string ((l.getD x163668 tok0)).text), (@Value.int IntKind.i64 ((l.getD x163668 tok0)).n)].getD x144767 (@Value.tuple (@Array.mk _ [])))))))), none, none, some (boo b), some (int k), none, none, none, none, none, none, none, none, none, none, none, none, none, none, none, none, none, none, none, none]
end Sy
/-sy same_r
fun (l : List TokV) (k : Int) (d : D) => reckL [] [] 400 30 55 5 [true, true, false, false, true, true, false, false, false, false, false, false, false, false, false, false, false, false, false, false, false, false, false, false, false, false] (smF l k false) M0 d
-/
/-- a token is the same as itself -/
def tokSame (x : TokV) : Bool := eqI x.kind x.kind && (bytesEq x.text.data.toList x.text.data.toList && (eqI x.n x.n && true))
theorem bytes_self : ∀ l, bytesEq l l = true := fun l => by rw [bytesEq_eq]; simp
theorem tokSame_t (x : TokV) : tokSame x = true := by
  unfold tokSame
  rw [bytes_self, show eqI x.kind x.kind = true by rw [eqI_t], show eqI x.n x.n = true by rw [eqI_t]]
  rfl
theorem Sy.same_scan (l : List TokV) (hl : lim l) : LoopTo Try.prog (theBody Try.prog 55 5) (l.length - 0 + 1) (smF l (0 : Nat) false) M0 fun ex F' M' => ex = .exit 0 ∧ F' = smF l l.length false ∧ M' = M0 := by
  have key := hopL (P := Try.prog) (body := theBody Try.prog 55 5) l.length (fun _ => false) (fun j => j + 1) (fun k _ => Nat.lt_succ_self k) (fun k h => h) (fun k => smF l (k : Nat) false) (fun k => smF l (k : Nat) false) (fun _ => M0) .ret (fun κ n G h0 c1 c2 c3 => by
    generalize hκ : (κ : Int) = k at *
    refine roundL [] [] 400 30 55 5 Try.func55 rfl (by kernel_rfl) [true, true, false, false, true, true, false, false, false, false, false, false, false, false, false, false, false, false, false, false, false, false, false, false, false, false] (.br (.yes (.yes (.br .done .done))) .done) (.fork (!(leI (((l).length : Nat) : Int) k)) (.need (@inR k (l).length) (.need (@inR k (l).length) (.fork (!((eqI ((l.getD (k).toNat tok0)).kind ((l.getD (k).toNat tok0)).kind) && ((@bytesEq (@Array.toList _ (@ByteArray.data ((l.getD (k).toNat tok0)).text)) (@Array.toList _ (@ByteArray.data ((l.getD (k).toNat tok0)).text))) && ((eqI ((l.getD (k).toNat tok0)).n ((l.getD (k).toNat tok0)).n) && true)))) (.leaf (Ex.ret, ([(some (@AV.view (l).length 3 (fun x6241 => (fun x500484 => (@AV.lit ([(@Value.int IntKind.i64 ((l.getD x6241 tok0)).kind), (@Value.string ((l.getD x6241 tok0)).text), (@Value.int IntKind.i64 ((l.getD x6241 tok0)).n)].getD x500484 (@Value.tuple (@Array.mk _ [])))))))), (some (@AV.view (l).length 3 (fun x772452 => (fun x522511 => (@AV.lit ([(@Value.int IntKind.i64 ((l.getD x772452 tok0)).kind), (@Value.string ((l.getD x772452 tok0)).text), (@Value.int IntKind.i64 ((l.getD x772452 tok0)).n)].getD x522511 (@Value.tuple (@Array.mk _ [])))))))), none, none, (some (boo false)), (some (int k)), none, none, none, none, none, none, none, none, none, none, none, none, none, none, none, none, none, none, none, none], (@Mem.mk 0 0 [])))) (.leaf (Ex.norm, ([(some (@AV.view (l).length 3 (fun x68159 => (fun x801235 => (@AV.lit ([(@Value.int IntKind.i64 ((l.getD x68159 tok0)).kind), (@Value.string ((l.getD x68159 tok0)).text), (@Value.int IntKind.i64 ((l.getD x68159 tok0)).n)].getD x801235 (@Value.tuple (@Array.mk _ [])))))))), (some (@AV.view (l).length 3 (fun x280618 => (fun x804689 => (@AV.lit ([(@Value.int IntKind.i64 ((l.getD x280618 tok0)).kind), (@Value.string ((l.getD x280618 tok0)).text), (@Value.int IntKind.i64 ((l.getD x280618 tok0)).n)].getD x804689 (@Value.tuple (@Array.mk _ [])))))))), none, none, (some (boo false)), (some (int (w64 (k + (1 : Int))))), none, none, none, none, none, none, none, none, none, none, none, none, none, none, none, none, none, none, none, none], (@Mem.mk 0 0 []))))))) (.leaf ((@Ex.exit 0), ([(some (@AV.view (l).length 3 (fun x873678 => (fun x708077 => (@AV.lit ([(@Value.int IntKind.i64 ((l.getD x873678 tok0)).kind), (@Value.string ((l.getD x873678 tok0)).text), (@Value.int IntKind.i64 ((l.getD x873678 tok0)).n)].getD x708077 (@Value.tuple (@Array.mk _ [])))))))), (some (@AV.view (l).length 3 (fun x424613 => (fun x37608 => (@AV.lit ([(@Value.int IntKind.i64 ((l.getD x424613 tok0)).kind), (@Value.string ((l.getD x424613 tok0)).text), (@Value.int IntKind.i64 ((l.getD x424613 tok0)).n)].getD x37608 (@Value.tuple (@Array.mk _ [])))))))), none, none, (some (boo false)), (some (int k)), none, none, none, none, none, none, none, none, none, none, none, none, none, none, none, none, none, none, none, none], (@Mem.mk 0 0 []))))) (by kernel_rfl) ?_
    have hl' : l.length ≤ 17592186044416 := hl
    refine fork_ok (fun h => ?_) (fun h => ?_)
    · simp only [Bool.not_eq_true', Bool.not_eq_false', leI_t, leI_f, eqI_t, eqI_f, inR_t, inR_f, isSo_t, isSo_f] at h
      have hk : κ < l.length := by omega
      have hr : inR k l.length = true := by rw [inR_t]; omega
      have := c1 hk rfl
      rw [show ((κ + 1 : Nat) : Int) = k + 1 by omega] at this
      refine need_t hr (need_t hr (fork_ok (fun h2 => ?_) (fun h2 => ?_)))
      · have h3 : tokSame (l.getD k.toNat tok0) = true := tokSame_t _
        have h4 : (!tokSame (l.getD k.toNat tok0)) = true := h2
        rw [h3] at h4; cases h4
      · rw [w64_in (r := k + 1) (by omega)]
        exact this
    · simp only [Bool.not_eq_true', Bool.not_eq_false', leI_t, leI_f, eqI_t, eqI_f, inR_t, inR_f, isSo_t, isSo_f] at h
      have hk : κ = l.length := by omega
      have := c3 hk
      rw [← hk, hκ] at this
      exact this) 0 (Nat.zero_le _)
  refine key.mono fun ex F M hg => ?_
  obtain ⟨rfl, hg⟩ := hg
  rcases hg with ⟨q1, rfl, rfl⟩ | ⟨q1, rfl, rfl⟩
  · have := hops_at (g := fun _ => false) (nx := fun j => j + 1) (m := l.length) (fun k _ => Nat.lt_succ_self k) _ 0 (Nat.le_refl _) q1
    cases this
  · exact ⟨rfl, rfl, rfl⟩
namespace Sy
abbrev smFE (l : List TokV) : Fr := [some ((@AV.view (l).length 3 (fun x864417 => (fun x781353 => (@AV.lit ([(@Value.int IntKind.i64 ((l.getD x864417 tok0)).kind), (@Value.string ((l.getD x864417 tok0)).text), (@Value.int IntKind.i64 ((l.getD x864417 tok0)).n)].getD x781353 (@Value.tuple (@Array.mk _ [])))))))), some ((@AV.view (l).length 3 (fun x163668 => (fun x144767 => (@AV.lit ([(@Value.int IntKind.i64 ((l.getD x163668 tok0)).kind), (@Value.string ((l.getD x163668 tok0)).text), (@Value.int IntKind.i64 ((l.getD x163668 tok0)).n)].getD x144767 (@Value.tuple (@Array.mk _ [])))))))), none, none, none, none, none, none, none, none, none, none, none, none, none, none, none, none, none, none, none, none, none, none, none, none]
noncomputable abbrev lp_same (l : List TokV) : Lp Try.prog where
  f := 55
  key := 5
  S := formS (fun F M => slotI F 5) (fun k => smF l k false) (fun _ => M0) (fun k => (lim l) ∧ k = 0) (fun k => .leaf (.exit 0, smFE l, M0)) [true, true, false, false, true, true, false, false, false, false, false, false, false, false, false, false, false, false, false, false, false, false, false, false, false, false]
  one := by kernel_rfl
  ok := formS_ok fun k ⟨h1, h2⟩ => by
    subst h2
    refine ⟨_, ((Sy.same_scan l h1).out [true, true, false, false, false, false, false, false, false, false, false, false, false, false, false, false, false, false, false, false, false, false, false, false, false, false]).mono fun ex F M hg => ?_⟩
    obtain ⟨F0, ⟨rfl, rfl, rfl⟩, rfl⟩ := hg
    rfl
end Sy
/-sy same_t
fun (l : List TokV) (d : D) => reckV [] [lp_same l] 400 30 55 [kv l, kv l] M0 d
-/
theorem Sy.same_t (l : List TokV) (hl : lim l) : CallTo Try.prog 55 [kv l, kv l] M0 fun v _ => v = boo true :=
  toV [] [lp_same l] 400 30 (.br .done .done) (.fork (!(eqI (((l).length : Nat) : Int) (((l).length : Nat) : Int))) (.leaf (boo false)) (.need (@isSo (@And (((some (@AV.view (l).length 3 (fun x39132 => (fun x725195 => (@AV.lit ([(@Value.int IntKind.i64 ((l.getD x39132 tok0)).kind), (@Value.string ((l.getD x39132 tok0)).text), (@Value.int IntKind.i64 ((l.getD x39132 tok0)).n)].getD x725195 (@Value.tuple (@Array.mk _ [])))))))) :: (some (@AV.view (l).length 3 (fun x416074 => (fun x810334 => (@AV.lit ([(@Value.int IntKind.i64 ((l.getD x416074 tok0)).kind), (@Value.string ((l.getD x416074 tok0)).text), (@Value.int IntKind.i64 ((l.getD x416074 tok0)).n)].getD x810334 (@Value.tuple (@Array.mk _ [])))))))) :: [none, none, (some (boo false)), (some (int (0 : Int))), none, none, none, none, none, none, none, none, none, none, none, none, none, none, none, none, none, none, none, none]) = [(some (@AV.view (l).length 3 (fun x673909 => (fun x121837 => (@AV.lit ([(@Value.int IntKind.i64 ((l.getD x673909 tok0)).kind), (@Value.string ((l.getD x673909 tok0)).text), (@Value.int IntKind.i64 ((l.getD x673909 tok0)).n)].getD x121837 (@Value.tuple (@Array.mk _ [])))))))), (some (@AV.view (l).length 3 (fun x788304 => (fun x570695 => (@AV.lit ([(@Value.int IntKind.i64 ((l.getD x788304 tok0)).kind), (@Value.string ((l.getD x788304 tok0)).text), (@Value.int IntKind.i64 ((l.getD x788304 tok0)).n)].getD x570695 (@Value.tuple (@Array.mk _ [])))))))), none, none, (some (boo false)), (some (int (0 : Int))), none, none, none, none, none, none, none, none, none, none, none, none, none, none, none, none, none, none, none, none]) ((@Mem.mk 0 0 []) = M0))) (.need (@isSo (@And ((l).length ≤ 17592186044416) ((0 : Int) = (0 : Int)))) (.leaf (boo true))))) (by kernel_rfl) (by
    refine fork_ok (fun h => ?_) (fun h => need_so ⟨rfl, rfl⟩ (need_so ⟨hl, rfl⟩ rfl))
    simp only [Bool.not_eq_true', Bool.not_eq_false', leI_t, leI_f, eqI_t, eqI_f, inR_t, inR_f, isSo_t, isSo_f] at h
    exact absurd trivial h)
noncomputable abbrev Sy.cSameX : Con Try.prog := atX 55 (fun args => match args with | [.view n s cell, _] => some (⟨n, cell⟩ : VX) | _ => none) (fun x => [.view x.n 3 x.cell, .view x.n 3 x.cell]) (fun _ => boo true) (fun x => IsTok x.cell ∧ lim (toks x.n x.cell)) fun x ⟨h1, h2⟩ => by
  obtain ⟨n, cell⟩ := x
  simp only at h1 h2 ⊢
  refine ⟨⟨⟨by rw [h1]; exact fun i j => trivial, by rw [h1]; exact fun i j => trivial, trivial⟩, trivial⟩, (same_t (toks n cell) h2).congr fun ρ us hr => ?_⟩
  simp only [rels] at hr ⊢
  obtain ⟨u, us', rfl, r1, u2, us2, rfl, r2, rfl⟩ := hr
  have key : ∀ u, rel ρ (.view n 3 cell) u → rel ρ (kv (toks n cell)) u := fun u r1 => by
    have hl : (toks n cell).length = n := toks_len n cell
    show rel ρ (.view (toks n cell).length 3 _) u
    rw [hl]
    refine rel_view_congr (fun i j hi hj => ?_) r1
    rw [toks_get n cell hi]
    exact congrFun (congrFun h1 i) j
  exact ⟨u, _, rfl, key u r1, u2, [], rfl, key u2 r2, rfl⟩
/-! ### SameRules -/
def raw0 : RawV := ⟨⟨#[]⟩, [], [], false⟩
namespace Sy
def rcells (d : RawV) : List AV := [.lit (.string d.at_), kv d.head, kv d.body, boo d.block]
abbrev rv (ds : List RawV) : AV := .view ds.length 4 fun i j => (rcells (ds.getD i raw0)).getD j (.lit undef)
end Sy
/-sy sr_p
fun (ds : List RawV) (d : D) => probeV SyTool.probe [] 400 30 35 [rv ds, rv ds] M0 d
-/
namespace Sy
abbrev srF (ds : List RawV) (k : Int) (b : Bool) : Fr := [some ((@AV.view (ds).length 4 (fun x835405 => (fun x140037 => ([(@AV.lit (@Value.string ((ds.getD x835405 raw0)).at_)), (@AV.view (((ds.getD x835405 raw0)).head).length 3 (fun x887982 => (fun x527823 => (@AV.lit ([(@Value.int IntKind.i64 ((((ds.getD x835405 raw0)).head.getD x887982 tok0)).kind), (@Value.string ((((ds.getD x835405 raw0)).head.getD x887982 tok0)).text), (@Value.int IntKind.i64 ((((ds.getD x835405 raw0)).head.getD x887982 tok0)).n)].getD x527823 (@Value.tuple (@Array.mk _ []))))))), (@AV.view (((ds.getD x835405 raw0)).body).length 3 (fun x766315 => (fun x522172 => (@AV.lit ([(@Value.int IntKind.i64 ((((ds.getD x835405 raw0)).body.getD x766315 tok0)).kind), (@Value.string ((((ds.getD x835405 raw0)).body.getD x766315 tok0)).text), (@Value.int IntKind.i64 ((((ds.getD x835405 raw0)).body.getD x766315 tok0)).n)].getD x522172 (@Value.tuple (@Array.mk _ []))))))), (boo ((ds.getD x835405 raw0)).block)].getD x140037 (@AV.lit (@Value.tuple (@Array.mk _ [])))))))), some ((@AV.view (ds).length 4 (fun x470740 => (fun x206441 => ([(@AV.lit (@Value.string ((ds.getD x470740 raw0)).at_)), (@AV.view (((ds.getD x470740 raw0)).head).length 3 (fun x663274 => (fun x157990 => (@AV.lit ([(@Value.int IntKind.i64 ((((ds.getD x470740 raw0)).head.getD x663274 tok0)).kind), (@Value.string ((((ds.getD x470740 raw0)).head.getD x663274 tok0)).text), (@Value.int IntKind.i64 ((((ds.getD x470740 raw0)).head.getD x663274 tok0)).n)].getD x157990 (@Value.tuple (@Array.mk _ []))))))), (@AV.view (((ds.getD x470740 raw0)).body).length 3 (fun x969263 => (fun x213176 => (@AV.lit ([(@Value.int IntKind.i64 ((((ds.getD x470740 raw0)).body.getD x969263 tok0)).kind), (@Value.string ((((ds.getD x470740 raw0)).body.getD x969263 tok0)).text), (@Value.int IntKind.i64 ((((ds.getD x470740 raw0)).body.getD x969263 tok0)).n)].getD x213176 (@Value.tuple (@Array.mk _ []))))))), (boo ((ds.getD x470740 raw0)).block)].getD x206441 (@AV.lit (@Value.tuple (@Array.mk _ [])))))))), none, none, some (boo b), some (int k), none, none, none, none, none, none, none, none, none, none, none, none, none, none, none, none, none, none, none, none, none, none, none, none, none, none, none, none, none, none, none, none, none, none, none, none, none, none, none, none, none, none, none, none, none, none, none, none, none, none, none, none, none, none, none, none, none, none, none, none, none, none, none]
end Sy
/-sy sr_r
fun (ds : List RawV) (k : Int) (d : D) => reckL [cSameX] [] 400 30 35 5 [true, true, false, false, true, true, false, false, false, false, false, false, false, false, false, false, false, false, false, false, false, false, false, false, false, false, false, false, false, false, false, false, false, false, false, false, false, false, false, false, false, false, false, false, false, false, false, false, false, false, false, false, false, false, false, false, false, false, false, false, false, false, false, false, false, false, false, false, false] (srF ds k false) M0 d
-/
def QsOk (ds : List RawV) : Prop := ds.length ≤ 17592186044416 ∧ ∀ d ∈ ds, lim d.head ∧ lim d.body
theorem Sy.sr_scan (ds : List RawV) (hl : QsOk ds) : LoopTo Try.prog (theBody Try.prog 35 5) (ds.length - 0 + 1) (srF ds (0 : Nat) false) M0 fun ex F' M' => ex = .exit 0 ∧ F' = srF ds ds.length false ∧ M' = M0 := by
  have key := hopL (P := Try.prog) (body := theBody Try.prog 35 5) ds.length (fun _ => false) (fun j => j + 1) (fun k _ => Nat.lt_succ_self k) (fun k h => h) (fun k => srF ds (k : Nat) false) (fun k => srF ds (k : Nat) false) (fun _ => M0) .ret (fun κ n G h0 c1 c2 c3 => by
    generalize hκ : (κ : Int) = k at *
    refine roundL [cSameX] [] 400 30 35 5 Try.func35 rfl (by kernel_rfl) [true, true, false, false, true, true, false, false, false, false, false, false, false, false, false, false, false, false, false, false, false, false, false, false, false, false, false, false, false, false, false, false, false, false, false, false, false, false, false, false, false, false, false, false, false, false, false, false, false, false, false, false, false, false, false, false, false, false, false, false, false, false, false, false, false, false, false, false, false] (.br (.yes (.yes (.br (.auto 1 (.yes (.auto 4 (.yes (.auto 3 (.br (.auto 1 (.yes (.auto 4 (.yes (.auto 2 (.yes (.auto 4 (.yes (.auto 4 (.yes (.auto 2 (.yes (.auto 2 .done))))))))))))) (.auto 25 .done))))))) (.auto 37 .done)))) .done) (.fork (!(leI (((ds).length : Nat) : Int) k)) (.need (@inR k (ds).length) (.need (@inR k (ds).length) (.fork (!(!(@bytesEq (@Array.toList _ (@ByteArray.data ((ds.getD (k).toNat raw0)).at_)) (@Array.toList _ (@ByteArray.data ((ds.getD (k).toNat raw0)).at_))))) (.need (@inR k (ds).length) (.need (@inR k (ds).length) (.fork (!(!(@Decidable.decide (((ds.getD (k).toNat raw0)).block = ((ds.getD (k).toNat raw0)).block) _))) (.need (@inR k (ds).length) (.need (@inR k (ds).length) (.need (@isSo (@And ([(@AV.view (((ds.getD (k).toNat raw0)).head).length 3 (fun x395494 => (fun x938017 => (@AV.lit ([(@Value.int IntKind.i64 ((((ds.getD (k).toNat raw0)).head.getD x395494 tok0)).kind), (@Value.string ((((ds.getD (k).toNat raw0)).head.getD x395494 tok0)).text), (@Value.int IntKind.i64 ((((ds.getD (k).toNat raw0)).head.getD x395494 tok0)).n)].getD x938017 (@Value.tuple (@Array.mk _ []))))))), (@AV.view (((ds.getD (k).toNat raw0)).head).length 3 (fun x912409 => (fun x798564 => (@AV.lit ([(@Value.int IntKind.i64 ((((ds.getD (k).toNat raw0)).head.getD x912409 tok0)).kind), (@Value.string ((((ds.getD (k).toNat raw0)).head.getD x912409 tok0)).text), (@Value.int IntKind.i64 ((((ds.getD (k).toNat raw0)).head.getD x912409 tok0)).n)].getD x798564 (@Value.tuple (@Array.mk _ [])))))))] = [(@AV.view (((ds.getD (k).toNat raw0)).head).length 3 (fun x356188 => (fun x274283 => (@AV.lit ([(@Value.int IntKind.i64 ((((ds.getD (k).toNat raw0)).head.getD x356188 tok0)).kind), (@Value.string ((((ds.getD (k).toNat raw0)).head.getD x356188 tok0)).text), (@Value.int IntKind.i64 ((((ds.getD (k).toNat raw0)).head.getD x356188 tok0)).n)].getD x274283 (@Value.tuple (@Array.mk _ []))))))), (@AV.view (((ds.getD (k).toNat raw0)).head).length 3 (fun x581194 => (fun x557342 => (@AV.lit ([(@Value.int IntKind.i64 ((((ds.getD (k).toNat raw0)).head.getD x581194 tok0)).kind), (@Value.string ((((ds.getD (k).toNat raw0)).head.getD x581194 tok0)).text), (@Value.int IntKind.i64 ((((ds.getD (k).toNat raw0)).head.getD x581194 tok0)).n)].getD x557342 (@Value.tuple (@Array.mk _ [])))))))]) (@And ((fun x860725 => (fun x295672 => (@AV.lit ([(@Value.int IntKind.i64 ((((ds.getD (k).toNat raw0)).head.getD x860725 tok0)).kind), (@Value.string ((((ds.getD (k).toNat raw0)).head.getD x860725 tok0)).text), (@Value.int IntKind.i64 ((((ds.getD (k).toNat raw0)).head.getD x860725 tok0)).n)].getD x295672 (@Value.tuple (@Array.mk _ [])))))) = (fun x366128 => (fun x94087 => (@AV.lit ([(@Value.int IntKind.i64 ((((ds.getD (k).toNat raw0)).head.getD x366128 tok0)).kind), (@Value.string ((((ds.getD (k).toNat raw0)).head.getD x366128 tok0)).text), (@Value.int IntKind.i64 ((((ds.getD (k).toNat raw0)).head.getD x366128 tok0)).n)].getD x94087 (@Value.tuple (@Array.mk _ []))))))) (((@toks (((ds.getD (k).toNat raw0)).head).length (fun x202403 => (fun x369858 => (@AV.lit ([(@Value.int IntKind.i64 ((((ds.getD (k).toNat raw0)).head.getD x202403 tok0)).kind), (@Value.string ((((ds.getD (k).toNat raw0)).head.getD x202403 tok0)).text), (@Value.int IntKind.i64 ((((ds.getD (k).toNat raw0)).head.getD x202403 tok0)).n)].getD x369858 (@Value.tuple (@Array.mk _ [])))))))).length ≤ 17592186044416)))) (.need (@inR k (ds).length) (.need (@inR k (ds).length) (.need (@isSo (@And ([(@AV.view (((ds.getD (k).toNat raw0)).body).length 3 (fun x232849 => (fun x56081 => (@AV.lit ([(@Value.int IntKind.i64 ((((ds.getD (k).toNat raw0)).body.getD x232849 tok0)).kind), (@Value.string ((((ds.getD (k).toNat raw0)).body.getD x232849 tok0)).text), (@Value.int IntKind.i64 ((((ds.getD (k).toNat raw0)).body.getD x232849 tok0)).n)].getD x56081 (@Value.tuple (@Array.mk _ []))))))), (@AV.view (((ds.getD (k).toNat raw0)).body).length 3 (fun x555476 => (fun x991379 => (@AV.lit ([(@Value.int IntKind.i64 ((((ds.getD (k).toNat raw0)).body.getD x555476 tok0)).kind), (@Value.string ((((ds.getD (k).toNat raw0)).body.getD x555476 tok0)).text), (@Value.int IntKind.i64 ((((ds.getD (k).toNat raw0)).body.getD x555476 tok0)).n)].getD x991379 (@Value.tuple (@Array.mk _ [])))))))] = [(@AV.view (((ds.getD (k).toNat raw0)).body).length 3 (fun x431015 => (fun x90470 => (@AV.lit ([(@Value.int IntKind.i64 ((((ds.getD (k).toNat raw0)).body.getD x431015 tok0)).kind), (@Value.string ((((ds.getD (k).toNat raw0)).body.getD x431015 tok0)).text), (@Value.int IntKind.i64 ((((ds.getD (k).toNat raw0)).body.getD x431015 tok0)).n)].getD x90470 (@Value.tuple (@Array.mk _ []))))))), (@AV.view (((ds.getD (k).toNat raw0)).body).length 3 (fun x826722 => (fun x565381 => (@AV.lit ([(@Value.int IntKind.i64 ((((ds.getD (k).toNat raw0)).body.getD x826722 tok0)).kind), (@Value.string ((((ds.getD (k).toNat raw0)).body.getD x826722 tok0)).text), (@Value.int IntKind.i64 ((((ds.getD (k).toNat raw0)).body.getD x826722 tok0)).n)].getD x565381 (@Value.tuple (@Array.mk _ [])))))))]) (@And ((fun x671560 => (fun x100688 => (@AV.lit ([(@Value.int IntKind.i64 ((((ds.getD (k).toNat raw0)).body.getD x671560 tok0)).kind), (@Value.string ((((ds.getD (k).toNat raw0)).body.getD x671560 tok0)).text), (@Value.int IntKind.i64 ((((ds.getD (k).toNat raw0)).body.getD x671560 tok0)).n)].getD x100688 (@Value.tuple (@Array.mk _ [])))))) = (fun x266091 => (fun x479007 => (@AV.lit ([(@Value.int IntKind.i64 ((((ds.getD (k).toNat raw0)).body.getD x266091 tok0)).kind), (@Value.string ((((ds.getD (k).toNat raw0)).body.getD x266091 tok0)).text), (@Value.int IntKind.i64 ((((ds.getD (k).toNat raw0)).body.getD x266091 tok0)).n)].getD x479007 (@Value.tuple (@Array.mk _ []))))))) (((@toks (((ds.getD (k).toNat raw0)).body).length (fun x266078 => (fun x425865 => (@AV.lit ([(@Value.int IntKind.i64 ((((ds.getD (k).toNat raw0)).body.getD x266078 tok0)).kind), (@Value.string ((((ds.getD (k).toNat raw0)).body.getD x266078 tok0)).text), (@Value.int IntKind.i64 ((((ds.getD (k).toNat raw0)).body.getD x266078 tok0)).n)].getD x425865 (@Value.tuple (@Array.mk _ [])))))))).length ≤ 17592186044416)))) (.leaf (Ex.norm, ([(some (@AV.view (ds).length 4 (fun x569633 => (fun x545116 => ([(@AV.lit (@Value.string ((ds.getD x569633 raw0)).at_)), (@AV.view (((ds.getD x569633 raw0)).head).length 3 (fun x504879 => (fun x628579 => (@AV.lit ([(@Value.int IntKind.i64 ((((ds.getD x569633 raw0)).head.getD x504879 tok0)).kind), (@Value.string ((((ds.getD x569633 raw0)).head.getD x504879 tok0)).text), (@Value.int IntKind.i64 ((((ds.getD x569633 raw0)).head.getD x504879 tok0)).n)].getD x628579 (@Value.tuple (@Array.mk _ []))))))), (@AV.view (((ds.getD x569633 raw0)).body).length 3 (fun x1434 => (fun x881574 => (@AV.lit ([(@Value.int IntKind.i64 ((((ds.getD x569633 raw0)).body.getD x1434 tok0)).kind), (@Value.string ((((ds.getD x569633 raw0)).body.getD x1434 tok0)).text), (@Value.int IntKind.i64 ((((ds.getD x569633 raw0)).body.getD x1434 tok0)).n)].getD x881574 (@Value.tuple (@Array.mk _ []))))))), (boo ((ds.getD x569633 raw0)).block)].getD x545116 (@AV.lit (@Value.tuple (@Array.mk _ [])))))))), (some (@AV.view (ds).length 4 (fun x873685 => (fun x575896 => ([(@AV.lit (@Value.string ((ds.getD x873685 raw0)).at_)), (@AV.view (((ds.getD x873685 raw0)).head).length 3 (fun x939072 => (fun x339623 => (@AV.lit ([(@Value.int IntKind.i64 ((((ds.getD x873685 raw0)).head.getD x939072 tok0)).kind), (@Value.string ((((ds.getD x873685 raw0)).head.getD x939072 tok0)).text), (@Value.int IntKind.i64 ((((ds.getD x873685 raw0)).head.getD x939072 tok0)).n)].getD x339623 (@Value.tuple (@Array.mk _ []))))))), (@AV.view (((ds.getD x873685 raw0)).body).length 3 (fun x768278 => (fun x602594 => (@AV.lit ([(@Value.int IntKind.i64 ((((ds.getD x873685 raw0)).body.getD x768278 tok0)).kind), (@Value.string ((((ds.getD x873685 raw0)).body.getD x768278 tok0)).text), (@Value.int IntKind.i64 ((((ds.getD x873685 raw0)).body.getD x768278 tok0)).n)].getD x602594 (@Value.tuple (@Array.mk _ []))))))), (boo ((ds.getD x873685 raw0)).block)].getD x575896 (@AV.lit (@Value.tuple (@Array.mk _ [])))))))), none, none, (some (boo false)), (some (int (w64 (k + (1 : Int))))), none, none, none, none, none, none, none, none, none, none, none, none, none, none, none, none, none, none, none, none, none, none, none, none, none, none, none, none, none, none, none, none, none, none, none, none, none, none, none, none, none, none, none, none, none, none, none, none, none, none, none, none, none, none, none, none, none, none, none, none, none, none, none], (@Mem.mk 0 0 [])))))))))) (.leaf (Ex.ret, ([(some (@AV.view (ds).length 4 (fun x985033 => (fun x1353 => ([(@AV.lit (@Value.string ((ds.getD x985033 raw0)).at_)), (@AV.view (((ds.getD x985033 raw0)).head).length 3 (fun x310476 => (fun x881964 => (@AV.lit ([(@Value.int IntKind.i64 ((((ds.getD x985033 raw0)).head.getD x310476 tok0)).kind), (@Value.string ((((ds.getD x985033 raw0)).head.getD x310476 tok0)).text), (@Value.int IntKind.i64 ((((ds.getD x985033 raw0)).head.getD x310476 tok0)).n)].getD x881964 (@Value.tuple (@Array.mk _ []))))))), (@AV.view (((ds.getD x985033 raw0)).body).length 3 (fun x867143 => (fun x316558 => (@AV.lit ([(@Value.int IntKind.i64 ((((ds.getD x985033 raw0)).body.getD x867143 tok0)).kind), (@Value.string ((((ds.getD x985033 raw0)).body.getD x867143 tok0)).text), (@Value.int IntKind.i64 ((((ds.getD x985033 raw0)).body.getD x867143 tok0)).n)].getD x316558 (@Value.tuple (@Array.mk _ []))))))), (boo ((ds.getD x985033 raw0)).block)].getD x1353 (@AV.lit (@Value.tuple (@Array.mk _ [])))))))), (some (@AV.view (ds).length 4 (fun x294082 => (fun x500261 => ([(@AV.lit (@Value.string ((ds.getD x294082 raw0)).at_)), (@AV.view (((ds.getD x294082 raw0)).head).length 3 (fun x514792 => (fun x617280 => (@AV.lit ([(@Value.int IntKind.i64 ((((ds.getD x294082 raw0)).head.getD x514792 tok0)).kind), (@Value.string ((((ds.getD x294082 raw0)).head.getD x514792 tok0)).text), (@Value.int IntKind.i64 ((((ds.getD x294082 raw0)).head.getD x514792 tok0)).n)].getD x617280 (@Value.tuple (@Array.mk _ []))))))), (@AV.view (((ds.getD x294082 raw0)).body).length 3 (fun x524499 => (fun x593983 => (@AV.lit ([(@Value.int IntKind.i64 ((((ds.getD x294082 raw0)).body.getD x524499 tok0)).kind), (@Value.string ((((ds.getD x294082 raw0)).body.getD x524499 tok0)).text), (@Value.int IntKind.i64 ((((ds.getD x294082 raw0)).body.getD x524499 tok0)).n)].getD x593983 (@Value.tuple (@Array.mk _ []))))))), (boo ((ds.getD x294082 raw0)).block)].getD x500261 (@AV.lit (@Value.tuple (@Array.mk _ [])))))))), none, none, (some (boo false)), (some (int k)), none, none, none, none, none, none, none, none, none, none, none, none, none, none, none, none, none, none, none, none, none, none, none, none, none, none, none, none, none, none, none, none, none, none, none, none, none, none, none, none, none, none, none, none, none, none, none, none, none, none, none, none, none, none, none, none, none, none, none, none, none, none, none], (@Mem.mk 0 0 []))))))) (.leaf (Ex.ret, ([(some (@AV.view (ds).length 4 (fun x701921 => (fun x804220 => ([(@AV.lit (@Value.string ((ds.getD x701921 raw0)).at_)), (@AV.view (((ds.getD x701921 raw0)).head).length 3 (fun x972180 => (fun x12755 => (@AV.lit ([(@Value.int IntKind.i64 ((((ds.getD x701921 raw0)).head.getD x972180 tok0)).kind), (@Value.string ((((ds.getD x701921 raw0)).head.getD x972180 tok0)).text), (@Value.int IntKind.i64 ((((ds.getD x701921 raw0)).head.getD x972180 tok0)).n)].getD x12755 (@Value.tuple (@Array.mk _ []))))))), (@AV.view (((ds.getD x701921 raw0)).body).length 3 (fun x696362 => (fun x777382 => (@AV.lit ([(@Value.int IntKind.i64 ((((ds.getD x701921 raw0)).body.getD x696362 tok0)).kind), (@Value.string ((((ds.getD x701921 raw0)).body.getD x696362 tok0)).text), (@Value.int IntKind.i64 ((((ds.getD x701921 raw0)).body.getD x696362 tok0)).n)].getD x777382 (@Value.tuple (@Array.mk _ []))))))), (boo ((ds.getD x701921 raw0)).block)].getD x804220 (@AV.lit (@Value.tuple (@Array.mk _ [])))))))), (some (@AV.view (ds).length 4 (fun x911653 => (fun x212845 => ([(@AV.lit (@Value.string ((ds.getD x911653 raw0)).at_)), (@AV.view (((ds.getD x911653 raw0)).head).length 3 (fun x3024 => (fun x323911 => (@AV.lit ([(@Value.int IntKind.i64 ((((ds.getD x911653 raw0)).head.getD x3024 tok0)).kind), (@Value.string ((((ds.getD x911653 raw0)).head.getD x3024 tok0)).text), (@Value.int IntKind.i64 ((((ds.getD x911653 raw0)).head.getD x3024 tok0)).n)].getD x323911 (@Value.tuple (@Array.mk _ []))))))), (@AV.view (((ds.getD x911653 raw0)).body).length 3 (fun x695403 => (fun x9378 => (@AV.lit ([(@Value.int IntKind.i64 ((((ds.getD x911653 raw0)).body.getD x695403 tok0)).kind), (@Value.string ((((ds.getD x911653 raw0)).body.getD x695403 tok0)).text), (@Value.int IntKind.i64 ((((ds.getD x911653 raw0)).body.getD x695403 tok0)).n)].getD x9378 (@Value.tuple (@Array.mk _ []))))))), (boo ((ds.getD x911653 raw0)).block)].getD x212845 (@AV.lit (@Value.tuple (@Array.mk _ [])))))))), none, none, (some (boo false)), (some (int k)), none, none, none, none, none, none, none, none, none, none, none, none, none, none, none, none, none, none, none, none, none, none, none, none, none, none, none, none, none, none, none, none, none, none, none, none, none, none, none, none, none, none, none, none, none, none, none, none, none, none, none, none, none, none, none, none, none, none, none, none, none, none, none], (@Mem.mk 0 0 []))))))) (.leaf ((@Ex.exit 0), ([(some (@AV.view (ds).length 4 (fun x863492 => (fun x520420 => ([(@AV.lit (@Value.string ((ds.getD x863492 raw0)).at_)), (@AV.view (((ds.getD x863492 raw0)).head).length 3 (fun x194759 => (fun x473158 => (@AV.lit ([(@Value.int IntKind.i64 ((((ds.getD x863492 raw0)).head.getD x194759 tok0)).kind), (@Value.string ((((ds.getD x863492 raw0)).head.getD x194759 tok0)).text), (@Value.int IntKind.i64 ((((ds.getD x863492 raw0)).head.getD x194759 tok0)).n)].getD x473158 (@Value.tuple (@Array.mk _ []))))))), (@AV.view (((ds.getD x863492 raw0)).body).length 3 (fun x432738 => (fun x770613 => (@AV.lit ([(@Value.int IntKind.i64 ((((ds.getD x863492 raw0)).body.getD x432738 tok0)).kind), (@Value.string ((((ds.getD x863492 raw0)).body.getD x432738 tok0)).text), (@Value.int IntKind.i64 ((((ds.getD x863492 raw0)).body.getD x432738 tok0)).n)].getD x770613 (@Value.tuple (@Array.mk _ []))))))), (boo ((ds.getD x863492 raw0)).block)].getD x520420 (@AV.lit (@Value.tuple (@Array.mk _ [])))))))), (some (@AV.view (ds).length 4 (fun x568029 => (fun x546016 => ([(@AV.lit (@Value.string ((ds.getD x568029 raw0)).at_)), (@AV.view (((ds.getD x568029 raw0)).head).length 3 (fun x957291 => (fun x931855 => (@AV.lit ([(@Value.int IntKind.i64 ((((ds.getD x568029 raw0)).head.getD x957291 tok0)).kind), (@Value.string ((((ds.getD x568029 raw0)).head.getD x957291 tok0)).text), (@Value.int IntKind.i64 ((((ds.getD x568029 raw0)).head.getD x957291 tok0)).n)].getD x931855 (@Value.tuple (@Array.mk _ []))))))), (@AV.view (((ds.getD x568029 raw0)).body).length 3 (fun x386574 => (fun x99225 => (@AV.lit ([(@Value.int IntKind.i64 ((((ds.getD x568029 raw0)).body.getD x386574 tok0)).kind), (@Value.string ((((ds.getD x568029 raw0)).body.getD x386574 tok0)).text), (@Value.int IntKind.i64 ((((ds.getD x568029 raw0)).body.getD x386574 tok0)).n)].getD x99225 (@Value.tuple (@Array.mk _ []))))))), (boo ((ds.getD x568029 raw0)).block)].getD x546016 (@AV.lit (@Value.tuple (@Array.mk _ [])))))))), none, none, (some (boo false)), (some (int k)), none, none, none, none, none, none, none, none, none, none, none, none, none, none, none, none, none, none, none, none, none, none, none, none, none, none, none, none, none, none, none, none, none, none, none, none, none, none, none, none, none, none, none, none, none, none, none, none, none, none, none, none, none, none, none, none, none, none, none, none, none, none, none], (@Mem.mk 0 0 []))))) (by kernel_rfl) ?_
    have hl' : ds.length ≤ 17592186044416 := hl.1
    refine fork_ok (fun h => ?_) (fun h => ?_)
    · simp only [Bool.not_eq_true', Bool.not_eq_false', leI_t, leI_f, eqI_t, eqI_f, inR_t, inR_f, isSo_t, isSo_f] at h
      have hk : κ < ds.length := by omega
      have hr : inR k ds.length = true := by rw [inR_t]; omega
      have := c1 hk rfl
      rw [show ((κ + 1 : Nat) : Int) = k + 1 by omega] at this
      have hv := hl.2 (ds.getD k.toNat raw0) (by
        rw [List.getD_eq_getElem?_getD, List.getElem?_eq_getElem (show k.toNat < ds.length by omega)]
        exact List.getElem_mem _)
      have e1 : toks (ds.getD k.toNat raw0).head.length (cx0 (ds.getD k.toNat raw0).head) = (ds.getD k.toNat raw0).head := toks_cx0 _
      have e2 : toks (ds.getD k.toNat raw0).body.length (cx0 (ds.getD k.toNat raw0).body) = (ds.getD k.toNat raw0).body := toks_cx0 _
      refine need_t hr (need_t hr (fork_ok (fun h2 => need_t hr (need_t hr (fork_ok (fun h3 => need_t hr (need_t hr (need_so ⟨rfl, rfl, by rw [e1]; exact hv.1⟩ (need_t hr (need_t hr (need_so ⟨rfl, rfl, by rw [e2]; exact hv.2⟩ ?_)))))) (fun h3 => ?_)))) (fun h2 => ?_)))
      · rw [w64_in (r := k + 1) (by omega)]
        exact this
      · simp at h3
      · rw [bytes_self] at h2; simp at h2
    · simp only [Bool.not_eq_true', Bool.not_eq_false', leI_t, leI_f, eqI_t, eqI_f, inR_t, inR_f, isSo_t, isSo_f] at h
      have hk : κ = ds.length := by omega
      have := c3 hk
      rw [← hk, hκ] at this
      exact this) 0 (Nat.zero_le _)
  refine key.mono fun ex F M hg => ?_
  obtain ⟨rfl, hg⟩ := hg
  rcases hg with ⟨q1, rfl, rfl⟩ | ⟨q1, rfl, rfl⟩
  · have := hops_at (g := fun _ => false) (nx := fun j => j + 1) (m := ds.length) (fun k _ => Nat.lt_succ_self k) _ 0 (Nat.le_refl _) q1
    cases this
  · exact ⟨rfl, rfl, rfl⟩
namespace Sy
abbrev srFE (ds : List RawV) : Fr := [some ((@AV.view (ds).length 4 (fun x835405 => (fun x140037 => ([(@AV.lit (@Value.string ((ds.getD x835405 raw0)).at_)), (@AV.view (((ds.getD x835405 raw0)).head).length 3 (fun x887982 => (fun x527823 => (@AV.lit ([(@Value.int IntKind.i64 ((((ds.getD x835405 raw0)).head.getD x887982 tok0)).kind), (@Value.string ((((ds.getD x835405 raw0)).head.getD x887982 tok0)).text), (@Value.int IntKind.i64 ((((ds.getD x835405 raw0)).head.getD x887982 tok0)).n)].getD x527823 (@Value.tuple (@Array.mk _ []))))))), (@AV.view (((ds.getD x835405 raw0)).body).length 3 (fun x766315 => (fun x522172 => (@AV.lit ([(@Value.int IntKind.i64 ((((ds.getD x835405 raw0)).body.getD x766315 tok0)).kind), (@Value.string ((((ds.getD x835405 raw0)).body.getD x766315 tok0)).text), (@Value.int IntKind.i64 ((((ds.getD x835405 raw0)).body.getD x766315 tok0)).n)].getD x522172 (@Value.tuple (@Array.mk _ []))))))), (boo ((ds.getD x835405 raw0)).block)].getD x140037 (@AV.lit (@Value.tuple (@Array.mk _ [])))))))), some ((@AV.view (ds).length 4 (fun x470740 => (fun x206441 => ([(@AV.lit (@Value.string ((ds.getD x470740 raw0)).at_)), (@AV.view (((ds.getD x470740 raw0)).head).length 3 (fun x663274 => (fun x157990 => (@AV.lit ([(@Value.int IntKind.i64 ((((ds.getD x470740 raw0)).head.getD x663274 tok0)).kind), (@Value.string ((((ds.getD x470740 raw0)).head.getD x663274 tok0)).text), (@Value.int IntKind.i64 ((((ds.getD x470740 raw0)).head.getD x663274 tok0)).n)].getD x157990 (@Value.tuple (@Array.mk _ []))))))), (@AV.view (((ds.getD x470740 raw0)).body).length 3 (fun x969263 => (fun x213176 => (@AV.lit ([(@Value.int IntKind.i64 ((((ds.getD x470740 raw0)).body.getD x969263 tok0)).kind), (@Value.string ((((ds.getD x470740 raw0)).body.getD x969263 tok0)).text), (@Value.int IntKind.i64 ((((ds.getD x470740 raw0)).body.getD x969263 tok0)).n)].getD x213176 (@Value.tuple (@Array.mk _ []))))))), (boo ((ds.getD x470740 raw0)).block)].getD x206441 (@AV.lit (@Value.tuple (@Array.mk _ [])))))))), none, none, none, none, none, none, none, none, none, none, none, none, none, none, none, none, none, none, none, none, none, none, none, none, none, none, none, none, none, none, none, none, none, none, none, none, none, none, none, none, none, none, none, none, none, none, none, none, none, none, none, none, none, none, none, none, none, none, none, none, none, none, none, none, none, none, none]
noncomputable abbrev lp_sr (ds : List RawV) : Lp Try.prog where
  f := 35
  key := 5
  S := formS (fun F M => slotI F 5) (fun k => srF ds k false) (fun _ => M0) (fun k => (QsOk ds) ∧ k = 0) (fun k => .leaf (.exit 0, srFE ds, M0)) [true, true, false, false, true, true, false, false, false, false, false, false, false, false, false, false, false, false, false, false, false, false, false, false, false, false, false, false, false, false, false, false, false, false, false, false, false, false, false, false, false, false, false, false, false, false, false, false, false, false, false, false, false, false, false, false, false, false, false, false, false, false, false, false, false, false, false, false, false]
  one := by kernel_rfl
  ok := formS_ok fun k ⟨h1, h2⟩ => by
    subst h2
    refine ⟨_, ((Sy.sr_scan ds h1).out [true, true, false, false, false, false, false, false, false, false, false, false, false, false, false, false, false, false, false, false, false, false, false, false, false, false, false, false, false, false, false, false, false, false, false, false, false, false, false, false, false, false, false, false, false, false, false, false, false, false, false, false, false, false, false, false, false, false, false, false, false, false, false, false, false, false, false, false, false]).mono fun ex F M hg => ?_⟩
    obtain ⟨F0, ⟨rfl, rfl, rfl⟩, rfl⟩ := hg
    rfl
end Sy
/-sy sr_t
fun (ds : List RawV) (d : D) => reckV [] [lp_sr ds] 400 30 35 [rv ds, rv ds] M0 d
-/
theorem Sy.sr_t (ds : List RawV) (hl : QsOk ds) : CallTo Try.prog 35 [rv ds, rv ds] M0 fun v _ => v = boo true :=
  toV [] [lp_sr ds] 400 30 (.br .done .done) (.fork (!(eqI (((ds).length : Nat) : Int) (((ds).length : Nat) : Int))) (.leaf (boo false)) (.need (@isSo (@And (((some (@AV.view (ds).length 4 (fun x750451 => (fun x392754 => ([(@AV.lit (@Value.string ((ds.getD x750451 raw0)).at_)), (@AV.view (((ds.getD x750451 raw0)).head).length 3 (fun x311413 => (fun x696493 => (@AV.lit ([(@Value.int IntKind.i64 ((((ds.getD x750451 raw0)).head.getD x311413 tok0)).kind), (@Value.string ((((ds.getD x750451 raw0)).head.getD x311413 tok0)).text), (@Value.int IntKind.i64 ((((ds.getD x750451 raw0)).head.getD x311413 tok0)).n)].getD x696493 (@Value.tuple (@Array.mk _ []))))))), (@AV.view (((ds.getD x750451 raw0)).body).length 3 (fun x167376 => (fun x977960 => (@AV.lit ([(@Value.int IntKind.i64 ((((ds.getD x750451 raw0)).body.getD x167376 tok0)).kind), (@Value.string ((((ds.getD x750451 raw0)).body.getD x167376 tok0)).text), (@Value.int IntKind.i64 ((((ds.getD x750451 raw0)).body.getD x167376 tok0)).n)].getD x977960 (@Value.tuple (@Array.mk _ []))))))), (boo ((ds.getD x750451 raw0)).block)].getD x392754 (@AV.lit (@Value.tuple (@Array.mk _ [])))))))) :: (some (@AV.view (ds).length 4 (fun x535087 => (fun x77750 => ([(@AV.lit (@Value.string ((ds.getD x535087 raw0)).at_)), (@AV.view (((ds.getD x535087 raw0)).head).length 3 (fun x922730 => (fun x352745 => (@AV.lit ([(@Value.int IntKind.i64 ((((ds.getD x535087 raw0)).head.getD x922730 tok0)).kind), (@Value.string ((((ds.getD x535087 raw0)).head.getD x922730 tok0)).text), (@Value.int IntKind.i64 ((((ds.getD x535087 raw0)).head.getD x922730 tok0)).n)].getD x352745 (@Value.tuple (@Array.mk _ []))))))), (@AV.view (((ds.getD x535087 raw0)).body).length 3 (fun x343209 => (fun x923244 => (@AV.lit ([(@Value.int IntKind.i64 ((((ds.getD x535087 raw0)).body.getD x343209 tok0)).kind), (@Value.string ((((ds.getD x535087 raw0)).body.getD x343209 tok0)).text), (@Value.int IntKind.i64 ((((ds.getD x535087 raw0)).body.getD x343209 tok0)).n)].getD x923244 (@Value.tuple (@Array.mk _ []))))))), (boo ((ds.getD x535087 raw0)).block)].getD x77750 (@AV.lit (@Value.tuple (@Array.mk _ [])))))))) :: [none, none, (some (boo false)), (some (int (0 : Int))), none, none, none, none, none, none, none, none, none, none, none, none, none, none, none, none, none, none, none, none, none, none, none, none, none, none, none, none, none, none, none, none, none, none, none, none, none, none, none, none, none, none, none, none, none, none, none, none, none, none, none, none, none, none, none, none, none, none, none, none, none, none, none]) = [(some (@AV.view (ds).length 4 (fun x216059 => (fun x651919 => ([(@AV.lit (@Value.string ((ds.getD x216059 raw0)).at_)), (@AV.view (((ds.getD x216059 raw0)).head).length 3 (fun x843566 => (fun x235557 => (@AV.lit ([(@Value.int IntKind.i64 ((((ds.getD x216059 raw0)).head.getD x843566 tok0)).kind), (@Value.string ((((ds.getD x216059 raw0)).head.getD x843566 tok0)).text), (@Value.int IntKind.i64 ((((ds.getD x216059 raw0)).head.getD x843566 tok0)).n)].getD x235557 (@Value.tuple (@Array.mk _ []))))))), (@AV.view (((ds.getD x216059 raw0)).body).length 3 (fun x529245 => (fun x652832 => (@AV.lit ([(@Value.int IntKind.i64 ((((ds.getD x216059 raw0)).body.getD x529245 tok0)).kind), (@Value.string ((((ds.getD x216059 raw0)).body.getD x529245 tok0)).text), (@Value.int IntKind.i64 ((((ds.getD x216059 raw0)).body.getD x529245 tok0)).n)].getD x652832 (@Value.tuple (@Array.mk _ []))))))), (boo ((ds.getD x216059 raw0)).block)].getD x651919 (@AV.lit (@Value.tuple (@Array.mk _ [])))))))), (some (@AV.view (ds).length 4 (fun x723384 => (fun x964723 => ([(@AV.lit (@Value.string ((ds.getD x723384 raw0)).at_)), (@AV.view (((ds.getD x723384 raw0)).head).length 3 (fun x14450 => (fun x327030 => (@AV.lit ([(@Value.int IntKind.i64 ((((ds.getD x723384 raw0)).head.getD x14450 tok0)).kind), (@Value.string ((((ds.getD x723384 raw0)).head.getD x14450 tok0)).text), (@Value.int IntKind.i64 ((((ds.getD x723384 raw0)).head.getD x14450 tok0)).n)].getD x327030 (@Value.tuple (@Array.mk _ []))))))), (@AV.view (((ds.getD x723384 raw0)).body).length 3 (fun x337345 => (fun x740324 => (@AV.lit ([(@Value.int IntKind.i64 ((((ds.getD x723384 raw0)).body.getD x337345 tok0)).kind), (@Value.string ((((ds.getD x723384 raw0)).body.getD x337345 tok0)).text), (@Value.int IntKind.i64 ((((ds.getD x723384 raw0)).body.getD x337345 tok0)).n)].getD x740324 (@Value.tuple (@Array.mk _ []))))))), (boo ((ds.getD x723384 raw0)).block)].getD x964723 (@AV.lit (@Value.tuple (@Array.mk _ [])))))))), none, none, (some (boo false)), (some (int (0 : Int))), none, none, none, none, none, none, none, none, none, none, none, none, none, none, none, none, none, none, none, none, none, none, none, none, none, none, none, none, none, none, none, none, none, none, none, none, none, none, none, none, none, none, none, none, none, none, none, none, none, none, none, none, none, none, none, none, none, none, none, none, none, none, none]) ((@Mem.mk 0 0 []) = M0))) (.need (@isSo (@And (@And ((ds).length ≤ 17592186044416) (∀ (d : RawV), d ∈ ds → lim d.head ∧ lim d.body)) ((0 : Int) = (0 : Int)))) (.leaf (boo true))))) (by kernel_rfl) (by
    refine fork_ok (fun h => ?_) (fun h => need_so ⟨rfl, rfl⟩ (need_so ⟨hl, rfl⟩ rfl))
    simp only [Bool.not_eq_true', Bool.not_eq_false', leI_t, leI_f, eqI_t, eqI_f, inR_t, inR_f, isSo_t, isSo_f] at h
    exact absurd trivial h)
theorem rel_rv {W : World} {a : Option Addr} {cap : Nat} {rs : List XRow} {ds : List RawV} (h : RRaws W a cap rs) (hd : ReadsX W rs ds) : Sy.rel (Sy.rho0 W) (Sy.rv ds) (.slice a rs.length cap) := by
  have hlen : rs.length = ds.length := by rw [← hd.1]; simp
  simp only [Sy.rv, Sy.rel]
  refine ⟨a, cap, by rw [hlen], by rw [← hlen]; exact h.le, h.max, h.nil, fun hn => ?_⟩
  rw [← hlen] at hn
  obtain ⟨b, off, rfl, hb, hcell⟩ := h.base (fun e => by rw [e] at hn; simp at hn)
  refine ⟨b, off, rfl, fun i j hi hj => ?_⟩
  rw [← hlen] at hi
  have hg : ds.getD i raw0 = rs[i].r := by
    rw [← hd.1, List.getD_eq_getElem?_getD, List.getElem?_map, List.getElem?_eq_getElem hi]; rfl
  rw [hg]
  have hv := hd.2 rs[i] (List.getElem_mem _)
  match j, hj with
  | 0, _ =>
    refine ⟨.string rs[i].r.at_, ?_, ?_, rfl⟩
    · simp only [Sy.rho0, if_pos hb]; exact hcell i hi 0 _ rfl
    · simp [Sy.rcells, Sy.rel]
  | 1, _ =>
    refine ⟨.slice rs[i].ah rs[i].r.head.length rs[i].ch, ?_, ?_, rfl⟩
    · simp only [Sy.rho0, if_pos hb]; exact hcell i hi 1 _ rfl
    · exact rel_kv hv.1
  | 2, _ =>
    refine ⟨.slice rs[i].ab rs[i].r.body.length rs[i].cb, ?_, ?_, rfl⟩
    · simp only [Sy.rho0, if_pos hb]; exact hcell i hi 2 _ rfl
    · exact rel_kv hv.2
  | 3, _ =>
    refine ⟨.bool rs[i].r.block, ?_, ?_, rfl⟩
    · simp only [Sy.rho0, if_pos hb]; exact hcell i hi 3 _ rfl
    · simp [Sy.rcells, Sy.rel]
theorem same_rules {w : World} {a b : Option Addr} {c d : Nat} {rs qs : List XRow} {ds : List RawV} (h1 : RRaws w a c rs) (h2 : RRaws w b d qs) (g1 : ReadsX w rs ds) (g2 : ReadsX w qs ds) :
    Calls Try.prog 35 #[.slice a rs.length c, .slice b qs.length d] w fun e w' => e = .returned (.bool true) ∧ Below w.heap.size w w' := by
  have hlen : rs.length = ds.length := by rw [← g1.1]; simp
  have hok : QsOk ds := ⟨by rw [← hlen]; exact h1.sm, fun x hx => by
    rw [← g1.1] at hx
    obtain ⟨r, hr, rfl⟩ := List.mem_map.1 hx
    exact ⟨(g1.2 r hr).1.sm, (g1.2 r hr).2.sm⟩⟩
  refine (((Sy.sr_t ds hok).mono fun v _ e => (⟨_, e, rfl⟩ : ∃ u, v = .lit u ∧ u = .bool true)).calls (us := [.slice a rs.length c, .slice b qs.length d]) ?_).mono ?_
  · simp only [Sy.rels]
    exact ⟨_, _, rfl, rel_rv h1 g1, _, _, rfl, rel_rv h2 g2, rfl⟩
  · rintro e w' ⟨⟨u, rfl, rfl⟩, hb⟩
    exact ⟨rfl, hb⟩
end Go.Proofs.Ytjljlcflmcjapaa
