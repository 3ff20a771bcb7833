/-
  Layer 6: what the program's rule calls.
-/
import Derived.Test.YtjljlcflmcjapaaRulePlain
import Derived.Test.YtjljlcflmcjapaaSyM
namespace Go.Proofs.Ytjljlcflmcjapaa
open Go Go.RowKit Pl Sy
set_option linter.unusedVariables false
set_option linter.unusedSimpArgs false
abbrev Sy.bx (b : Bool) : AV := .vptr 1 (fun _ => boo b)
/-sy ends1_t
fun (b : Bool) (t : TokV) (d : D) => reckV [] [] 400 30 136 [tokA t, bx b] M0 d
-/
theorem Sy.ends1_t (b : Bool) (t : TokV) : CallTo Try.prog 136 [tokA t, bx b] M0 fun v _ => v = boo (endB b t) :=
  toV [] [] 400 30 (.br (.auto 0 (.br (.auto 4 .done) (.auto 4 .done))) (.auto 5 .done)) (.fork (!(eqI (t).kind (17 : Int))) (.fork b (.leaf (boo (eqI (t).kind (11 : Int)))) (.leaf (boo false))) (.leaf (boo true))) (by kernel_rfl) (by
    unfold endB
    repeat' (first | refine fork_ok (fun _ => ?_) (fun _ => ?_))
    all_goals refine leaf_boo ?_
    all_goals (simp only [Bool.not_eq_true', Bool.not_eq_false', Bool.not_not] at *)
    all_goals simp_all)
noncomputable abbrev Sy.cEnds1 (b : Bool) : Con Try.prog :=
  atX 136 (fun args => match args with | [.agg [.lit (.int .i64 a), .lit (.string s), .lit (.int .i64 c)], _] => some (⟨a, s, c⟩ : TokV) | _ => none) (fun t => [tokA t, bx b]) (fun t => boo (endB b t)) (fun _ => True) fun t _ => ⟨⟨⟨⟨trivial, trivial, trivial, trivial⟩, fun j => trivial, trivial⟩, trivial⟩, ends1_t b t⟩
/-sy firste_p
fun (l : List TokV) (i : Int) (b : Bool) (d : D) => probeV SyTool.probe [] 400 30 83 [kv l, int i, .fn (.func 136) [] [bx b]] M0 d
-/
namespace Sy
abbrev feF (b : Bool) (l : List TokV) (k : Int) : Fr := [some ((@AV.view (l).length 3 (fun x249893 => (fun x218685 => (@AV.lit ([(@Value.int IntKind.i64 ((l.getD x249893 tok0)).kind), (@Value.string ((l.getD x249893 tok0)).text), (@Value.int IntKind.i64 ((l.getD x249893 tok0)).n)].getD x218685 (@Value.tuple (@Array.mk _ [])))))))), some (int k), some ((@AV.fn (@Fn.func 136) [] [(@AV.vptr 1 (fun x315626 => (boo b)))])), none, none, none, none, none, none, none, none, none, none, none, none, none, none, none, none, none, none, none, none, none, none, none, none, none]
end Sy
/-sy firste_r
fun (b : Bool) (l : List TokV) (k : Int) (d : D) => reckL [cMatch l, cEnds1 b] [] 400 30 83 2 [true, true, true, false, false, false, false, false, false, false, false, false, false, false, false, false, false, false, false, false, false, false, false, false, false, false, false, false] (feF b l k) M0 d
-/
theorem Sy.firste_scan (b : Bool) (l : List TokV) (hl : lim l) : ∀ k, k ≤ l.length → LoopTo Try.prog (theBody Try.prog 83 2) (l.length - k + 1) (feF b l k) M0 fun ex F' M' => M' = M0 ∧ ((tops (endB b) l k < l.length ∧ ex = .exit 0 ∧ F' = feF b l (tops (endB b) l k : Nat)) ∨ (tops (endB b) l k = l.length ∧ ex = .exit 0 ∧ F' = feF b l l.length)) :=
  hopL l.length (fun j => endB b (tokAt l j)) (nxt l) (nxt_gt l) (nxt_le l) (fun k => feF b l k) (fun k => feF b l k) (fun _ => M0) (.exit 0) fun κ n G h0 c1 c2 c3 => by
    generalize hκ : (κ : Int) = k at *
    refine roundL [cMatch l, cEnds1 b] [] 400 30 83 2 Try.func83 rfl (by kernel_rfl) [true, true, true, false, false, false, false, false, false, false, false, false, false, false, false, false, false, false, false, false, false, false, false, false, false, false, false, false] (.br (.auto 2 (.yes (.auto 1 (.yes (.auto 1 (.br (.yes .done) .done)))))) (.auto 7 .done)) (.fork (!(leI (((l).length : Nat) : Int) k)) (.need (@inR k (l).length) (.need (@isSo (@And ([(@AV.agg [(int ((l.getD (k).toNat tok0)).kind), (@AV.lit (@Value.string ((l.getD (k).toNat tok0)).text)), (int ((l.getD (k).toNat tok0)).n)]), (@AV.vptr 1 (fun x196487 => (boo b)))] = [(@AV.agg [(int ((l.getD (k).toNat tok0)).kind), (@AV.lit (@Value.string ((l.getD (k).toNat tok0)).text)), (int ((l.getD (k).toNat tok0)).n)]), (@AV.vptr 1 (fun x940214 => (boo b)))]) True)) (.fork (!(@endB b (@TokV.mk ((l.getD (k).toNat tok0)).kind ((l.getD (k).toNat tok0)).text ((l.getD (k).toNat tok0)).n))) (.need (@isSo (@And ([(@AV.view (l).length 3 (fun x565036 => (fun x900363 => (@AV.lit ([(@Value.int IntKind.i64 ((l.getD x565036 tok0)).kind), (@Value.string ((l.getD x565036 tok0)).text), (@Value.int IntKind.i64 ((l.getD x565036 tok0)).n)].getD x900363 (@Value.tuple (@Array.mk _ []))))))), (int k)] = [(@AV.view (l).length 3 (fun x497255 => (fun x299710 => (@AV.lit ([(@Value.int IntKind.i64 ((l.getD x497255 tok0)).kind), (@Value.string ((l.getD x497255 tok0)).text), (@Value.int IntKind.i64 ((l.getD x497255 tok0)).n)].getD x299710 (@Value.tuple (@Array.mk _ []))))))), (int k)]) ((l).length ≤ 17592186044416))) (.leaf (Ex.norm, ([(some (@AV.view (l).length 3 (fun x942733 => (fun x466965 => (@AV.lit ([(@Value.int IntKind.i64 ((l.getD x942733 tok0)).kind), (@Value.string ((l.getD x942733 tok0)).text), (@Value.int IntKind.i64 ((l.getD x942733 tok0)).n)].getD x466965 (@Value.tuple (@Array.mk _ [])))))))), (some (int (if ((((l).length : Nat) : Int) < (w64 ((@mtI l k) + (1 : Int)))) then (((l).length : Nat) : Int) else (w64 ((@mtI l k) + (1 : Int)))))), (some (@AV.fn (@Fn.func 136) [] [(@AV.vptr 1 (fun x904360 => (boo b)))])), none, none, none, none, none, none, none, none, none, none, none, none, none, none, none, none, none, none, none, none, none, none, none, none, none], (@Mem.mk 0 0 []))))) (.leaf ((@Ex.exit 0), ([(some (@AV.view (l).length 3 (fun x686914 => (fun x817593 => (@AV.lit ([(@Value.int IntKind.i64 ((l.getD x686914 tok0)).kind), (@Value.string ((l.getD x686914 tok0)).text), (@Value.int IntKind.i64 ((l.getD x686914 tok0)).n)].getD x817593 (@Value.tuple (@Array.mk _ [])))))))), (some (int k)), (some (@AV.fn (@Fn.func 136) [] [(@AV.vptr 1 (fun x808569 => (boo b)))])), none, none, none, none, none, none, none, none, none, none, none, none, none, none, none, none, none, none, none, none, none, none, none, none, none], (@Mem.mk 0 0 []))))))) (.leaf ((@Ex.exit 0), ([(some (@AV.view (l).length 3 (fun x649821 => (fun x228277 => (@AV.lit ([(@Value.int IntKind.i64 ((l.getD x649821 tok0)).kind), (@Value.string ((l.getD x649821 tok0)).text), (@Value.int IntKind.i64 ((l.getD x649821 tok0)).n)].getD x228277 (@Value.tuple (@Array.mk _ [])))))))), (some (int k)), (some (@AV.fn (@Fn.func 136) [] [(@AV.vptr 1 (fun x177528 => (boo b)))])), none, none, none, none, none, none, none, none, none, none, none, none, none, none, none, none, none, none, none, none, none, none, none, none, none], (@Mem.mk 0 0 []))))) (by kernel_rfl) ?_
    have hl' : l.length ≤ 17592186044416 := hl
    refine fork_ok (fun h => ?_) (fun h => ?_)
    · simp only [Bool.not_eq_true', Bool.not_eq_false', leI_t, leI_f, eqI_t, eqI_f, inR_t, inR_f, isSo_t, isSo_f] at h
      have hk : κ < l.length := by omega
      have hr : inR k l.length = true := by rw [inR_t]; omega
      have hm := mt_le hk
      have hκ' : tokAt l κ = l.getD k.toNat tok0 := by rw [← hκ]; rfl
      refine need_t hr (need_so ⟨rfl, trivial⟩ (fork_ok (fun h2 => need_so ⟨rfl, hl⟩ ?_) (fun h2 => c2 hk (by rw [hκ']; simpa using h2))))
      have e : (if ((l.length : Nat) : Int) < w64 (mtI l k + 1) then ((l.length : Nat) : Int) else w64 (mtI l k + 1)) = (nxt l κ : Nat) := by
        have e1 : mtI l k = (mt l κ : Int) := by rw [← hκ]; exact (mt_int l κ).1
        rw [e1, w64_in (r := (mt l κ : Int) + 1) (by omega)]
        unfold nxt
        split <;> omega
      have := c1 hk (by rw [hκ']; simpa using h2)
      rw [← e] at this
      exact this
    · simp only [Bool.not_eq_true', Bool.not_eq_false', leI_t, leI_f, eqI_t, eqI_f, inR_t, inR_f, isSo_t, isSo_f] at h
      have hk : κ = l.length := by omega
      have := c3 hk
      rw [← hk, hκ] at this
      exact this
namespace Sy
noncomputable abbrev lp_firste (b : Bool) (l : List TokV) : Lp Try.prog where
  f := 83
  key := 2
  S := formS (fun F M => slotI F 1) (fun k => feF b l k) (fun _ => M0) (fun k => lim l ∧ 0 ≤ k ∧ k ≤ l.length) (fun k => .leaf (.exit 0, feF b l (tops (endB b) l k.toNat : Nat), M0)) [true, true, true, false, false, false, false, false, false, false, false, false, false, false, false, false, false, false, false, false, false, false, false, false, false, false, false, false]
  one := by kernel_rfl
  ok := formS_ok fun k ⟨h1, h2, h3⟩ => by
    obtain ⟨k, rfl⟩ := Int.eq_ofNat_of_zero_le h2
    refine ⟨l.length - k + 1, ?_⟩
    refine (Sy.firste_scan b l h1 k (by omega)).mono fun ex F M hg => ?_
    obtain ⟨rfl, hg⟩ := hg
    rcases hg with ⟨q1, rfl, rfl⟩ | ⟨q1, rfl, rfl⟩
    · rfl
    · show _ = _
      rw [Int.toNat_natCast, q1]
end Sy
/-sy firste_t
fun (b : Bool) (l : List TokV) (i : Int) (d : D) => reckV [] [lp_firste b l] 400 30 83 [kv l, int i, .fn (.func 136) [] [bx b]] M0 d
-/
theorem Sy.firste_t (b : Bool) (l : List TokV) (hl : lim l) (i : Int) (h0 : 0 ≤ i) (h1 : i ≤ l.length) : CallTo Try.prog 83 [kv l, int i, .fn (.func 136) [] [bx b]] M0 fun v _ => v = int (tops (endB b) l i.toNat : Nat) :=
  toV [] [lp_firste b l] 400 30 .done (.need (@isSo (@And (((some (@AV.view (l).length 3 (fun x238304 => (fun x671021 => (@AV.lit ([(@Value.int IntKind.i64 ((l.getD x238304 tok0)).kind), (@Value.string ((l.getD x238304 tok0)).text), (@Value.int IntKind.i64 ((l.getD x238304 tok0)).n)].getD x671021 (@Value.tuple (@Array.mk _ [])))))))) :: (some (int i)) :: (some (@AV.fn (@Fn.func 136) [] [(@AV.vptr 1 (fun x57990 => (boo b)))])) :: [none, none, none, none, none, none, none, none, none, none, none, none, none, none, none, none, none, none, none, none, none, none, none, none, none]) = [(some (@AV.view (l).length 3 (fun x309234 => (fun x495875 => (@AV.lit ([(@Value.int IntKind.i64 ((l.getD x309234 tok0)).kind), (@Value.string ((l.getD x309234 tok0)).text), (@Value.int IntKind.i64 ((l.getD x309234 tok0)).n)].getD x495875 (@Value.tuple (@Array.mk _ [])))))))), (some (int i)), (some (@AV.fn (@Fn.func 136) [] [(@AV.vptr 1 (fun x877796 => (boo b)))])), none, none, none, none, none, none, none, none, none, none, none, none, none, none, none, none, none, none, none, none, none, none, none, none, none]) ((@Mem.mk 0 0 []) = M0))) (.need (@isSo (@And ((l).length ≤ 17592186044416) (@And ((0 : Int) ≤ i) (i ≤ (((l).length : Nat) : Int))))) (.leaf (int (((@tops (@endB b) l (i).toNat) : Nat) : Int))))) (by kernel_rfl) (need_so ⟨rfl, rfl⟩ (need_so ⟨hl, h0, h1⟩ rfl))
noncomputable abbrev Sy.cTrimL (l T : List TokV) : Con Try.prog := at1 84 [kv l] (kv T) (lim l ∧ T = trim l) fun ⟨h1, h2⟩ => by
  subst h2; exact ⟨⟨⟨kv_free _, trivial⟩, kv_free _⟩, trimmed_t l h1⟩
/-sy trimp_t
fun (l T : List TokV) (d : D) => reckV [cTrimL l T, cCloneD T] [] 400 30 96 [kv l] M0 d
-/
end Go.Proofs.Ytjljlcflmcjapaa
