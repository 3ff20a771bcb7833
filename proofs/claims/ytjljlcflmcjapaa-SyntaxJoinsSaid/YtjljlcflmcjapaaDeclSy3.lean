/-
  Layer 6: the library's searches and Clone at tokens; the program's trimmed.
-/
import Derived.Test.YtjljlcflmcjapaaDeclSy2
namespace Go.Proofs.Ytjljlcflmcjapaa
open Go Go.RowKit Pl Sy
set_option linter.unusedVariables false
set_option linter.unusedSimpArgs false
theorem hops1_before {g : Nat → Bool} {m : Nat} : ∀ (f k : Nat), m - k ≤ f → ∀ j, k ≤ j → j < hops g (fun j => j + 1) m k → g j = false := by
  have hx : ∀ k, k < m → k < (fun j => j + 1) k := fun k _ => Nat.lt_succ_self k
  intro f
  induction f with
  | zero => intro k h1 j h2 h3; rw [hops_end _ _ (by omega)] at h3; omega
  | succ f ih =>
    intro k h1 j h2 h3
    rw [hops_step hx] at h3
    split at h3
    · rename_i h
      by_cases hj : j = k
      · subst hj; exact h.2
      · exact ih (k + 1) (by omega) j (by omega) h3
    · omega
theorem hops1_le (g : Nat → Bool) (m k : Nat) (h : k ≤ m) : k ≤ hops g (fun j => j + 1) m k ∧ hops g (fun j => j + 1) m k ≤ m :=
  hops_le (fun k _ => Nat.lt_succ_self k) (fun k h => h) _ k (Nat.le_refl _) h
def idxI (p : TokV → Bool) (l : List TokV) : Int := if fstT p l 0 < l.length then (fstT p l 0 : Int) else -1
def notSp (t : TokV) : Bool := !spB t
noncomputable abbrev Sy.cNot : Con Try.prog := conB 134 notSp other_t
/-sy ixo_p
fun (l : List TokV) (d : D) => probeV SyTool.probe [cNot] 400 30 86 [kv l, .fn (.func 134) [] []] M0 d
-/
namespace Sy
abbrev ioF (l : List TokV) (k j : Int) : Fr := [some ((@AV.view (l).length 3 (fun x328914 => (fun x456974 => (@AV.lit ([(@Value.int IntKind.i64 ((l.getD x328914 tok0)).kind), (@Value.string ((l.getD x328914 tok0)).text), (@Value.int IntKind.i64 ((l.getD x328914 tok0)).n)].getD x456974 (@Value.tuple (@Array.mk _ [])))))))), some ((@AV.fn (@Fn.func 134) [] [])), none, none, some (int j), none, some ((@AV.view (l).length 3 (fun x627353 => (fun x95388 => (@AV.lit ([(@Value.int IntKind.i64 ((l.getD x627353 tok0)).kind), (@Value.string ((l.getD x627353 tok0)).text), (@Value.int IntKind.i64 ((l.getD x627353 tok0)).n)].getD x95388 (@Value.tuple (@Array.mk _ [])))))))), some ((int (((l).length : Nat) : Int))), some (int k), none, none, none, none, none, none, none, none, none, none]
abbrev ioFE (l : List TokV) (j : Int) : Fr := [some ((@AV.view (l).length 3 (fun x328914 => (fun x456974 => (@AV.lit ([(@Value.int IntKind.i64 ((l.getD x328914 tok0)).kind), (@Value.string ((l.getD x328914 tok0)).text), (@Value.int IntKind.i64 ((l.getD x328914 tok0)).n)].getD x456974 (@Value.tuple (@Array.mk _ [])))))))), some ((@AV.fn (@Fn.func 134) [] [])), none, none, some (int j), none, some ((@AV.view (l).length 3 (fun x627353 => (fun x95388 => (@AV.lit ([(@Value.int IntKind.i64 ((l.getD x627353 tok0)).kind), (@Value.string ((l.getD x627353 tok0)).text), (@Value.int IntKind.i64 ((l.getD x627353 tok0)).n)].getD x95388 (@Value.tuple (@Array.mk _ [])))))))), some ((int (((l).length : Nat) : Int))), none, none, none, none, none, none, none, none, none, none, none]
end Sy
/-sy ixo_r
fun (l : List TokV) (k : Int) (d : D) => reckL [cNot] [] 400 30 133 3 [true, true, false, false, true, false, true, true, true, false, false, false, false, false, false, false, false, false, false] (ioF l k 0) M0 d
-/
theorem Sy.ixo_scan (l : List TokV) (hl : lim l) : ∀ k, k ≤ l.length → LoopTo Try.prog (theBody Try.prog 133 3) (l.length - k + 1) (ioF l k 0) M0 fun ex F' M' => M' = M0 ∧ ((fstT notSp l k < l.length ∧ ex = .ret ∧ F' = ioF l (fstT notSp l k : Nat) (fstT notSp l k : Nat)) ∨ (fstT notSp l k = l.length ∧ ex = .exit 0 ∧ F' = ioF l l.length 0)) :=
  hopL l.length (fun j => notSp (tokAt l j)) (fun j => j + 1) (fun k _ => Nat.lt_succ_self k) (fun k h => h) (fun k => ioF l k 0) (fun k => ioF l k k) (fun _ => M0) .ret fun κ n G h0 c1 c2 c3 => by
    generalize hκ : (κ : Int) = k at *
    refine roundL [cNot] [] 400 30 133 3 Try.func133 rfl (by kernel_rfl) [true, true, false, false, true, false, true, true, true, false, false, false, false, false, false, false, false, false, false] (.br (.yes (.yes (.br .done .done))) .done) (.fork (!(leI (((l).length : Nat) : Int) k)) (.need (@inR k (l).length) (.need (@isSo (@And ([(@AV.agg [(int ((l.getD (k).toNat tok0)).kind), (@AV.lit (@Value.string ((l.getD (k).toNat tok0)).text)), (int ((l.getD (k).toNat tok0)).n)])] = [(@AV.agg [(int ((l.getD (k).toNat tok0)).kind), (@AV.lit (@Value.string ((l.getD (k).toNat tok0)).text)), (int ((l.getD (k).toNat tok0)).n)])]) True)) (.fork (@notSp (@TokV.mk ((l.getD (k).toNat tok0)).kind ((l.getD (k).toNat tok0)).text ((l.getD (k).toNat tok0)).n)) (.leaf (Ex.ret, ([(some (@AV.view (l).length 3 (fun x594470 => (fun x621290 => (@AV.lit ([(@Value.int IntKind.i64 ((l.getD x594470 tok0)).kind), (@Value.string ((l.getD x594470 tok0)).text), (@Value.int IntKind.i64 ((l.getD x594470 tok0)).n)].getD x621290 (@Value.tuple (@Array.mk _ [])))))))), (some (@AV.fn (@Fn.func 134) [] [])), none, none, (some (int k)), none, (some (@AV.view (l).length 3 (fun x969933 => (fun x495125 => (@AV.lit ([(@Value.int IntKind.i64 ((l.getD x969933 tok0)).kind), (@Value.string ((l.getD x969933 tok0)).text), (@Value.int IntKind.i64 ((l.getD x969933 tok0)).n)].getD x495125 (@Value.tuple (@Array.mk _ [])))))))), (some (int (((l).length : Nat) : Int))), (some (int k)), none, none, none, none, none, none, none, none, none, none], (@Mem.mk 0 0 [])))) (.leaf (Ex.norm, ([(some (@AV.view (l).length 3 (fun x120433 => (fun x584036 => (@AV.lit ([(@Value.int IntKind.i64 ((l.getD x120433 tok0)).kind), (@Value.string ((l.getD x120433 tok0)).text), (@Value.int IntKind.i64 ((l.getD x120433 tok0)).n)].getD x584036 (@Value.tuple (@Array.mk _ [])))))))), (some (@AV.fn (@Fn.func 134) [] [])), none, none, (some (int (0 : Int))), none, (some (@AV.view (l).length 3 (fun x208516 => (fun x22543 => (@AV.lit ([(@Value.int IntKind.i64 ((l.getD x208516 tok0)).kind), (@Value.string ((l.getD x208516 tok0)).text), (@Value.int IntKind.i64 ((l.getD x208516 tok0)).n)].getD x22543 (@Value.tuple (@Array.mk _ [])))))))), (some (int (((l).length : Nat) : Int))), (some (int (w64 (k + (1 : Int))))), none, none, none, none, none, none, none, none, none, none], (@Mem.mk 0 0 []))))))) (.leaf ((@Ex.exit 0), ([(some (@AV.view (l).length 3 (fun x355576 => (fun x999455 => (@AV.lit ([(@Value.int IntKind.i64 ((l.getD x355576 tok0)).kind), (@Value.string ((l.getD x355576 tok0)).text), (@Value.int IntKind.i64 ((l.getD x355576 tok0)).n)].getD x999455 (@Value.tuple (@Array.mk _ [])))))))), (some (@AV.fn (@Fn.func 134) [] [])), none, none, (some (int (0 : Int))), none, (some (@AV.view (l).length 3 (fun x396531 => (fun x232906 => (@AV.lit ([(@Value.int IntKind.i64 ((l.getD x396531 tok0)).kind), (@Value.string ((l.getD x396531 tok0)).text), (@Value.int IntKind.i64 ((l.getD x396531 tok0)).n)].getD x232906 (@Value.tuple (@Array.mk _ [])))))))), (some (int (((l).length : Nat) : Int))), (some (int k)), none, none, none, none, none, none, none, none, none, none], (@Mem.mk 0 0 []))))) (by kernel_rfl) ?_
    have hl' : l.length ≤ 17592186044416 := hl
    refine fork_ok (fun h => ?_) (fun h => ?_)
    · simp only [Bool.not_eq_true', Bool.not_eq_false', leI_t, leI_f, eqI_t, eqI_f, inR_t, inR_f, isSo_t, isSo_f] at h
      have hk : κ < l.length := by omega
      have hr : inR k l.length = true := by rw [inR_t]; omega
      have hκ' : tokAt l κ = l.getD k.toNat tok0 := by rw [← hκ]; rfl
      refine need_t hr (need_so ⟨rfl, trivial⟩ (fork_ok (fun h2 => c2 hk (by rw [hκ']; simpa using h2)) (fun h2 => ?_)))
      have := c1 hk (by rw [hκ']; simpa using h2)
      rw [show ((κ + 1 : Nat) : Int) = k + 1 by omega] at this
      rw [w64_in (r := k + 1) (by omega)]
      exact this
    · simp only [Bool.not_eq_true', Bool.not_eq_false', leI_t, leI_f, eqI_t, eqI_f, inR_t, inR_f, isSo_t, isSo_f] at h
      have hk : κ = l.length := by omega
      have := c3 hk
      rw [← hk, hκ] at this
      exact this
namespace Sy
noncomputable abbrev lp_ixo (l : List TokV) : Lp Try.prog where
  f := 133
  key := 3
  S := formS (fun F M => slotI F 8) (fun k => ioF l k 0) (fun _ => M0) (fun k => lim l ∧ k = 0) (fun k => .fork (leI 0 (idxI notSp l)) (.leaf (.ret, ioFE l (idxI notSp l), M0)) (.leaf (.exit 0, ioFE l 0, M0))) [true, true, false, false, true, false, true, true, true, false, false, false, false, false, false, false, false, false, false]
  one := by kernel_rfl
  ok := formS_ok fun k ⟨h1, h2⟩ => by
    subst h2
    refine ⟨l.length - 0 + 1, ?_⟩
    refine ((Sy.ixo_scan l h1 0 (Nat.zero_le _)).out [true, true, false, false, true, false, true, true, false, false, false, false, false, false, false, false, false, false, false]).mono fun ex F M hg => ?_
    obtain ⟨F0, ⟨rfl, hg⟩, rfl⟩ := hg
    rcases hg with ⟨q1, rfl, rfl⟩ | ⟨q1, rfl, rfl⟩
    · have e : idxI notSp l = (fstT notSp l 0 : Nat) := by unfold idxI; rw [if_pos q1]
      exact .inl ⟨by rw [leI_t, e]; omega, by rw [e]; rfl⟩
    · exact .inr ⟨by rw [leI_f]; unfold idxI; rw [if_neg (by omega)]; omega, rfl⟩
end Sy
/-sy ixo_t
fun (l : List TokV) (d : D) => reckV [] [lp_ixo l] 400 30 133 [kv l, .fn (.func 134) [] []] M0 d
-/
theorem Sy.ixo_t (l : List TokV) (h : lim l) : CallTo Try.prog 133 [kv l, .fn (.func 134) [] []] M0 fun v _ => v = int (idxI notSp l) :=
  toV [] [lp_ixo l] 400 30 (.br .done .done) (.need (@isSo (@And (((some (@AV.view (l).length 3 (fun x304872 => (fun x188651 => (@AV.lit ([(@Value.int IntKind.i64 ((l.getD x304872 tok0)).kind), (@Value.string ((l.getD x304872 tok0)).text), (@Value.int IntKind.i64 ((l.getD x304872 tok0)).n)].getD x188651 (@Value.tuple (@Array.mk _ [])))))))) :: (some (@AV.fn (@Fn.func 134) [] [])) :: [none, none, (some (int (0 : Int))), none, (some (@AV.view (l).length 3 (fun x370615 => (fun x458670 => (@AV.lit ([(@Value.int IntKind.i64 ((l.getD x370615 tok0)).kind), (@Value.string ((l.getD x370615 tok0)).text), (@Value.int IntKind.i64 ((l.getD x370615 tok0)).n)].getD x458670 (@Value.tuple (@Array.mk _ [])))))))), (some (int (((l).length : Nat) : Int))), (some (int (0 : Int))), none, none, none, none, none, none, none, none, none, none]) = [(some (@AV.view (l).length 3 (fun x678642 => (fun x633633 => (@AV.lit ([(@Value.int IntKind.i64 ((l.getD x678642 tok0)).kind), (@Value.string ((l.getD x678642 tok0)).text), (@Value.int IntKind.i64 ((l.getD x678642 tok0)).n)].getD x633633 (@Value.tuple (@Array.mk _ [])))))))), (some (@AV.fn (@Fn.func 134) [] [])), none, none, (some (int (0 : Int))), none, (some (@AV.view (l).length 3 (fun x248556 => (fun x405812 => (@AV.lit ([(@Value.int IntKind.i64 ((l.getD x248556 tok0)).kind), (@Value.string ((l.getD x248556 tok0)).text), (@Value.int IntKind.i64 ((l.getD x248556 tok0)).n)].getD x405812 (@Value.tuple (@Array.mk _ [])))))))), (some (int (((l).length : Nat) : Int))), (some (int (0 : Int))), none, none, none, none, none, none, none, none, none, none]) ((@Mem.mk 0 0 []) = M0))) (.need (@isSo (@And ((l).length ≤ 17592186044416) ((0 : Int) = (0 : Int)))) (.fork (leI (0 : Int) (@idxI notSp l)) (.leaf (int (@idxI notSp l))) (.leaf (int (-1 : Int)))))) (by kernel_rfl) (by
    refine need_so ⟨rfl, rfl⟩ (need_so ⟨h, rfl⟩ (fork_ok (fun h1 => rfl) (fun h1 => ?_)))
    rw [leI_f] at h1
    unfold idxI at h1 ⊢
    split at h1
    · omega
    · rename_i h2; rw [if_neg h2]; rfl)
noncomputable abbrev Sy.cIdxO (l : List TokV) : Con Try.prog := at1 133 [kv l, .fn (.func 134) [] []] (int (idxI notSp l)) (lim l) fun h => ⟨⟨⟨kv_free l, ⟨trivial, trivial⟩, trivial⟩, trivial⟩, ixo_t l h⟩
/-sy ixb_p
fun (l : List TokV) (d : D) => probeV SyTool.probe [cBad] 400 30 86 [kv l, .fn (.func 87) [] []] M0 d
-/
namespace Sy
abbrev ibF (l : List TokV) (k j : Int) : Fr := [some ((@AV.view (l).length 3 (fun x452169 => (fun x476298 => (@AV.lit ([(@Value.int IntKind.i64 ((l.getD x452169 tok0)).kind), (@Value.string ((l.getD x452169 tok0)).text), (@Value.int IntKind.i64 ((l.getD x452169 tok0)).n)].getD x476298 (@Value.tuple (@Array.mk _ [])))))))), some ((@AV.fn (@Fn.func 87) [] [])), none, none, some (int j), none, some ((@AV.view (l).length 3 (fun x115510 => (fun x544751 => (@AV.lit ([(@Value.int IntKind.i64 ((l.getD x115510 tok0)).kind), (@Value.string ((l.getD x115510 tok0)).text), (@Value.int IntKind.i64 ((l.getD x115510 tok0)).n)].getD x544751 (@Value.tuple (@Array.mk _ [])))))))), some ((int (((l).length : Nat) : Int))), some (int k), none, none, none, none, none, none, none, none, none, none]
abbrev ibFE (l : List TokV) (j : Int) : Fr := [some ((@AV.view (l).length 3 (fun x452169 => (fun x476298 => (@AV.lit ([(@Value.int IntKind.i64 ((l.getD x452169 tok0)).kind), (@Value.string ((l.getD x452169 tok0)).text), (@Value.int IntKind.i64 ((l.getD x452169 tok0)).n)].getD x476298 (@Value.tuple (@Array.mk _ [])))))))), some ((@AV.fn (@Fn.func 87) [] [])), none, none, some (int j), none, some ((@AV.view (l).length 3 (fun x115510 => (fun x544751 => (@AV.lit ([(@Value.int IntKind.i64 ((l.getD x115510 tok0)).kind), (@Value.string ((l.getD x115510 tok0)).text), (@Value.int IntKind.i64 ((l.getD x115510 tok0)).n)].getD x544751 (@Value.tuple (@Array.mk _ [])))))))), some ((int (((l).length : Nat) : Int))), none, none, none, none, none, none, none, none, none, none, none]
end Sy
/-sy ixb_r
fun (l : List TokV) (k : Int) (d : D) => reckL [cBad] [] 400 30 133 3 [true, true, false, false, true, false, true, true, true, false, false, false, false, false, false, false, false, false, false] (ibF l k 0) M0 d
-/
theorem Sy.ixb_scan (l : List TokV) (hl : lim l) : ∀ k, k ≤ l.length → LoopTo Try.prog (theBody Try.prog 133 3) (l.length - k + 1) (ibF l k 0) M0 fun ex F' M' => M' = M0 ∧ ((fstT badB l k < l.length ∧ ex = .ret ∧ F' = ibF l (fstT badB l k : Nat) (fstT badB l k : Nat)) ∨ (fstT badB l k = l.length ∧ ex = .exit 0 ∧ F' = ibF l l.length 0)) :=
  hopL l.length (fun j => badB (tokAt l j)) (fun j => j + 1) (fun k _ => Nat.lt_succ_self k) (fun k h => h) (fun k => ibF l k 0) (fun k => ibF l k k) (fun _ => M0) .ret fun κ n G h0 c1 c2 c3 => by
    generalize hκ : (κ : Int) = k at *
    refine roundL [cBad] [] 400 30 133 3 Try.func133 rfl (by kernel_rfl) [true, true, false, false, true, false, true, true, true, false, false, false, false, false, false, false, false, false, false] (.br (.yes (.yes (.br .done .done))) .done) (.fork (!(leI (((l).length : Nat) : Int) k)) (.need (@inR k (l).length) (.need (@isSo (@And ([(@AV.agg [(int ((l.getD (k).toNat tok0)).kind), (@AV.lit (@Value.string ((l.getD (k).toNat tok0)).text)), (int ((l.getD (k).toNat tok0)).n)])] = [(@AV.agg [(int ((l.getD (k).toNat tok0)).kind), (@AV.lit (@Value.string ((l.getD (k).toNat tok0)).text)), (int ((l.getD (k).toNat tok0)).n)])]) True)) (.fork (@badB (@TokV.mk ((l.getD (k).toNat tok0)).kind ((l.getD (k).toNat tok0)).text ((l.getD (k).toNat tok0)).n)) (.leaf (Ex.ret, ([(some (@AV.view (l).length 3 (fun x905061 => (fun x657934 => (@AV.lit ([(@Value.int IntKind.i64 ((l.getD x905061 tok0)).kind), (@Value.string ((l.getD x905061 tok0)).text), (@Value.int IntKind.i64 ((l.getD x905061 tok0)).n)].getD x657934 (@Value.tuple (@Array.mk _ [])))))))), (some (@AV.fn (@Fn.func 87) [] [])), none, none, (some (int k)), none, (some (@AV.view (l).length 3 (fun x615898 => (fun x456651 => (@AV.lit ([(@Value.int IntKind.i64 ((l.getD x615898 tok0)).kind), (@Value.string ((l.getD x615898 tok0)).text), (@Value.int IntKind.i64 ((l.getD x615898 tok0)).n)].getD x456651 (@Value.tuple (@Array.mk _ [])))))))), (some (int (((l).length : Nat) : Int))), (some (int k)), none, none, none, none, none, none, none, none, none, none], (@Mem.mk 0 0 [])))) (.leaf (Ex.norm, ([(some (@AV.view (l).length 3 (fun x921747 => (fun x825831 => (@AV.lit ([(@Value.int IntKind.i64 ((l.getD x921747 tok0)).kind), (@Value.string ((l.getD x921747 tok0)).text), (@Value.int IntKind.i64 ((l.getD x921747 tok0)).n)].getD x825831 (@Value.tuple (@Array.mk _ [])))))))), (some (@AV.fn (@Fn.func 87) [] [])), none, none, (some (int (0 : Int))), none, (some (@AV.view (l).length 3 (fun x508096 => (fun x290157 => (@AV.lit ([(@Value.int IntKind.i64 ((l.getD x508096 tok0)).kind), (@Value.string ((l.getD x508096 tok0)).text), (@Value.int IntKind.i64 ((l.getD x508096 tok0)).n)].getD x290157 (@Value.tuple (@Array.mk _ [])))))))), (some (int (((l).length : Nat) : Int))), (some (int (w64 (k + (1 : Int))))), none, none, none, none, none, none, none, none, none, none], (@Mem.mk 0 0 []))))))) (.leaf ((@Ex.exit 0), ([(some (@AV.view (l).length 3 (fun x468804 => (fun x928484 => (@AV.lit ([(@Value.int IntKind.i64 ((l.getD x468804 tok0)).kind), (@Value.string ((l.getD x468804 tok0)).text), (@Value.int IntKind.i64 ((l.getD x468804 tok0)).n)].getD x928484 (@Value.tuple (@Array.mk _ [])))))))), (some (@AV.fn (@Fn.func 87) [] [])), none, none, (some (int (0 : Int))), none, (some (@AV.view (l).length 3 (fun x500049 => (fun x342801 => (@AV.lit ([(@Value.int IntKind.i64 ((l.getD x500049 tok0)).kind), (@Value.string ((l.getD x500049 tok0)).text), (@Value.int IntKind.i64 ((l.getD x500049 tok0)).n)].getD x342801 (@Value.tuple (@Array.mk _ [])))))))), (some (int (((l).length : Nat) : Int))), (some (int k)), none, none, none, none, none, none, none, none, none, none], (@Mem.mk 0 0 []))))) (by kernel_rfl) ?_
    have hl' : l.length ≤ 17592186044416 := hl
    refine fork_ok (fun h => ?_) (fun h => ?_)
    · simp only [Bool.not_eq_true', Bool.not_eq_false', leI_t, leI_f, eqI_t, eqI_f, inR_t, inR_f, isSo_t, isSo_f] at h
      have hk : κ < l.length := by omega
      have hr : inR k l.length = true := by rw [inR_t]; omega
      have hκ' : tokAt l κ = l.getD k.toNat tok0 := by rw [← hκ]; rfl
      refine need_t hr (need_so ⟨rfl, trivial⟩ (fork_ok (fun h2 => c2 hk (by rw [hκ']; simpa using h2)) (fun h2 => ?_)))
      have := c1 hk (by rw [hκ']; simpa using h2)
      rw [show ((κ + 1 : Nat) : Int) = k + 1 by omega] at this
      rw [w64_in (r := k + 1) (by omega)]
      exact this
    · simp only [Bool.not_eq_true', Bool.not_eq_false', leI_t, leI_f, eqI_t, eqI_f, inR_t, inR_f, isSo_t, isSo_f] at h
      have hk : κ = l.length := by omega
      have := c3 hk
      rw [← hk, hκ] at this
      exact this
namespace Sy
noncomputable abbrev lp_ixb (l : List TokV) : Lp Try.prog where
  f := 133
  key := 3
  S := formS (fun F M => slotI F 8) (fun k => ibF l k 0) (fun _ => M0) (fun k => lim l ∧ k = 0) (fun k => .fork (leI 0 (idxI badB l)) (.leaf (.ret, ibFE l (idxI badB l), M0)) (.leaf (.exit 0, ibFE l 0, M0))) [true, true, false, false, true, false, true, true, true, false, false, false, false, false, false, false, false, false, false]
  one := by kernel_rfl
  ok := formS_ok fun k ⟨h1, h2⟩ => by
    subst h2
    refine ⟨l.length - 0 + 1, ?_⟩
    refine ((Sy.ixb_scan l h1 0 (Nat.zero_le _)).out [true, true, false, false, true, false, true, true, false, false, false, false, false, false, false, false, false, false, false]).mono fun ex F M hg => ?_
    obtain ⟨F0, ⟨rfl, hg⟩, rfl⟩ := hg
    rcases hg with ⟨q1, rfl, rfl⟩ | ⟨q1, rfl, rfl⟩
    · have e : idxI badB l = (fstT badB l 0 : Nat) := by unfold idxI; rw [if_pos q1]
      exact .inl ⟨by rw [leI_t, e]; omega, by rw [e]; rfl⟩
    · exact .inr ⟨by rw [leI_f]; unfold idxI; rw [if_neg (by omega)]; omega, rfl⟩
end Sy
/-sy ixb_t
fun (l : List TokV) (d : D) => reckV [] [lp_ixb l] 400 30 133 [kv l, .fn (.func 87) [] []] M0 d
-/
theorem Sy.ixb_t (l : List TokV) (h : lim l) : CallTo Try.prog 133 [kv l, .fn (.func 87) [] []] M0 fun v _ => v = int (idxI badB l) :=
  toV [] [lp_ixb l] 400 30 (.br .done .done) (.need (@isSo (@And (((some (@AV.view (l).length 3 (fun x915267 => (fun x419450 => (@AV.lit ([(@Value.int IntKind.i64 ((l.getD x915267 tok0)).kind), (@Value.string ((l.getD x915267 tok0)).text), (@Value.int IntKind.i64 ((l.getD x915267 tok0)).n)].getD x419450 (@Value.tuple (@Array.mk _ [])))))))) :: (some (@AV.fn (@Fn.func 87) [] [])) :: [none, none, (some (int (0 : Int))), none, (some (@AV.view (l).length 3 (fun x56765 => (fun x105301 => (@AV.lit ([(@Value.int IntKind.i64 ((l.getD x56765 tok0)).kind), (@Value.string ((l.getD x56765 tok0)).text), (@Value.int IntKind.i64 ((l.getD x56765 tok0)).n)].getD x105301 (@Value.tuple (@Array.mk _ [])))))))), (some (int (((l).length : Nat) : Int))), (some (int (0 : Int))), none, none, none, none, none, none, none, none, none, none]) = [(some (@AV.view (l).length 3 (fun x962168 => (fun x551872 => (@AV.lit ([(@Value.int IntKind.i64 ((l.getD x962168 tok0)).kind), (@Value.string ((l.getD x962168 tok0)).text), (@Value.int IntKind.i64 ((l.getD x962168 tok0)).n)].getD x551872 (@Value.tuple (@Array.mk _ [])))))))), (some (@AV.fn (@Fn.func 87) [] [])), none, none, (some (int (0 : Int))), none, (some (@AV.view (l).length 3 (fun x42919 => (fun x829686 => (@AV.lit ([(@Value.int IntKind.i64 ((l.getD x42919 tok0)).kind), (@Value.string ((l.getD x42919 tok0)).text), (@Value.int IntKind.i64 ((l.getD x42919 tok0)).n)].getD x829686 (@Value.tuple (@Array.mk _ [])))))))), (some (int (((l).length : Nat) : Int))), (some (int (0 : Int))), none, none, none, none, none, none, none, none, none, none]) ((@Mem.mk 0 0 []) = M0))) (.need (@isSo (@And ((l).length ≤ 17592186044416) ((0 : Int) = (0 : Int)))) (.fork (leI (0 : Int) (@idxI badB l)) (.leaf (int (@idxI badB l))) (.leaf (int (-1 : Int)))))) (by kernel_rfl) (by
    refine need_so ⟨rfl, rfl⟩ (need_so ⟨h, rfl⟩ (fork_ok (fun h1 => rfl) (fun h1 => ?_)))
    rw [leI_f] at h1
    unfold idxI at h1 ⊢
    split at h1
    · omega
    · rename_i h2; rw [if_neg h2]; rfl)
noncomputable abbrev Sy.cIdxB (l : List TokV) : Con Try.prog := at1 133 [kv l, .fn (.func 87) [] []] (int (idxI badB l)) (lim l) fun h => ⟨⟨⟨kv_free l, ⟨trivial, trivial⟩, trivial⟩, trivial⟩, ixb_t l h⟩
/-! ### trimmed -/
/-- how far from the end the last one is that is no space -/
def lastN (l : List TokV) : Nat := hops (fun j => !spB (tokAt l (l.length - 1 - j))) (fun j => j + 1) (l.length - 1 - fstT notSp l 0) 0
/-sy trimmed_p
fun (l : List TokV) (d : D) => probeV SyTool.probe [cIdxO l] 400 30 84 [kv l] M0 d
-/
namespace Sy
abbrev trF (l : List TokV) (k : Int) : Fr := [some ((@AV.view (l).length 3 (fun x695942 => (fun x46807 => (@AV.lit ([(@Value.int IntKind.i64 ((l.getD x695942 tok0)).kind), (@Value.string ((l.getD x695942 tok0)).text), (@Value.int IntKind.i64 ((l.getD x695942 tok0)).n)].getD x46807 (@Value.tuple (@Array.mk _ [])))))))), none, none, some ((int (@idxI notSp l))), some (int k), none, none, none, none, none, none, none, none, none, none, none, none, none, none, none, none, none, none]
end Sy
/-sy trimmed_r
fun (l : List TokV) (k : Int) (d : D) => reckL [cSpace] [] 400 30 84 6 [true, false, false, true, true, false, false, false, false, false, false, false, false, false, false, false, false, false, false, false, false, false, false] (trF l k) M0 d
-/
theorem Sy.tr_scan (l : List TokV) (hl : lim l) (hf : fstT notSp l 0 < l.length) : LoopTo Try.prog (theBody Try.prog 84 6) (l.length - 1 - fstT notSp l 0 - 0 + 1) (trF l l.length) M0 fun ex F' M' => ex = .exit 0 ∧ M' = M0 ∧ F' = trF l ((l.length - lastN l : Nat) : Int) := by
  have hm : ∀ κ, κ = l.length - 1 - fstT notSp l 0 → spB (tokAt l (l.length - 1 - κ)) = false := fun κ hκ => by
    have := hops_at (g := fun j => notSp (tokAt l j)) (nx := fun j => j + 1) (m := l.length) (fun k _ => Nat.lt_succ_self k) _ 0 (Nat.le_refl _) hf
    rw [show l.length - 1 - κ = fstT notSp l 0 by omega]
    unfold notSp at this
    unfold fstT notSp
    simpa using this
  have key := hopL (P := Try.prog) (body := theBody Try.prog 84 6) (l.length - 1 - fstT notSp l 0) (fun j => !spB (tokAt l (l.length - 1 - j))) (fun j => j + 1) (fun k _ => Nat.lt_succ_self k) (fun k h => h) (fun k => trF l ((l.length - k : Nat) : Int)) (fun k => trF l ((l.length - k : Nat) : Int)) (fun _ => M0) (.exit 0) (fun κ n G h0 c1 c2 c3 => by
    generalize hκ : ((l.length - κ : Nat) : Int) = k at *
    refine roundL [cSpace] [] 400 30 84 6 Try.func84 rfl (by kernel_rfl) [true, false, false, true, true, false, false, false, false, false, false, false, false, false, false, false, false, false, false, false, false, false, false] (.yes (.yes (.br .done .done))) (.need (@inR (w64 (k - (1 : Int))) (l).length) (.need (@isSo (@And ([(@AV.agg [(int ((l.getD ((w64 (k - (1 : Int)))).toNat tok0)).kind), (@AV.lit (@Value.string ((l.getD ((w64 (k - (1 : Int)))).toNat tok0)).text)), (int ((l.getD ((w64 (k - (1 : Int)))).toNat tok0)).n)])] = [(@AV.agg [(int ((l.getD ((w64 (k - (1 : Int)))).toNat tok0)).kind), (@AV.lit (@Value.string ((l.getD ((w64 (k - (1 : Int)))).toNat tok0)).text)), (int ((l.getD ((w64 (k - (1 : Int)))).toNat tok0)).n)])]) True)) (.fork (@spB (@TokV.mk ((l.getD ((w64 (k - (1 : Int)))).toNat tok0)).kind ((l.getD ((w64 (k - (1 : Int)))).toNat tok0)).text ((l.getD ((w64 (k - (1 : Int)))).toNat tok0)).n)) (.leaf (Ex.norm, ([(some (@AV.view (l).length 3 (fun x698890 => (fun x583027 => (@AV.lit ([(@Value.int IntKind.i64 ((l.getD x698890 tok0)).kind), (@Value.string ((l.getD x698890 tok0)).text), (@Value.int IntKind.i64 ((l.getD x698890 tok0)).n)].getD x583027 (@Value.tuple (@Array.mk _ [])))))))), none, none, (some (int (@idxI notSp l))), (some (int (w64 (k - (1 : Int))))), none, none, none, none, none, none, none, none, none, none, none, none, none, none, none, none, none, none], (@Mem.mk 0 0 [])))) (.leaf ((@Ex.exit 0), ([(some (@AV.view (l).length 3 (fun x79173 => (fun x587085 => (@AV.lit ([(@Value.int IntKind.i64 ((l.getD x79173 tok0)).kind), (@Value.string ((l.getD x79173 tok0)).text), (@Value.int IntKind.i64 ((l.getD x79173 tok0)).n)].getD x587085 (@Value.tuple (@Array.mk _ [])))))))), none, none, (some (int (@idxI notSp l))), (some (int k)), none, none, none, none, none, none, none, none, none, none, none, none, none, none, none, none, none, none], (@Mem.mk 0 0 []))))))) (by kernel_rfl) ?_
    have hl' : l.length ≤ 17592186044416 := hl
    have e : w64 (k - 1) = k - 1 := w64_in (by omega)
    have hr : inR (w64 (k - 1)) l.length = true := by rw [e, inR_t]; omega
    have ht : tokAt l (l.length - 1 - κ) = l.getD (w64 (k - 1)).toNat tok0 := by
      rw [e, show (k - 1).toNat = l.length - 1 - κ by omega]; rfl
    refine need_t hr (need_so ⟨rfl, trivial⟩ (fork_ok (fun h2 => ?_) (fun h2 => ?_)))
    · have hlt : κ < l.length - 1 - fstT notSp l 0 := by
        rcases Nat.lt_or_ge κ (l.length - 1 - fstT notSp l 0) with h | h
        · exact h
        · have := hm κ (by omega)
          rw [ht] at this
          have h2' : spB (l.getD (w64 (k - 1)).toNat tok0) = true := h2
          rw [this] at h2'; cases h2'
      have := c1 hlt (by rw [ht]; simpa using h2)
      rw [show ((l.length - (κ + 1) : Nat) : Int) = w64 (k - 1) by omega] at this
      exact this
    · rcases Nat.lt_or_ge κ (l.length - 1 - fstT notSp l 0) with h | h
      · have := c2 h (by rw [ht]; simpa using h2)
        exact this
      · have := c3 (by omega)
        rw [show l.length - 1 - fstT notSp l 0 = κ by omega, hκ] at this
        exact this) 0 (Nat.zero_le _)
  refine key.mono fun ex F M hg => ?_
  obtain ⟨rfl, hg⟩ := hg
  rcases hg with ⟨q1, rfl, rfl⟩ | ⟨q1, rfl, rfl⟩
  · exact ⟨rfl, rfl, rfl⟩
  · refine ⟨rfl, rfl, ?_⟩
    have : lastN l = l.length - 1 - fstT notSp l 0 := q1
    rw [this]
namespace Sy
noncomputable abbrev lp_tr (l : List TokV) : Lp Try.prog where
  f := 84
  key := 6
  S := formS (fun F M => slotI F 4) (fun k => trF l k) (fun _ => M0) (fun k => (lim l ∧ fstT notSp l 0 < l.length) ∧ k = l.length) (fun k => .leaf (.exit 0, trF l ((l.length - lastN l : Nat) : Int), M0)) [true, false, false, true, true, false, false, false, false, false, false, false, false, false, false, false, false, false, false, false, false, false, false]
  one := by kernel_rfl
  ok := formS_ok fun k ⟨⟨h1, h2⟩, h3⟩ => by
    subst h3
    refine ⟨_, (Sy.tr_scan l h1 h2).mono fun ex F M hg => ?_⟩
    obtain ⟨rfl, rfl, rfl⟩ := hg
    rfl
end Sy
/-sy trimmed_t
fun (l : List TokV) (d : D) => reckV [cIdxO l] [lp_tr l] 400 30 84 [kv l] M0 d
-/
theorem fst_at (p : TokV → Bool) (l : List TokV) (k : Nat) (h : fstT p l k < l.length) : p (tokAt l (fstT p l k)) = true :=
  hops_at (g := fun j => p (tokAt l j)) (nx := fun j => j + 1) (m := l.length) (fun k _ => Nat.lt_succ_self k) _ k (Nat.le_refl _) h
theorem fst_before (p : TokV → Bool) (l : List TokV) (k j : Nat) (h1 : k ≤ j) (h2 : j < fstT p l k) : p (tokAt l j) = false :=
  hops1_before (g := fun j => p (tokAt l j)) _ k (Nat.le_refl _) j h1 h2
theorem fst_le (p : TokV → Bool) (l : List TokV) (k : Nat) (h : k ≤ l.length) : k ≤ fstT p l k ∧ fstT p l k ≤ l.length := hops1_le (fun j => p (tokAt l j)) l.length k h
theorem trim_cut (l : List TokV) (h : fstT notSp l 0 < l.length) : lastN l ≤ l.length - 1 - fstT notSp l 0 ∧ trim l = (l.drop (fstT notSp l 0)).take (l.length - lastN l - fstT notSp l 0) := by
  have h1 : lastN l ≤ l.length - 1 - fstT notSp l 0 := (hops1_le (fun j => !spB (tokAt l (l.length - 1 - j))) (l.length - 1 - fstT notSp l 0) 0 (Nat.zero_le _)).2
  have h0 : spB (tokAt l (fstT notSp l 0)) = false := by
    have := fst_at notSp l 0 h
    rw [show notSp (tokAt l (fstT notSp l 0)) = !spB (tokAt l (fstT notSp l 0)) from rfl] at this
    simpa using this
  refine ⟨h1, trim_of l (fstT notSp l 0) (l.length - lastN l) (by omega) (by omega) (fun k hk => ?_) h0 (fun k q1 q2 => ?_) ?_⟩
  · have := fst_before notSp l 0 k (Nat.zero_le _) hk
    unfold notSp at this
    simpa using this
  · have := hops1_before (g := fun j => !spB (tokAt l (l.length - 1 - j))) (m := l.length - 1 - fstT notSp l 0) _ 0 (Nat.le_refl _) (l.length - 1 - k) (Nat.zero_le _) (show _ < lastN l by omega)
    rw [show l.length - 1 - (l.length - 1 - k) = k by omega] at this
    simpa using this
  · rcases Nat.lt_or_ge (lastN l) (l.length - 1 - fstT notSp l 0) with hh | hh
    · have := hops_at (g := fun j => !spB (tokAt l (l.length - 1 - j))) (nx := fun j => j + 1) (m := l.length - 1 - fstT notSp l 0) (fun k _ => Nat.lt_succ_self k) _ 0 (Nat.le_refl _) hh
      have e : hops (fun j => !spB (tokAt l (l.length - 1 - j))) (fun j => j + 1) (l.length - 1 - fstT notSp l 0) 0 = lastN l := rfl
      rw [e, show l.length - 1 - lastN l = l.length - lastN l - 1 by omega] at this
      simpa using this
    · rw [show l.length - lastN l - 1 = fstT notSp l 0 by omega]
      exact h0
/-- a part of tokens, as a slice -/
theorem sub_part (l : List TokV) (lo n m : Nat) (h : lo + n ≤ l.length) (hm : m = n) (L : List TokV) (hL : L = (l.drop lo).take n) : Sub (.view m 3 (fun i j => .lit ((TokV.cells (l.getD (lo + i) tok0)).getD j undef))) (kv L) := by
  subst hL hm
  refine Sub.view (by simp; omega) fun i j hi hj => ?_
  have e : l.getD (lo + i) tok0 = ((l.drop lo).take m).getD i tok0 := by
    rw [List.getD_eq_getElem?_getD, List.getD_eq_getElem?_getD, List.getElem?_take, if_pos hi, List.getElem?_drop]
  rw [e]
theorem Sy.trimmed_t (l : List TokV) (hl : lim l) : CallTo Try.prog 84 [kv l] M0 fun v _ => v = kv (trim l) :=
  CallTo.as (toV [cIdxO l] [lp_tr l] 400 30 (.yes (.br .done (.yes .done))) (.need (@isSo (@And ([(@AV.view (l).length 3 (fun x958223 => (fun x564267 => (@AV.lit ([(@Value.int IntKind.i64 ((l.getD x958223 tok0)).kind), (@Value.string ((l.getD x958223 tok0)).text), (@Value.int IntKind.i64 ((l.getD x958223 tok0)).n)].getD x564267 (@Value.tuple (@Array.mk _ []))))))), (@AV.fn (@Fn.func 134) [] [])] = [(@AV.view (l).length 3 (fun x411690 => (fun x249725 => (@AV.lit ([(@Value.int IntKind.i64 ((l.getD x411690 tok0)).kind), (@Value.string ((l.getD x411690 tok0)).text), (@Value.int IntKind.i64 ((l.getD x411690 tok0)).n)].getD x249725 (@Value.tuple (@Array.mk _ []))))))), (@AV.fn (@Fn.func 134) [] [])]) ((l).length ≤ 17592186044416))) (.fork (!(leI (0 : Int) (@idxI notSp l))) (.leaf (@AV.lit (@Value.slice none 0 0))) (.need (@isSo (@And (((some (@AV.view (l).length 3 (fun x196117 => (fun x104056 => (@AV.lit ([(@Value.int IntKind.i64 ((l.getD x196117 tok0)).kind), (@Value.string ((l.getD x196117 tok0)).text), (@Value.int IntKind.i64 ((l.getD x196117 tok0)).n)].getD x104056 (@Value.tuple (@Array.mk _ [])))))))) :: [none, none, (some (int (@idxI notSp l))), (some (int (((l).length : Nat) : Int))), none, none, none, none, none, none, none, none, none, none, none, none, none, none, none, none, none, none]) = [(some (@AV.view (l).length 3 (fun x97904 => (fun x936359 => (@AV.lit ([(@Value.int IntKind.i64 ((l.getD x97904 tok0)).kind), (@Value.string ((l.getD x97904 tok0)).text), (@Value.int IntKind.i64 ((l.getD x97904 tok0)).n)].getD x936359 (@Value.tuple (@Array.mk _ [])))))))), none, none, (some (int (@idxI notSp l))), (some (int (((l).length : Nat) : Int))), none, none, none, none, none, none, none, none, none, none, none, none, none, none, none, none, none, none]) ((@Mem.mk 0 0 []) = M0))) (.need (@isSo (@And (@And ((l).length ≤ 17592186044416) ((@fstT notSp l 0) < (l).length)) ((((l).length : Nat) : Int) = (((l).length : Nat) : Int)))) (.need ((leI (0 : Int) (@idxI notSp l)) && ((leI (@idxI notSp l) ((((l).length - (@lastN l)) : Nat) : Int)) && (leI ((((l).length - (@lastN l)) : Nat) : Int) (((l).length : Nat) : Int)))) (.leaf (@AV.view ((((((l).length - (@lastN l)) : Nat) : Int)).toNat - ((@idxI notSp l)).toNat) 3 (fun x525902 => (fun x614722 => (@AV.lit ([(@Value.int IntKind.i64 ((l.getD (((@idxI notSp l)).toNat + x525902) tok0)).kind), (@Value.string ((l.getD (((@idxI notSp l)).toNat + x525902) tok0)).text), (@Value.int IntKind.i64 ((l.getD (((@idxI notSp l)).toNat + x525902) tok0)).n)].getD x614722 (@Value.tuple (@Array.mk _ []))))))))))))) (by kernel_rfl) (by
    have hf := fst_le notSp l 0 (Nat.zero_le _)
    refine need_so ⟨rfl, hl⟩ (fork_ok (fun h => ?_) (fun h => ?_))
    · simp only [Bool.not_eq_true', Bool.not_eq_false', leI_t, leI_f, eqI_t, eqI_f, inR_t, inR_f, isSo_t, isSo_f] at h
      have h1 : fstT notSp l 0 = l.length := by unfold idxI at h; split at h <;> omega
      have h2 : trim l = [] := trim_all l fun k hk => by
        have := fst_before notSp l 0 k (Nat.zero_le _) (by omega)
        unfold notSp at this
        simpa using this
      show Sub _ _
      rw [h2]
      exact Sub.nil _ _
    · simp only [Bool.not_eq_true', Bool.not_eq_false', leI_t, leI_f, eqI_t, eqI_f, inR_t, inR_f, isSo_t, isSo_f] at h
      have h1 : fstT notSp l 0 < l.length := by unfold idxI at h; split at h <;> omega
      have h2 : idxI notSp l = (fstT notSp l 0 : Nat) := by unfold idxI; rw [if_pos h1]
      obtain ⟨h3, h4⟩ := trim_cut l h1
      have hb : (leI (0 : Int) (idxI notSp l) && (leI (idxI notSp l) ((l.length - lastN l : Nat) : Int) && leI ((l.length - lastN l : Nat) : Int) ((l.length : Nat) : Int))) = true := by
        rw [h2]; simp only [Bool.and_eq_true, leI_t]; omega
      refine need_so ⟨rfl, rfl⟩ (need_so ⟨⟨hl, h1⟩, rfl⟩ (need_t hb ?_))
      show Sub _ _
      rw [h2]
      exact sub_part l (fstT notSp l 0) (l.length - lastN l - fstT notSp l 0) _ (by omega) (by omega) (trim l) h4))
noncomputable abbrev Sy.cTrim : Con Try.prog := conT 84 (fun l _ => kv (trim l)) (fun l r => lim l ∧ r = []) fun l r ⟨h1, h2⟩ => by
  subst h2; exact ⟨⟨trivial, kv_free _⟩, trimmed_t l h1⟩
end Go.Proofs.Ytjljlcflmcjapaa
