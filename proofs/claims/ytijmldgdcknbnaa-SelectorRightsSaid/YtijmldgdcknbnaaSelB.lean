/-
  Layer 7's law SelectorSums.
-/
import Derived.Test.YtijmldgdcknbnaaSelA
namespace Go.Proofs.Ytijmldgdcknbnaa
open Go Go.RowKit Sy
set_option linter.unusedVariables false
set_option linter.unusedSimpArgs false

namespace Sy
abbrev weN (ps : List PartV) : Fr := [none, some ((@AV.ptr 0 0)), some ((@AV.ptr (0 + 1) 0)), some ((@AV.ptr ((0 + 1) + 1) 0)), none, none, none, some ((@AV.view (ps).length 6 (@pcell ps))), some ((int (((ps).length : Nat) : Int))), none, none, none, none, none, none, none, none, none, none, none, none, none, none, none, none, none, none, none, none, none, none, none, none, none, none, none, none, none, none, none, none, none, none, none]
noncomputable abbrev weLp (ps : List PartV) : Lp Try.prog where
  f := 11
  key := 4
  S := formS (fun F M => slotI F 9) (fun k => weF ps k) (fun _ => weM ps 0 0 0) (fun k => ps.length ≤ 17592186044416 ∧ k = 0) (fun k => .leaf (.exit 0, weN ps, weM ps (wAll ps (0, 0, 0)).1 (wAll ps (0, 0, 0)).2.1 (wAll ps (0, 0, 0)).2.2)) [false, true, true, true, false, false, false, true, true, true, false, false, false, false, false, false, false, false, false, false, false, false, false, false, false, false, false, false, false, false, false, false, false, false, false, false, false, false, false, false, false, false, false, false]
  one := by kernel_rfl
  ok := formS_ok fun k ⟨h1, h2⟩ => by
    subst h2
    refine ⟨ps.length + 1, ?_⟩
    have h6 := Sy.we_loop ps h1 ps [] 0 0 0 0 rfl rfl
    refine (h6.out [false, true, true, true, false, false, false, true, true, false, false, false, false, false, false, false, false, false, false, false, false, false, false, false, false, false, false, false, false, false, false, false, false, false, false, false, false, false, false, false, false, false, false, false]).mono fun ex F M hg => ?_
    obtain ⟨F0, ⟨rfl, ⟨j, rfl⟩, hM⟩, rfl⟩ := hg
    rw [hM]; rfl
end Sy
/-sy weight_t
fun (ps : List PartV) (d : D) => reckV [] [weLp ps] 400 30 11 [.agg [pview ps]] M0 d
-/
theorem Sy.weight_t (ps : List PartV) (hx : ps.length ≤ 17592186044416) : CallTo Try.prog 11 [.agg [pview ps]] M0 fun v _ => v = .agg [int (wAll ps (0, 0, 0)).1, int (wAll ps (0, 0, 0)).2.1, int (wAll ps (0, 0, 0)).2.2] :=
  toV [] [weLp ps] 400 30 .done (.need (@isSo (@And ((none :: [(some (@AV.ptr 0 0)), (some (@AV.ptr (0 + 1) 0)), (some (@AV.ptr ((0 + 1) + 1) 0)), none, none, none, (some (@AV.view (ps).length 6 (@pcell ps))), (some (int (((ps).length : Nat) : Int))), (some (int (0 : Int))), none, none, none, none, none, none, none, none, none, none, none, none, none, none, none, none, none, none, none, none, none, none, none, none, none, none, none, none, none, none, none, none, none, none]) = [none, (some (@AV.ptr 0 0)), (some (@AV.ptr 1 0)), (some (@AV.ptr 2 0)), none, none, none, (some (@AV.view (ps).length 6 (@pcell ps))), (some (int (((ps).length : Nat) : Int))), (some (int (0 : Int))), none, none, none, none, none, none, none, none, none, none, none, none, none, none, none, none, none, none, none, none, none, none, none, none, none, none, none, none, none, none, none, none, none, none]) ((@Mem.mk (((0 + 1) + 1) + 1) 0 [(some (@Blk.mk [(int (0 : Int)), (int (0 : Int)), (int (0 : Int))] 35 none)), (some (@Blk.mk [(int (0 : Int)), (int (0 : Int)), (int (0 : Int))] 35 none)), (some (@Blk.mk [(@AV.view (ps).length 6 (@pcell ps))] 25 none))]) = (@Mem.mk 3 0 [(some (@Blk.mk [(int (0 : Int)), (int (0 : Int)), (int (0 : Int))] 35 none)), (some (@Blk.mk [(int (0 : Int)), (int (0 : Int)), (int (0 : Int))] 35 none)), (some (@Blk.mk [(@AV.view (ps).length 6 (@pcell ps))] 25 none))])))) (.need (@isSo (@And ((ps).length ≤ 17592186044416) ((0 : Int) = (0 : Int)))) (.leaf (@AV.agg [(int ((@wAll ps ((0 : Int), ((0 : Int), (0 : Int))))).fst), (int (((@wAll ps ((0 : Int), ((0 : Int), (0 : Int))))).snd).fst), (int (((@wAll ps ((0 : Int), ((0 : Int), (0 : Int))))).snd).snd)])))) (by kernel_rfl) (need_so ⟨rfl, rfl⟩ (need_so ⟨hx, rfl⟩ rfl))
/-! Weights of whatever view of parts -/
noncomputable def toldA : AV → Int
  | .lit (.string s) => toldI s
  | _ => 0
def lenA : AV → Int
  | .view n _ _ => n
  | _ => 0
noncomputable def onesA : AV → Int
  | .lit (.int .i64 n) => onesI n
  | _ => 0
noncomputable def wCn (cell : Nat → Nat → AV) : Nat → Int × Int × Int
  | 0 => (0, 0, 0)
  | m + 1 => (w64 ((wCn cell m).1 + toldA (cell m 2)), w64 ((wCn cell m).2.1 + w64 (w64 (lenA (cell m 3) + lenA (cell m 4)) + onesA (cell m 5))), w64 ((wCn cell m).2.2 + toldA (cell m 1)))
theorem wCn_eq {cell : Nat → Nat → AV} {ps : List PartV} (h : ∀ i j, i < ps.length → j < 6 → cell i j = Sy.pcell ps i j) : ∀ m, m ≤ ps.length → wCn cell m = wAll (ps.take m) (0, 0, 0)
  | 0, _ => rfl
  | m + 1, hm => by
    have hlt : m < ps.length := by omega
    have hg : ps.getD m partNone = ps[m] := by rw [List.getD_eq_getElem?_getD, List.getElem?_eq_getElem hlt]; rfl
    rw [List.take_succ_eq_append_getElem hlt]
    unfold wAll
    rw [List.foldl_append]
    have ih := wCn_eq h m (by omega)
    unfold wAll at ih
    rw [wCn, h m 1 hlt (by omega), h m 2 hlt (by omega), h m 3 hlt (by omega), h m 4 hlt (by omega), h m 5 hlt (by omega)]
    simp only [Sy.pcell, hg, ih]
    rfl
/-- is a view one of parts? -/
def PartsOf (x : Nat × (Nat → Nat → AV)) : Prop := ∃ ps : List PartV, x.1 = ps.length ∧ ps.length ≤ 17592186044416 ∧ (∀ i j, Free (x.2 i j)) ∧ ∀ i j, i < ps.length → j < 6 → x.2 i j = Sy.pcell ps i j
noncomputable abbrev Sy.cWeight : Con Try.prog := atX 11 (fun args => match args with | [.agg [.view n _ cell]] => some (n, cell) | _ => none) (fun x => [.agg [.view x.1 6 x.2]]) (fun x => .agg [int (wCn x.2 x.1).1, int (wCn x.2 x.1).2.1, int (wCn x.2 x.1).2.2]) PartsOf fun x h => by
  obtain ⟨n, cell⟩ := x
  obtain ⟨ps, h1, h2, h3, h4⟩ := h
  simp only at h1 h3 h4
  subst h1
  refine ⟨⟨⟨⟨h3, trivial⟩, trivial⟩, ⟨trivial, trivial, trivial, trivial⟩⟩, ?_⟩
  have e := wCn_eq h4 ps.length (Nat.le_refl _)
  rw [List.take_length] at e
  simp only
  rw [e]
  refine (Sy.weight_t ps h2).congr fun ρ us hr => ?_
  simp only [rels, rel] at hr ⊢
  obtain ⟨u, us', rfl, ⟨l, rfl, u2, us2, rfl, hv, rfl⟩, rfl⟩ := hr
  have hv' : rel ρ (.view ps.length 6 cell) u2 := by simp only [rel]; exact hv
  have hv2 := rel_view_congr h4 hv'
  simp only [rel] at hv2
  exact ⟨_, _, rfl, ⟨_, rfl, _, _, rfl, hv2, rfl⟩, rfl⟩
noncomputable abbrev Sy.cKnown07 : Con Try.prog := at1 10 [] (boo true) True fun _ => ⟨⟨trivial, trivial⟩, (CallTo.of_calls (us := []) known07 M0).mono fun _ _ h => h.1⟩
/-sy sums_t
fun (ps : List PartV) (at_ : Int) (d : D) => reckV [cKnown07, cWeight] [] 400 30 5 [.agg [pview ps], int at_] M0 d
-/
theorem w64_add (a b : Int) : w64 (w64 a + b) = w64 (a + b) := by
  rw [w64_eq, w64_eq, w64_eq]
  unfold IntKind.wrap
  simp [IntKind.signed, IntKind.bits]
  split <;> split <;> split <;> omega
theorem w64_idem (a : Int) : w64 (w64 a) = w64 a := by have := w64_add a 0; simpa using this
/-- sums of weights -/
noncomputable def add3 (w v : Int × Int × Int) : Int × Int × Int := (w64 (w.1 + v.1), w64 (w.2.1 + v.2.1), w64 (w.2.2 + v.2.2))
theorem w64_comm3 (a b t : Int) : w64 (w64 (a + b) + t) = w64 (a + w64 (b + t)) := by
  rw [w64_add, Int.add_comm a (w64 (b + t)), w64_add]
  congr 1
  omega
theorem pw_add (w v : Int × Int × Int) (p : PartV) : pw (add3 w v) p = add3 w (pw v p) := by
  unfold pw add3
  simp only [w64_comm3]
theorem wAll_add : ∀ (l : List PartV) (w v : Int × Int × Int), wAll l (add3 w v) = add3 w (wAll l v)
  | [], w, v => rfl
  | p :: l, w, v => by
    unfold wAll
    rw [List.foldl_cons, List.foldl_cons, pw_add]
    exact wAll_add l w (pw v p)
def Norm3 (w : Int × Int × Int) : Prop := w64 w.1 = w.1 ∧ w64 w.2.1 = w.2.1 ∧ w64 w.2.2 = w.2.2
theorem wAll_norm : ∀ (l : List PartV) (w : Int × Int × Int), Norm3 w → Norm3 (wAll l w)
  | [], w, h => h
  | p :: l, w, h => by
    unfold wAll
    rw [List.foldl_cons]
    exact wAll_norm l (pw w p) ⟨w64_idem _, w64_idem _, w64_idem _⟩
theorem w64_zero : w64 0 = 0 := w64_in (by omega)
theorem norm0 : Norm3 (0, 0, 0) := ⟨w64_zero, w64_zero, w64_zero⟩
theorem wAll_app (l m : List PartV) : wAll (l ++ m) (0, 0, 0) = add3 (wAll l (0, 0, 0)) (wAll m (0, 0, 0)) := by
  have h1 : wAll (l ++ m) (0, 0, 0) = wAll m (wAll l (0, 0, 0)) := by unfold wAll; rw [List.foldl_append]
  have h2 : add3 (wAll l (0, 0, 0)) (0, 0, 0) = wAll l (0, 0, 0) := by
    obtain ⟨q1, q2, q3⟩ := wAll_norm l _ norm0
    unfold add3
    simp only [Int.add_zero, q1, q2, q3]
  rw [h1, ← wAll_add, h2]
theorem getD_take (ps : List PartV) (k i : Nat) (h : i < k) : (ps.take k).getD i partNone = ps.getD i partNone := by
  rw [List.getD_eq_getElem?_getD, List.getD_eq_getElem?_getD, List.getElem?_take, if_pos h]
theorem getD_drop (ps : List PartV) (k i : Nat) : (ps.drop k).getD i partNone = ps.getD (k + i) partNone := by
  rw [List.getD_eq_getElem?_getD, List.getD_eq_getElem?_getD, List.getElem?_drop]
theorem Sy.sums_t (ps : List PartV) (at_ : Int) (hx : ps.length ≤ 17592186044416) : CallTo Try.prog 5 [.agg [pview ps], int at_] M0 fun v _ => v = boo true :=
  toV [cKnown07, cWeight] [] 400 30 (.br (.auto 4 (.br (.yes .done) (.yes (.yes (.yes (.yes (.yes (.br (.yes (.auto 0 .done)) (.auto 0 .done))))))))) (.auto 5 (.yes .done))) (.fork (!(!(leI (0 : Int) at_))) (.fork (!(leI at_ (((ps).length : Nat) : Int))) (.need (@isSo (@And (([] : List AV) = []) True)) (.leaf (boo true))) (.need (true && ((leI (0 : Int) at_) && (leI at_ (((ps).length : Nat) : Int)))) (.need (@isSo (@And ([(@AV.agg [(@AV.view ((at_).toNat - 0) 6 (fun x924648 => (fun x381680 => (@pcell ps (0 + x924648) x381680))))])] = [(@AV.agg [(@AV.view ((at_).toNat - 0) 6 (fun x643661 => (fun x788122 => (@pcell ps (0 + x643661) x788122))))])]) (@PartsOf (((at_).toNat - 0), (fun x267718 => (fun x83231 => (@pcell ps (0 + x267718) x83231))))))) (.need ((leI (0 : Int) at_) && ((leI at_ (((ps).length : Nat) : Int)) && (leI (((ps).length : Nat) : Int) (((ps).length : Nat) : Int)))) (.need (@isSo (@And ([(@AV.agg [(@AV.view (((((ps).length : Nat) : Int)).toNat - (at_).toNat) 6 (fun x162868 => (fun x108916 => (@pcell ps ((at_).toNat + x162868) x108916))))])] = [(@AV.agg [(@AV.view (((((ps).length : Nat) : Int)).toNat - (at_).toNat) 6 (fun x545265 => (fun x236545 => (@pcell ps ((at_).toNat + x545265) x236545))))])]) (@PartsOf ((((((ps).length : Nat) : Int)).toNat - (at_).toNat), (fun x163770 => (fun x841283 => (@pcell ps ((at_).toNat + x163770) x841283))))))) (.need (@isSo (@And ([(@AV.agg [(@AV.view (ps).length 6 (@pcell ps))])] = [(@AV.agg [(@AV.view (ps).length 6 (@pcell ps))])]) (@PartsOf ((ps).length, (@pcell ps))))) (.fork ((eqI ((@wCn (@pcell ps) (ps).length)).fst (w64 (((@wCn (fun x489263 => (fun x986360 => (@pcell ps (0 + x489263) x986360))) ((at_).toNat - 0))).fst + ((@wCn (fun x395733 => (fun x707325 => (@pcell ps ((at_).toNat + x395733) x707325))) (((((ps).length : Nat) : Int)).toNat - (at_).toNat))).fst))) && ((eqI (((@wCn (@pcell ps) (ps).length)).snd).fst (w64 ((((@wCn (fun x814590 => (fun x925570 => (@pcell ps (0 + x814590) x925570))) ((at_).toNat - 0))).snd).fst + (((@wCn (fun x185851 => (fun x345660 => (@pcell ps ((at_).toNat + x185851) x345660))) (((((ps).length : Nat) : Int)).toNat - (at_).toNat))).snd).fst))) && ((eqI (((@wCn (@pcell ps) (ps).length)).snd).snd (w64 ((((@wCn (fun x630404 => (fun x970361 => (@pcell ps (0 + x630404) x970361))) ((at_).toNat - 0))).snd).snd + (((@wCn (fun x859953 => (fun x183494 => (@pcell ps ((at_).toNat + x859953) x183494))) (((((ps).length : Nat) : Int)).toNat - (at_).toNat))).snd).snd))) && true))) (.need (@isSo (@And (([] : List AV) = []) True)) (.leaf (boo true))) (.leaf (boo false))))))))) (.need (@isSo (@And (([] : List AV) = []) True)) (.leaf (boo true)))) (by kernel_rfl) (by
    refine fork_ok (fun h1 => fork_ok (fun h2 => need_so ⟨rfl, trivial⟩ rfl) (fun h2 => ?_)) (fun h1 => need_so ⟨rfl, trivial⟩ rfl)
    simp only [Bool.not_eq_true', Bool.not_eq_false', leI_t, leI_f, eqI_t, eqI_f, inR_t, inR_f, isSo_t, isSo_f] at h1
    simp only [Bool.not_eq_true', Bool.not_eq_false', leI_t, leI_f, eqI_t, eqI_f, inR_t, inR_f, isSo_t, isSo_f] at h2
    have b1 : leI 0 at_ = true := by rw [leI_t]; omega
    have b2 : leI at_ ps.length = true := by rw [leI_t]; omega
    have b3 : leI ps.length ps.length = true := by rw [leI_t]; omega
    have lT : (ps.take at_.toNat).length = at_.toNat - 0 := by rw [List.length_take]; omega
    have lD : (ps.drop at_.toNat).length = ps.length - at_.toNat := by rw [List.length_drop]
    have cT : ∀ i j, i < (ps.take at_.toNat).length → j < 6 → pcell ps (0 + i) j = pcell (ps.take at_.toNat) i j := fun i j hi _ => by
      unfold pcell
      rw [getD_take _ _ _ (by omega), Nat.zero_add]
    have cD : ∀ i j, i < (ps.drop at_.toNat).length → j < 6 → pcell ps (at_.toNat + i) j = pcell (ps.drop at_.toNat) i j := fun i j hi _ => by
      unfold pcell
      rw [getD_drop]
    refine need_t (by rw [b1, b2]; rfl) (need_so ⟨rfl, ps.take at_.toNat, lT.symm, by omega, fun i j => partA_free _ j, cT⟩ (need_t (by rw [b1, b2, b3]; rfl) (need_so ⟨rfl, ps.drop at_.toNat, lD.symm, by omega, fun i j => partA_free _ j, cD⟩ (need_so ⟨rfl, ps, rfl, hx, fun i j => partA_free _ j, fun i j _ _ => rfl⟩ ?_))))
    have e1 : wCn (pcell ps) ps.length = wAll ps (0, 0, 0) := by rw [wCn_eq (ps := ps) (fun i j _ _ => rfl) _ (Nat.le_refl _), List.take_length]
    have e2 : wCn (fun i j => pcell ps (0 + i) j) (at_.toNat - 0) = wAll (ps.take at_.toNat) (0, 0, 0) := by
      rw [← lT, wCn_eq cT _ (Nat.le_refl _), List.take_length]
    have e3 : wCn (fun i j => pcell ps (at_.toNat + i) j) (((ps.length : Int)).toNat - at_.toNat) = wAll (ps.drop at_.toNat) (0, 0, 0) := by
      rw [show ((ps.length : Int)).toNat - at_.toNat = (ps.drop at_.toNat).length by rw [lD]; omega, wCn_eq cD _ (Nat.le_refl _), List.take_length]
    have e4 := wAll_app (ps.take at_.toNat) (ps.drop at_.toNat)
    rw [List.take_append_drop] at e4
    rw [e1, e2, e3, e4]
    unfold add3
    have self : ∀ a, eqI a a = true := fun a => by rw [eqI_t]
    refine fork_ok (fun _ => need_so ⟨rfl, trivial⟩ rfl) (fun h => ?_)
    simp [self] at h)
end Go.Proofs.Ytijmldgdcknbnaa
