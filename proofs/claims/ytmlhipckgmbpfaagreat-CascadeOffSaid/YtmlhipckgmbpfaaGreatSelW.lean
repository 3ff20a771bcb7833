/-
  What a selector weighs: the program's.
-/
import Derived.Test.YtmlhipckgmbpfaaGreatOpenP
import Derived.Test.YtmlhipckgmbpfaaGreatSelScan
namespace Go.Proofs.YtmlhipckgmbpfaaGreat
open Go Go.RowKit Sy
set_option linter.unusedVariables false
set_option linter.unusedSimpArgs false

/-- 1, if a text is not empty -/
def toldI (s : ByteArray) : Int := if bytesEq s.data.toList [] = true then 0 else 1
/-sy told_s
fun (s : ByteArray) (d : D) => reckV [] [] 400 30 69 [.lit (.string s)] M0 d
-/
theorem Sy.told_s (s : ByteArray) : CallTo Tryz.prog 69 [.lit (.string s)] M0 fun v _ => v = int (toldI s) :=
  toV [] [] 400 30 (.br .done .done) (.fork (@bytesEq (@Array.toList _ (@ByteArray.data s)) (@Array.toList _ (@ByteArray.data (@ByteArray.mk (@Array.mk _ []))))) (.leaf (int (0 : Int))) (.leaf (int (1 : Int)))) (by kernel_rfl) (by
    unfold toldI
    refine fork_ok (fun h => ?_) (fun h => ?_)
    · rw [if_pos (by simpa using h)]; exact rfl
    · rw [if_neg (by simpa using h)]; exact rfl)
noncomputable abbrev Sy.cTold : Con Tryz.prog := str1 69 (fun s => int (toldI s)) (fun _ => True) (fun _ => trivial) fun s _ => told_s s
/-sy ones_s
fun (n : Int) (d : D) => reckV [] [] 400 30 70 [int n] M0 d
-/
/-- is a bit among those of a number above nought? -/
def bitI (n b : Int) : Bool := !leI (IntKind.i64.wrap ((BitVec.ofInt IntKind.i64.bits (if n < 0 then 0 else n) &&& BitVec.ofInt IntKind.i64.bits b).toNat)) 0
def one (b : Bool) : Int := if b then 1 else 0
/-- how many states are told -/
def onesI (n : Int) : Int := one (bitI n 1) + one (bitI n 2) + one (bitI n 4)
noncomputable def onesT (n : Int) : Tr AV := .fork (bitI n 1) (.fork (bitI n 2) (.fork (bitI n 4) (.leaf (int 3)) (.leaf (int 2))) (.fork (bitI n 4) (.leaf (int 2)) (.leaf (int 1)))) (.fork (bitI n 2) (.fork (bitI n 4) (.leaf (int 2)) (.leaf (int 1))) (.fork (bitI n 4) (.leaf (int 1)) (.leaf (int 0))))
theorem Sy.ones_s (n : Int) : CallTo Tryz.prog 70 [int n] M0 fun v _ => v = int (onesI n) :=
  toV [] [] 400 30 (.auto 0 (.br (.auto 0 (.br (.auto 0 (.br (.auto 0 .done) (.auto 0 .done))) (.auto 0 (.br (.auto 0 .done) (.auto 0 .done))))) (.auto 0 (.br (.auto 0 (.br (.auto 0 .done) (.auto 0 .done))) (.auto 0 (.br (.auto 0 .done) (.auto 0 .done))))))) (onesT n) (by kernel_rfl) (by
    unfold onesI onesT one
    repeat' refine fork_ok (fun _ => ?_) (fun _ => ?_)
    all_goals refine leaf_int ?_
    all_goals simp only [*, if_true, if_false, Bool.false_eq_true]
    all_goals rfl)
noncomputable abbrev Sy.cOnes : Con Tryz.prog := int1 70 (fun n => int (onesI n)) (fun _ => trivial) ones_s
/-sy weight_p
fun (ps : List PartV) (d : D) => probeV SyTool.probe [cTold, cOnes] 400 30 35 [.agg [pview ps]] M0 d
-/
namespace Sy
abbrev weM (ps : List PartV) (a b c : Int) : Mem := ⟨3, 0, [some ⟨[int a, int b, int c], 27, none⟩, some ⟨[int 0, int 0, int 0], 27, none⟩, some ⟨[pview ps], 45, none⟩]⟩
abbrev weF (ps : List PartV) (k : Int) : Fr := [none, some ((@AV.ptr 0 0)), some ((@AV.ptr (0 + 1) 0)), some ((@AV.ptr ((0 + 1) + 1) 0)), none, none, none, some ((@AV.view (ps).length 6 (@pcell ps))), some ((int (((ps).length : Nat) : Int))), some (int k), none, none, none, none, none, none, none, none, none, none, none, none, none, none, none, none, none, none, none, none, none, none, none, none, none, none, none, none, none, none, none, none, none, none]
end Sy
/-sy weight_r
fun (ps : List PartV) (a b c k : Int) (d : D) => reckL [cTold, cOnes] [] 400 30 35 4 [false, true, true, true, false, false, false, true, true, true, false, false, false, false, false, false, false, false, false, false, false, false, false, false, false, false, false, false, false, false, false, false, false, false, false, false, false, false, false, false, false, false, false, false] (weF ps k) (weM ps a b c) d
-/
/-- a part's weight, added -/
noncomputable def pw (w : Int × Int × Int) (p : PartV) : Int × Int × Int := (w64 (w.1 + toldI p.id), w64 (w.2.1 + w64 (w64 ((p.cls.length : Int) + (p.tests.length : Int)) + onesI p.states)), w64 (w.2.2 + toldI p.tag))
noncomputable def wAll (l : List PartV) (w : Int × Int × Int) : Int × Int × Int := l.foldl pw w
theorem Sy.weF_lt (ps : List PartV) (k : Int) : LtF 3 (weF ps k) := by
  simp only [LtF]
  exact ⟨show 0 < 3 by omega, show 1 < 3 by omega, show 2 < 3 by omega, Free.lt (pview_free ps), trivial, trivial, trivial⟩
theorem Sy.weB_lt (ps : List PartV) (a b c : Int) : LtB 3 (weM ps a b c).bs :=
  ⟨⟨⟨trivial, trivial, trivial, trivial⟩, rfl⟩, ⟨⟨trivial, trivial, trivial, trivial⟩, rfl⟩, ⟨⟨Free.lt (pview_free ps), trivial⟩, rfl⟩, trivial⟩
theorem Sy.we_loop (ps : List PartV) (hx : ps.length ≤ 17592186044416) : ∀ (r pre : List PartV) (a b c k : Int), ps = pre ++ r → k = pre.length →
    LoopTo Tryz.prog (theBody Tryz.prog 35 4) (r.length + 1) (weF ps k) (weM ps a b c) fun ex F M => ex = .exit 0 ∧ (∃ j, F = weF ps j) ∧ M = weM ps (wAll r (a, b, c)).1 (wAll r (a, b, c)).2.1 (wAll r (a, b, c)).2.2 := by
  intro r
  induction r with
  | nil =>
    intro pre a b c k hxs hk
    have hl : ps.length = pre.length := by rw [hxs]; simp
    refine roundCut plain mixed [cTold, cOnes] [] 400 30 35 4 Tryz.func35 rfl (by kernel_rfl) [false, true, true, true, false, false, false, true, true, true, false, false, false, false, false, false, false, false, false, false, false, false, false, false, false, false, false, false, false, false, false, false, false, false, false, false, false, false, false, false, false, false, false, false] (.br (.yes (.yes (.yes .done))) .done) (.fork (!(leI (((ps).length : Nat) : Int) k)) (.need (@inR k (ps).length) (.need (@isSo True) (.need (@isSo True) (.leaf (Ex.norm, ([none, (some (@AV.ptr 0 0)), (some (@AV.ptr 1 0)), (some (@AV.ptr 2 0)), none, none, none, (some (@AV.view (ps).length 6 (@pcell ps))), (some (int (((ps).length : Nat) : Int))), (some (int (w64 (k + (1 : Int))))), none, none, none, none, none, none, none, none, none, none, none, none, none, none, none, none, none, none, none, none, none, none, none, none, none, none, none, none, none, none, none, none, none, none], (@Mem.mk (3 + 1) ((((0 + 1) + 1) + 1) + 1) [(some (@Blk.mk [(@pcell ps (k).toNat 0), (@pcell ps (k).toNat 1), (@pcell ps (k).toNat 2), (@pcell ps (k).toNat 3), (@pcell ps (k).toNat 4), (@pcell ps (k).toNat 5)] 74 none)), (some (@Blk.mk ((int (w64 (a + (@toldI ((ps.getD (k).toNat partNone)).id)))) :: ((int (w64 (b + (w64 ((w64 ((((((ps.getD (k).toNat partNone)).cls).length : Nat) : Int) + (((((ps.getD (k).toNat partNone)).tests).length : Nat) : Int))) + (@onesI ((ps.getD (k).toNat partNone)).states)))))) :: ((int (w64 (c + (@toldI ((ps.getD (k).toNat partNone)).tag)))) :: (@List.drop _ (2 + ([(int (w64 (c + (@toldI ((ps.getD (k).toNat partNone)).tag))))]).length) ((int (w64 (a + (@toldI ((ps.getD (k).toNat partNone)).id)))) :: ((int (w64 (b + (w64 ((w64 ((((((ps.getD (k).toNat partNone)).cls).length : Nat) : Int) + (((((ps.getD (k).toNat partNone)).tests).length : Nat) : Int))) + (@onesI ((ps.getD (k).toNat partNone)).states)))))) :: (@List.drop _ (1 + ([(int (w64 (b + (w64 ((w64 ((((((ps.getD (k).toNat partNone)).cls).length : Nat) : Int) + (((((ps.getD (k).toNat partNone)).tests).length : Nat) : Int))) + (@onesI ((ps.getD (k).toNat partNone)).states))))))]).length) [(int (w64 (a + (@toldI ((ps.getD (k).toNat partNone)).id)))), (int b), (int c)]))))))) 27 none)), (some (@Blk.mk [(int (0 : Int)), (int (0 : Int)), (int (0 : Int))] 27 none)), (some (@Blk.mk [(@AV.view (ps).length 6 (@pcell ps))] 45 none))]))))))) (.leaf ((@Ex.exit 0), ([none, (some (@AV.ptr 0 0)), (some (@AV.ptr 1 0)), (some (@AV.ptr 2 0)), none, none, none, (some (@AV.view (ps).length 6 (@pcell ps))), (some (int (((ps).length : Nat) : Int))), (some (int k)), none, none, none, none, none, none, none, none, none, none, none, none, none, none, none, none, none, none, none, none, none, none, none, none, none, none, none, none, none, none, none, none, none, none], (@Mem.mk 3 0 [(some (@Blk.mk [(int a), (int b), (int c)] 27 none)), (some (@Blk.mk [(int (0 : Int)), (int (0 : Int)), (int (0 : Int))] 27 none)), (some (@Blk.mk [(@AV.view (ps).length 6 (@pcell ps))] 45 none))]))))) (by kernel_rfl) ?_
    refine fork_ok (fun h => ?_) (fun h => ⟨Nat.le_refl 3, weF_lt ps k, weB_lt ps a b c, rfl, ⟨k, rfl⟩, rfl⟩)
    simp only [Bool.not_eq_true', Bool.not_eq_false', leI_t, leI_f, eqI_t, eqI_f, inR_t, inR_f, isSo_t, isSo_f] at h
    omega
  | cons p r ih =>
    intro pre a b c k hxs hk
    have hl : ps.length = pre.length + r.length + 1 := by rw [hxs]; simp; omega
    have hg : ps.getD k.toNat partNone = p := by rw [hxs]; exact getD_at _ _ _ _ _ hk
    refine roundCut plain mixed [cTold, cOnes] [] 400 30 35 4 Tryz.func35 rfl (by kernel_rfl) [false, true, true, true, false, false, false, true, true, true, false, false, false, false, false, false, false, false, false, false, false, false, false, false, false, false, false, false, false, false, false, false, false, false, false, false, false, false, false, false, false, false, false, false] (.br (.yes (.yes (.yes .done))) .done) (.fork (!(leI (((ps).length : Nat) : Int) k)) (.need (@inR k (ps).length) (.need (@isSo True) (.need (@isSo True) (.leaf (Ex.norm, ([none, (some (@AV.ptr 0 0)), (some (@AV.ptr 1 0)), (some (@AV.ptr 2 0)), none, none, none, (some (@AV.view (ps).length 6 (@pcell ps))), (some (int (((ps).length : Nat) : Int))), (some (int (w64 (k + (1 : Int))))), none, none, none, none, none, none, none, none, none, none, none, none, none, none, none, none, none, none, none, none, none, none, none, none, none, none, none, none, none, none, none, none, none, none], (@Mem.mk (3 + 1) ((((0 + 1) + 1) + 1) + 1) [(some (@Blk.mk [(@pcell ps (k).toNat 0), (@pcell ps (k).toNat 1), (@pcell ps (k).toNat 2), (@pcell ps (k).toNat 3), (@pcell ps (k).toNat 4), (@pcell ps (k).toNat 5)] 74 none)), (some (@Blk.mk ((int (w64 (a + (@toldI ((ps.getD (k).toNat partNone)).id)))) :: ((int (w64 (b + (w64 ((w64 ((((((ps.getD (k).toNat partNone)).cls).length : Nat) : Int) + (((((ps.getD (k).toNat partNone)).tests).length : Nat) : Int))) + (@onesI ((ps.getD (k).toNat partNone)).states)))))) :: ((int (w64 (c + (@toldI ((ps.getD (k).toNat partNone)).tag)))) :: (@List.drop _ (2 + ([(int (w64 (c + (@toldI ((ps.getD (k).toNat partNone)).tag))))]).length) ((int (w64 (a + (@toldI ((ps.getD (k).toNat partNone)).id)))) :: ((int (w64 (b + (w64 ((w64 ((((((ps.getD (k).toNat partNone)).cls).length : Nat) : Int) + (((((ps.getD (k).toNat partNone)).tests).length : Nat) : Int))) + (@onesI ((ps.getD (k).toNat partNone)).states)))))) :: (@List.drop _ (1 + ([(int (w64 (b + (w64 ((w64 ((((((ps.getD (k).toNat partNone)).cls).length : Nat) : Int) + (((((ps.getD (k).toNat partNone)).tests).length : Nat) : Int))) + (@onesI ((ps.getD (k).toNat partNone)).states))))))]).length) [(int (w64 (a + (@toldI ((ps.getD (k).toNat partNone)).id)))), (int b), (int c)]))))))) 27 none)), (some (@Blk.mk [(int (0 : Int)), (int (0 : Int)), (int (0 : Int))] 27 none)), (some (@Blk.mk [(@AV.view (ps).length 6 (@pcell ps))] 45 none))]))))))) (.leaf ((@Ex.exit 0), ([none, (some (@AV.ptr 0 0)), (some (@AV.ptr 1 0)), (some (@AV.ptr 2 0)), none, none, none, (some (@AV.view (ps).length 6 (@pcell ps))), (some (int (((ps).length : Nat) : Int))), (some (int k)), none, none, none, none, none, none, none, none, none, none, none, none, none, none, none, none, none, none, none, none, none, none, none, none, none, none, none, none, none, none, none, none, none, none], (@Mem.mk 3 0 [(some (@Blk.mk [(int a), (int b), (int c)] 27 none)), (some (@Blk.mk [(int (0 : Int)), (int (0 : Int)), (int (0 : Int))] 27 none)), (some (@Blk.mk [(@AV.view (ps).length 6 (@pcell ps))] 45 none))]))))) (by kernel_rfl) ?_
    have hr : inR k ps.length = true := by rw [inR_t]; omega
    rw [hg]
    refine fork_ok (fun h => need_t hr (need_so trivial (need_so trivial ⟨show 3 ≤ 4 by omega, ?_, ?_, ?_⟩))) (fun h => ?_)
    · rw [w64_in (r := k + 1) (by omega)]
      exact weF_lt ps (k + 1)
    · exact weB_lt ps _ _ _
    · rw [w64_in (r := k + 1) (by omega)]
      refine (ih (pre ++ [p]) (pw (a, b, c) p).1 (pw (a, b, c) p).2.1 (pw (a, b, c) p).2.2 (k + 1) (by rw [hxs]; simp) (by simp; omega)).mono fun ex F M hg => ?_
      exact hg
    · simp only [Bool.not_eq_true', Bool.not_eq_false', leI_t, leI_f, eqI_t, eqI_f, inR_t, inR_f, isSo_t, isSo_f] at h
      omega
end Go.Proofs.YtmlhipckgmbpfaaGreat
namespace Go.Proofs.YtmlhipckgmbpfaaGreat
open Go Go.RowKit Sy
set_option linter.unusedVariables false
set_option linter.unusedSimpArgs false

theorem w64_add (a b : Int) : w64 (w64 a + b) = w64 (a + b) := by
  rw [w64_eq, w64_eq, w64_eq]
  unfold IntKind.wrap
  simp [IntKind.signed, IntKind.bits]
  split <;> split <;> split <;> omega
theorem w64_idem (a : Int) : w64 (w64 a) = w64 a := by have := w64_add a 0; simpa using this
namespace Sy
abbrev weN (ps : List PartV) : Fr := [none, some ((@AV.ptr 0 0)), some ((@AV.ptr (0 + 1) 0)), some ((@AV.ptr ((0 + 1) + 1) 0)), none, none, none, some ((@AV.view (ps).length 6 (@pcell ps))), some ((int (((ps).length : Nat) : Int))), none, none, none, none, none, none, none, none, none, none, none, none, none, none, none, none, none, none, none, none, none, none, none, none, none, none, none, none, none, none, none, none, none, none, none]
noncomputable abbrev weLp (ps : List PartV) : Lp Tryz.prog where
  f := 35
  key := 4
  S := formS (fun F M => slotI F 9) (fun k => weF ps k) (fun _ => weM ps 0 0 0) (fun k => ps.length ≤ 17592186044416 ∧ k = 0) (fun k => .leaf (.exit 0, weN ps, weM ps (wAll ps (0, 0, 0)).1 (wAll ps (0, 0, 0)).2.1 (wAll ps (0, 0, 0)).2.2)) [false, true, true, true, false, false, false, true, true, true, false, false, false, false, false, false, false, false, false, false, false, false, false, false, false, false, false, false, false, false, false, false, false, false, false, false, false, false, false, false, false, false, false, false]
  one := by kernel_rfl
  ok := formS_ok fun k ⟨h1, h2⟩ => by
    subst h2
    refine ⟨ps.length + 1, ?_⟩
    have h6 := Sy.we_loop ps h1 ps [] 0 0 0 0 rfl rfl
    refine (h6.out [false, true, true, true, false, false, false, true, true, false, false, false, false, false, false, false, false, false, false, false, false, false, false, false, false, false, false, false, false, false, false, false, false, false, false, false, false, false, false, false, false, false, false, false]).mono fun ex F M hg => ?_
    obtain ⟨F0, ⟨rfl, ⟨j, rfl⟩, hM⟩, rfl⟩ := hg
    rw [hM]; rfl
end Sy
/-sy weight_t
fun (ps : List PartV) (d : D) => reckV [] [weLp ps] 400 30 35 [.agg [pview ps]] M0 d
-/
theorem Sy.weight_t (ps : List PartV) (hx : ps.length ≤ 17592186044416) : CallTo Tryz.prog 35 [.agg [pview ps]] M0 fun v _ => v = .agg [int (wAll ps (0, 0, 0)).1, int (wAll ps (0, 0, 0)).2.1, int (wAll ps (0, 0, 0)).2.2] :=
  toV [] [weLp ps] 400 30 .done (.need (@isSo (@And ((none :: [(some (@AV.ptr 0 0)), (some (@AV.ptr (0 + 1) 0)), (some (@AV.ptr ((0 + 1) + 1) 0)), none, none, none, (some (@AV.view (ps).length 6 (@pcell ps))), (some (int (((ps).length : Nat) : Int))), (some (int (0 : Int))), none, none, none, none, none, none, none, none, none, none, none, none, none, none, none, none, none, none, none, none, none, none, none, none, none, none, none, none, none, none, none, none, none, none]) = [none, (some (@AV.ptr 0 0)), (some (@AV.ptr 1 0)), (some (@AV.ptr 2 0)), none, none, none, (some (@AV.view (ps).length 6 (@pcell ps))), (some (int (((ps).length : Nat) : Int))), (some (int (0 : Int))), none, none, none, none, none, none, none, none, none, none, none, none, none, none, none, none, none, none, none, none, none, none, none, none, none, none, none, none, none, none, none, none, none, none]) ((@Mem.mk (((0 + 1) + 1) + 1) 0 [(some (@Blk.mk [(int (0 : Int)), (int (0 : Int)), (int (0 : Int))] 27 none)), (some (@Blk.mk [(int (0 : Int)), (int (0 : Int)), (int (0 : Int))] 27 none)), (some (@Blk.mk [(@AV.view (ps).length 6 (@pcell ps))] 45 none))]) = (@Mem.mk 3 0 [(some (@Blk.mk [(int (0 : Int)), (int (0 : Int)), (int (0 : Int))] 27 none)), (some (@Blk.mk [(int (0 : Int)), (int (0 : Int)), (int (0 : Int))] 27 none)), (some (@Blk.mk [(@AV.view (ps).length 6 (@pcell ps))] 45 none))])))) (.need (@isSo (@And ((ps).length ≤ 17592186044416) ((0 : Int) = (0 : Int)))) (.leaf (@AV.agg [(int ((@wAll ps ((0 : Int), ((0 : Int), (0 : Int))))).fst), (int (((@wAll ps ((0 : Int), ((0 : Int), (0 : Int))))).snd).fst), (int (((@wAll ps ((0 : Int), ((0 : Int), (0 : Int))))).snd).snd)])))) (by kernel_rfl) (need_so ⟨rfl, rfl⟩ (need_so ⟨hx, rfl⟩ rfl))
noncomputable abbrev Sy.cWeightP (ps : List PartV) : Con Tryz.prog := at1 35 [.agg [pview ps]] (.agg [int (wAll ps (0, 0, 0)).1, int (wAll ps (0, 0, 0)).2.1, int (wAll ps (0, 0, 0)).2.2]) (ps.length ≤ 17592186044416) fun h => ⟨⟨⟨⟨pview_free ps, trivial⟩, trivial⟩, ⟨trivial, trivial, trivial, trivial⟩⟩, weight_t ps h⟩
end Go.Proofs.YtmlhipckgmbpfaaGreat
