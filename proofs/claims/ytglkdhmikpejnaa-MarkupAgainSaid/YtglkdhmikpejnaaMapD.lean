/-
  Lemmas for MarkupAgain, part 4; no conditions.
-/
import Derived.Defers
import Derived.Recover
import Derived.Lib.Builder
import Derived.Lib.AppendStr
import Derived.Test.YtglkdhmikpejnaaMapC
set_option linter.unusedVariables false
set_option linter.unusedSimpArgs false
set_option linter.unusedSectionVars false
namespace Go.Proofs.Ytglkdhmikpejnaa
open Go Go.RowKit Pl Sy
def limM (n : Nat) : Prop := n ≤ 1000000
def InM (s : ByteArray) (a : Int) : Prop := (0 ≤ a ∧ a ≤ s.size) ∧ limM s.size
noncomputable def pkI (s : ByteArray) (a : Int) : Int := if leI s.size a = true then 0 else byteAt s a.toNat
abbrev Sy.u8A (n : Int) : AV := .lit (.int .u8 n)
noncomputable def scI (g : Int → Bool) (s : ByteArray) (a : Int) : Int := (Sy.hops (fun j => !g (byteAt s j)) (fun j => j + 1) s.size a.toNat : Nat)
theorem scI_step (g : Int → Bool) (s : ByteArray) (a : Int) (h0 : 0 ≤ a) : scI g s a = if a < s.size ∧ g (byteAt s a.toNat) = true then scI g s (a + 1) else a := by
  unfold scI
  rw [Sy.hops_step (fun k _ => Nat.lt_succ_self k)]
  by_cases h : a < s.size ∧ g (byteAt s a.toNat) = true
  · rw [if_pos h, if_pos ⟨by omega, by rw [h.2]; rfl⟩, show (a + 1).toNat = a.toNat + 1 by omega]
  · rw [if_neg h, if_neg (fun ⟨q1, q2⟩ => h ⟨by omega, by simpa using q2⟩)]
    omega
theorem scI_le (g : Int → Bool) (s : ByteArray) (a : Int) (h0 : 0 ≤ a) (h : a ≤ s.size) : a ≤ scI g s a ∧ scI g s a ≤ s.size := by
  have : a.toNat ≤ Sy.hops (fun j => !g (byteAt s j)) (fun j => j + 1) s.size a.toNat ∧ Sy.hops (fun j => !g (byteAt s j)) (fun j => j + 1) s.size a.toNat ≤ s.size := Sy.hops_le (fun k _ => Nat.lt_succ_self k) (fun k h => h) _ a.toNat (Nat.le_refl _) (by omega)
  unfold scI
  omega
theorem scI_in {g : Int → Bool} {s : ByteArray} {a : Int} (h : InM s a) : InM s (scI g s a) := by
  have := scI_le g s a h.1.1 h.1.2
  have := h.1.1
  exact ⟨by omega, h.2⟩
theorem Sy.up_scan {P : Program} {body : Code} (s : ByteArray) (g : Int → Bool) (F : Fr) (Mm : Int → Mem) (e : Ex)
    (step : ∀ (a : Int) (n : Nat) (G : Ex → Fr → Mem → Prop), 0 ≤ a → a ≤ s.size → (a < s.size → g (byteAt s a.toNat) = true → LoopTo P body n F (Mm (a + 1)) G) → (¬ (a < s.size ∧ g (byteAt s a.toNat) = true) → G e F (Mm a)) → LoopTo P body (n + 1) F (Mm a) G) :
    ∀ (k : Nat) (a : Int), s.size - a.toNat ≤ k → 0 ≤ a → a ≤ s.size → LoopTo P body (k + 1) F (Mm a) fun ex F' M' => ex = e ∧ F' = F ∧ M' = Mm (scI g s a) := by
  intro k
  induction k with
  | zero =>
    intro a h1 h2 h3
    refine step a 0 _ h2 h3 (fun h => absurd h (by omega)) (fun h => ⟨rfl, rfl, ?_⟩)
    rw [scI_step g s a h2, if_neg h]
  | succ k ih =>
    intro a h1 h2 h3
    refine step a (k + 1) _ h2 h3 (fun q1 q2 => ?_) (fun h => ⟨rfl, rfl, ?_⟩)
    · refine (ih (a + 1) (by omega) (by omega) (by omega)).mono fun ex F' M' ⟨e1, e2, e3⟩ => ⟨e1, e2, ?_⟩
      rw [scI_step g s a h2, if_pos ⟨q1, q2⟩, e3]
    · rw [scI_step g s a h2, if_neg h]
theorem Sy.pek_t (s : ByteArray) (a : Int) (h : InM s a) (u : Value) : CallTo Try.prog 33 [.ptr 0 0] (mrM s a u) fun v M' => Frz true 1 M' v (u8A (pkI s a)) ∧ M'.get 0 = some (mrB s a (.lit u)) :=
  to (G := fun r => Frz true 1 r.2 r.1 (u8A (pkI s a)) ∧ r.2.get 0 = some (mrB s a (.lit u))) [] [] 400 30 (.br .done (.yes .done)) (.fork (leI (((@ByteArray.size s) : Nat) : Int) a) (.leaf ((@AV.lit (@Value.int IntKind.u8 (0 : Int))), (@Mem.mk 1 0 [(some (@Blk.mk [(@AV.lit (@Value.string s)), (int a), (@AV.lit u)] 52 none))]))) (.need (@inR a (@ByteArray.size s)) (.leaf ((@AV.lit (@Value.int IntKind.u8 (@byteAt s (a).toNat))), (@Mem.mk 1 0 [(some (@Blk.mk [(@AV.lit (@Value.string s)), (int a), (@AV.lit u)] 52 none))]))))) (by kernel_rfl) (by
    have h0 := h.1
    unfold pkI
    refine fork_ok (fun q => ?_) (fun q => need_t (by simp only [Bool.not_eq_true', Bool.not_eq_false', leI_t, leI_f, eqI_t, eqI_f, inR_t, inR_f, isSo_t, isSo_f] at q; rw [inR_t]; omega) ?_)
    · rw [if_pos q]
      exact ⟨Frz.lit _ _ _ _, rfl⟩
    · rw [if_neg (by rw [q]; decide)]
      exact ⟨Frz.lit _ _ _ _, rfl⟩)
noncomputable abbrev Sy.cPek (s : ByteArray) : Con Try.prog := conMr s 33 (fun r => match r with | [] => some () | _ => none) (fun _ => []) (fun a _ => u8A (pkI s a)) (fun a _ => InM s a) fun a _ h => ⟨⟨trivial, trivial⟩, fun u => pek_t s a h u⟩
theorem Sy.mbg_t (c : Int) : CallTo Try.prog 53 [u8A c] M0 fun v _ => v = boo (begB c) :=
  toV [] [] 400 30 (.br (.auto 1 (.br (.auto 1 (.br (.auto 3 (.br (.auto 1 (.br (.auto 1 .done) (.auto 1 .done))) (.auto 4 .done))) (.auto 6 (.br (.auto 1 .done) (.auto 1 .done))))) (.auto 11 .done))) (.auto 4 (.br (.auto 3 (.br (.auto 1 (.br (.auto 1 .done) (.auto 1 .done))) (.auto 4 .done))) (.auto 6 (.br (.auto 1 .done) (.auto 1 .done)))))) (.fork (leI (97 : Int) c) (.fork (!(leI c (122 : Int))) (.fork (leI (65 : Int) c) (.fork (!(leI c (90 : Int))) (.fork (!(eqI c (95 : Int))) (.leaf (boo (leI (128 : Int) c))) (.leaf (boo true))) (.leaf (boo true))) (.fork (!(eqI c (95 : Int))) (.leaf (boo (leI (128 : Int) c))) (.leaf (boo true)))) (.leaf (boo true))) (.fork (leI (65 : Int) c) (.fork (!(leI c (90 : Int))) (.fork (!(eqI c (95 : Int))) (.leaf (boo (leI (128 : Int) c))) (.leaf (boo true))) (.leaf (boo true))) (.fork (!(eqI c (95 : Int))) (.leaf (boo (leI (128 : Int) c))) (.leaf (boo true))))) (by kernel_rfl) (by
    repeat' (first
      | refine fork_ok (fun _ => ?_) (fun _ => ?_)
      | refine need_so ⟨rfl, by (first | assumption | trivial | (try simp only [eqI_t, eqI_f, leI_t, leI_f, inR_t, inR_f, isSo_t, isSo_f, eqI_d, leI_d, decide_eq_true_eq, decide_eq_false_iff_not, Bool.not_eq_true', Bool.not_eq_false', Bool.false_eq_true, Bool.and_eq_true, Bool.or_eq_true, Bool.not_not, iff_false, false_iff, iff_true, true_iff] at *) <;> first | omega | grind)⟩ ?_
      | refine need_so (by (first | assumption | trivial | (try simp only [eqI_t, eqI_f, leI_t, leI_f, inR_t, inR_f, isSo_t, isSo_f, eqI_d, leI_d, decide_eq_true_eq, decide_eq_false_iff_not, Bool.not_eq_true', Bool.not_eq_false', Bool.false_eq_true, Bool.and_eq_true, Bool.or_eq_true, Bool.not_not, iff_false, false_iff, iff_true, true_iff] at *) <;> first | omega | grind)) ?_
      | refine need_t (by (first | assumption | trivial | (try simp only [eqI_t, eqI_f, leI_t, leI_f, inR_t, inR_f, isSo_t, isSo_f, eqI_d, leI_d, decide_eq_true_eq, decide_eq_false_iff_not, Bool.not_eq_true', Bool.not_eq_false', Bool.false_eq_true, Bool.and_eq_true, Bool.or_eq_true, Bool.not_not, iff_false, false_iff, iff_true, true_iff] at *) <;> first | omega | grind)) ?_)
    all_goals (first | refine leaf_boo ?_ | refine leaf_int ?_)
    all_goals (unfold begB; try simp only [eqI_t, eqI_f, leI_t, leI_f, inR_t, inR_f, isSo_t, isSo_f, eqI_d, leI_d, decide_eq_true_eq, decide_eq_false_iff_not, Bool.not_eq_true', Bool.not_eq_false', Bool.false_eq_true, Bool.and_eq_true, Bool.or_eq_true, Bool.not_not, iff_false, false_iff, iff_true, true_iff] at *)
    all_goals (first | omega | grind))
noncomputable abbrev Sy.cMbg : Con Try.prog := atX 53 (fun args => match args with | [.lit (.int .u8 c)] => some c | _ => none) (fun c => [u8A c]) (fun c => boo (begB c)) (fun _ => True) fun c _ => ⟨⟨⟨trivial, trivial⟩, trivial⟩, mbg_t c⟩
theorem Sy.mgo_t (c : Int) : CallTo Try.prog 72 [u8A c] M0 fun v _ => v = boo (goesB c) :=
  toV [cMbg] [] 400 30 (.yes (.br (.auto 1 (.br (.auto 3 (.br (.auto 1 .done) (.auto 1 .done))) (.auto 6 .done))) (.auto 8 .done))) (.need (@isSo (@And ((@HAppend.hAppend _ _ _ _ (@HAppend.hAppend _ _ _ _ [] [(@AV.lit (@Value.int IntKind.u8 c))]) []) = [(@AV.lit (@Value.int IntKind.u8 c))]) True)) (.fork (!(@Pl.begB c)) (.fork (leI (48 : Int) c) (.fork (!(leI c (57 : Int))) (.leaf (boo (eqI c (45 : Int)))) (.leaf (boo true))) (.leaf (boo (eqI c (45 : Int))))) (.leaf (boo true)))) (by kernel_rfl) (by
    unfold goesB
    refine need_so ⟨rfl, trivial⟩ ?_
    generalize begB c = B
    exact (by
    repeat' (first
      | refine fork_ok (fun _ => ?_) (fun _ => ?_)
      | refine need_so ⟨rfl, by (first | assumption | trivial | (try simp only [eqI_t, eqI_f, leI_t, leI_f, inR_t, inR_f, isSo_t, isSo_f, eqI_d, leI_d, decide_eq_true_eq, decide_eq_false_iff_not, Bool.not_eq_true', Bool.not_eq_false', Bool.false_eq_true, Bool.and_eq_true, Bool.or_eq_true, Bool.not_not, iff_false, false_iff, iff_true, true_iff] at *) <;> first | omega | grind)⟩ ?_
      | refine need_so (by (first | assumption | trivial | (try simp only [eqI_t, eqI_f, leI_t, leI_f, inR_t, inR_f, isSo_t, isSo_f, eqI_d, leI_d, decide_eq_true_eq, decide_eq_false_iff_not, Bool.not_eq_true', Bool.not_eq_false', Bool.false_eq_true, Bool.and_eq_true, Bool.or_eq_true, Bool.not_not, iff_false, false_iff, iff_true, true_iff] at *) <;> first | omega | grind)) ?_
      | refine need_t (by (first | assumption | trivial | (try simp only [eqI_t, eqI_f, leI_t, leI_f, inR_t, inR_f, isSo_t, isSo_f, eqI_d, leI_d, decide_eq_true_eq, decide_eq_false_iff_not, Bool.not_eq_true', Bool.not_eq_false', Bool.false_eq_true, Bool.and_eq_true, Bool.or_eq_true, Bool.not_not, iff_false, false_iff, iff_true, true_iff] at *) <;> first | omega | grind)) ?_)
    all_goals (first | refine leaf_boo ?_ | refine leaf_int ?_)
    all_goals (try simp only [eqI_t, eqI_f, leI_t, leI_f, inR_t, inR_f, isSo_t, isSo_f, eqI_d, leI_d, decide_eq_true_eq, decide_eq_false_iff_not, Bool.not_eq_true', Bool.not_eq_false', Bool.false_eq_true, Bool.and_eq_true, Bool.or_eq_true, Bool.not_not, iff_false, false_iff, iff_true, true_iff] at *)
    all_goals (first | omega | grind)))
noncomputable abbrev Sy.cMgo : Con Try.prog := atX 72 (fun args => match args with | [.lit (.int .u8 c)] => some c | _ => none) (fun c => [u8A c]) (fun c => boo (goesB c)) (fun _ => True) fun c _ => ⟨⟨⟨trivial, trivial⟩, trivial⟩, mgo_t c⟩
noncomputable def nmdB (s : ByteArray) (a : Int) : Bool := begB (pkI s a) || eqI (pkI s a) 45
theorem Sy.nmd_t (s : ByteArray) (a : Int) (h : InM s a) (u : Value) : CallTo Try.prog 34 [.ptr 0 0] (mrM s a u) fun v M' => Frz true 1 M' v (boo (nmdB s a)) ∧ M'.get 0 = some (mrB s a (.lit u)) :=
  to (G := fun r => Frz true 1 r.2 r.1 (boo (nmdB s a)) ∧ r.2.get 0 = some (mrB s a (.lit u))) [cPek s, cMbg] [] 400 30 (.yes (.yes (.br (.auto 1 .done) (.auto 1 .done)))) (.need (@isSo (@And ((some (@Blk.mk [(@AV.lit (@Value.string s)), (int a), (@AV.lit u)] 52 none)) = (some (@Blk.mk [(@AV.lit (@Value.string s)), (int a), (@AV.lit u)] 52 none))) (@And (([] : List AV) = []) (@And (@And ((0 : Int) ≤ a) (a ≤ (((@ByteArray.size s) : Nat) : Int))) ((@ByteArray.size s) ≤ 1000000))))) (.need (@isSo (@And ((@HAppend.hAppend _ _ _ _ (@HAppend.hAppend _ _ _ _ [] [(@AV.lit (@Value.int IntKind.u8 (@pkI s a)))]) []) = [(@AV.lit (@Value.int IntKind.u8 (@pkI s a)))]) True)) (.fork (!(@Pl.begB (@pkI s a))) (.leaf ((boo (eqI (@pkI s a) (45 : Int))), (@Mem.mk 1 0 [(some (@Blk.mk [(@AV.lit (@Value.string s)), (int a), (@AV.lit u)] 52 none))]))) (.leaf ((boo true), (@Mem.mk 1 0 [(some (@Blk.mk [(@AV.lit (@Value.string s)), (int a), (@AV.lit u)] 52 none))])))))) (by kernel_rfl) (by
    unfold nmdB
    refine need_so ⟨rfl, rfl, h⟩ (need_so ⟨rfl, trivial⟩ (fork_ok (fun q => ?_) (fun q => ?_)))
    · have q : begB (pkI s a) = false := by simpa using q
      rw [q]
      exact ⟨Frz.lit _ _ _ _, rfl⟩
    · have q : begB (pkI s a) = true := by simpa using q
      rw [q]
      exact ⟨Frz.lit _ _ _ _, rfl⟩)
noncomputable abbrev Sy.cNmd (s : ByteArray) : Con Try.prog := conMr s 34 (fun r => match r with | [] => some () | _ => none) (fun _ => []) (fun a _ => boo (nmdB s a)) (fun a _ => InM s a) fun a _ h => ⟨⟨trivial, trivial⟩, fun u => nmd_t s a h u⟩
def mblB (c : Int) : Bool := eqI c 32 || (eqI c 9 || (eqI c 10 || eqI c 13))
namespace Sy
abbrev mblF : Fr := (some ((@AV.ptr 0 0)) :: (nn15 []))
end Sy
theorem pk_in {s : ByteArray} {a : Int} (h : a < s.size) : pkI s a = byteAt s a.toNat := by
  unfold pkI
  rw [if_neg (by rw [leI_t]; omega)]
theorem pk_end {s : ByteArray} {a : Int} (h : ¬ a < s.size) : pkI s a = 0 := by
  unfold pkI
  rw [if_pos (by rw [leI_t]; omega)]
theorem pk_go (g : Int → Bool) (g0 : g 0 = false) (s : ByteArray) (a : Int) : g (pkI s a) = true ↔ (a < s.size ∧ g (byteAt s a.toNat) = true) := by
  by_cases h : a < s.size
  · rw [pk_in h]
    exact ⟨fun q => ⟨h, q⟩, fun q => q.2⟩
  · rw [pk_end h, g0]
    exact ⟨fun q => (by cases q), fun q => absurd q.1 h⟩
theorem Sy.mbl_scan (s : ByteArray) (a : Int) (h : InM s a) (u : Value) : LoopTo Try.prog (theBody Try.prog 32 1) (s.size + 1) mblF (mrM s a u) fun ex F' M' => ex = .ret ∧ F' = mblF ∧ M' = mrM s (scI mblB s a) u := by
  refine up_scan s mblB mblF (fun a => mrM s a u) .ret (fun a n G h0 h1 c1 c2 => ?_) s.size a (by omega) h.1.1 h.1.2
  have hl := h.2
  unfold limM at hl
  refine roundL [cPek s] [] 400 30 32 1 Try.func32 rfl (by kernel_rfl) (true :: (ff15 [])) (.yes (.br (.auto 0 .done) (.br (.auto 0 .done) (.br (.auto 0 .done) (.br .done .done))))) (let e1 := (some (@Blk.mk [(@AV.lit (@Value.string s)), (int a), (@AV.lit u)] 52 none)); (.need (@isSo (@And (e1 = e1) (@And (([] : List AV) = []) (@And (@And ((0 : Int) ≤ a) (a ≤ (((@ByteArray.size s) : Nat) : Int))) ((@ByteArray.size s) ≤ 1000000))))) (.fork (eqI (@pkI s a) (32 : Int)) (.leaf (Ex.norm, (((some (@AV.ptr 0 0)) :: (nn15 [])), (@Mem.mk 1 (0 + 1) [(some (@Blk.mk ((@AV.lit (@Value.string s)) :: [(int (w64 (a + (1 : Int)))), (@AV.lit u)]) 52 none))])))) (.fork (eqI (@pkI s a) (9 : Int)) (.leaf (Ex.norm, (((some (@AV.ptr 0 0)) :: (nn15 [])), (@Mem.mk 1 (0 + 1) [(some (@Blk.mk ((@AV.lit (@Value.string s)) :: [(int (w64 (a + (1 : Int)))), (@AV.lit u)]) 52 none))])))) (.fork (eqI (@pkI s a) (10 : Int)) (.leaf (Ex.norm, (((some (@AV.ptr 0 0)) :: (nn15 [])), (@Mem.mk 1 (0 + 1) [(some (@Blk.mk ((@AV.lit (@Value.string s)) :: [(int (w64 (a + (1 : Int)))), (@AV.lit u)]) 52 none))])))) (.fork (eqI (@pkI s a) (13 : Int)) (.leaf (Ex.norm, (((some (@AV.ptr 0 0)) :: (nn15 [])), (@Mem.mk 1 (0 + 1) [(some (@Blk.mk ((@AV.lit (@Value.string s)) :: [(int (w64 (a + (1 : Int)))), (@AV.lit u)]) 52 none))])))) (.leaf (Ex.ret, (((some (@AV.ptr 0 0)) :: (nn15 [])), (@Mem.mk 1 0 [e1])))))))))) (by kernel_rfl) ?_
  have go : mblB (pkI s a) = true → LoopTo Try.prog (theBody Try.prog 32 1) n mblF (mrM s (w64 (a + 1)) u) G := fun q => by
    obtain ⟨q1, q2⟩ := (pk_go mblB rfl s a).1 q
    rw [w64_in (r := a + 1) (by omega)]
    exact c1 q1 q2
  refine need_so ⟨rfl, rfl, ⟨h0, h1⟩, h.2⟩ (fork_ok (fun q => ?_) (fun q1 => fork_ok (fun q => ?_) (fun q2 => fork_ok (fun q => ?_) (fun q3 => fork_ok (fun q => ?_) (fun q4 => ?_)))))
  · exact LoopTo.stampB 0 (go (by unfold mblB; rw [q]; rfl))
  · exact LoopTo.stampB 0 (go (by unfold mblB; rw [q1, q]; rfl))
  · exact LoopTo.stampB 0 (go (by unfold mblB; rw [q1, q2, q]; rfl))
  · exact LoopTo.stampB 0 (go (by unfold mblB; rw [q1, q2, q3, q]; rfl))
  · exact c2 (fun x => by
      have := (pk_go mblB rfl s a).2 x
      unfold mblB at this
      rw [q1, q2, q3, q4] at this
      cases this)
namespace Sy
noncomputable abbrev lpMbl (s : ByteArray) (a : Int) (u : Value) : Lp Try.prog where
  f := 32
  key := 1
  S := formS (fun F M => some ()) (fun _ => mblF) (fun _ => mrM s a u) (fun _ => InM s a) (fun _ => .leaf (.ret, mblF, mrM s (scI mblB s a) u)) (true :: (ff15 []))
  one := by kernel_rfl
  ok := formS_ok fun _ h1 => by
    refine ⟨_, (Sy.mbl_scan s a h1 u).mono fun ex F M hg => ?_⟩
    obtain ⟨rfl, rfl, rfl⟩ := hg
    rfl
end Sy
theorem Sy.mbl_t (s : ByteArray) (a : Int) (h : InM s a) (u : Value) : CallTo Try.prog 32 [.ptr 0 0] (mrM s a u) fun v M' => Frz true 1 M' v (.tup []) ∧ M'.get 0 = some (mrB s (scI mblB s a) (.lit u)) :=
  to (G := fun r => Frz true 1 r.2 r.1 (.tup []) ∧ r.2.get 0 = some (mrB s (scI mblB s a) (.lit u))) [] [lpMbl s a u] 400 30 .done (.need (@isSo (@And (((some (@AV.ptr 0 0)) :: (nn15 [])) = mblF) ((@Mem.mk 1 0 [(some (@Blk.mk [(@AV.lit (@Value.string s)), (int a), (@AV.lit u)] 52 none))]) = (@Mem.mk 1 0 [(some (@Blk.mk [(@AV.lit (@Value.string s)), (int a), (@AV.lit u)] 52 none))])))) (.need (@isSo (@And (@And ((0 : Int) ≤ a) (a ≤ (((@ByteArray.size s) : Nat) : Int))) ((@ByteArray.size s) ≤ 1000000))) (.leaf ((@AV.tup []), (@Mem.mk 1 0 [(some (@Blk.mk [(@AV.lit (@Value.string s)), (int (@scI mblB s a)), (@AV.lit u)] 52 none))]))))) (by kernel_rfl) (need_so ⟨rfl, rfl⟩ (need_so h ⟨Frz.free _ _ trivial, rfl⟩))
noncomputable abbrev Sy.cMbl (s : ByteArray) : Con Try.prog := conM s 32 (fun r => match r with | [] => some () | _ => none) (fun _ => []) (fun a _ => .tup []) (fun a _ => scI mblB s a) (fun a _ => InM s a) fun a _ h => ⟨⟨trivial, trivial⟩, fun u => mbl_t s a h u⟩
noncomputable def nxB (s : ByteArray) (a c : Int) : Bool := leI s.size a || !eqI (byteAt s a.toNat) c
theorem Sy.ned_t (s : ByteArray) (a c : Int) (h : InM s a) (u : Value) : CallP Try.prog 60 [.ptr 0 0, u8A c] (mrM s a u) fun r => match r with
    | .ret v M' => nxB s a c = false ∧ Frz true 1 M' v (.tup []) ∧ M'.get 0 = some (mrB s (a + 1) (.lit u))
    | .pan k e => nxB s a c = true ∧ k = a ∧ e = 30 :=
  toP [] [pFail] [] [] 400 30 (.br (.auto 7 (.yes (.auto 2 (.br (.auto 0 .done) .done)))) (.auto 12 .done)) (.fork (!(leI (((@ByteArray.size s) : Nat) : Int) a)) (.need (@inR a (@ByteArray.size s)) (.fork (!(eqI (@byteAt s (a).toNat) c)) (.leaf (@RP.pan a (Int.ofNat 30))) (.leaf (@RP.ret (@AV.tup []) (@Mem.mk 1 (0 + 1) [(some (@Blk.mk ((@AV.lit (@Value.string s)) :: [(int (w64 (a + (1 : Int)))), (@AV.lit u)]) 52 none))]))))) (.leaf (@RP.pan a (Int.ofNat 30)))) (by kernel_rfl) (by
    have h0 := h.1
    have hl := h.2
    unfold limM at hl
    unfold nxB
    refine fork_ok (fun q => need_t (by simp only [Bool.not_eq_true', Bool.not_eq_false', leI_t, leI_f, eqI_t, eqI_f, inR_t, inR_f, isSo_t, isSo_f] at q; rw [inR_t]; omega) (fork_ok (fun q2 => ?_) (fun q2 => ?_))) (fun q => ?_)
    · have q2 : eqI (byteAt s a.toNat) c = false := by simpa using q2
      exact ⟨by rw [q2]; simp, rfl, rfl⟩
    · have q2 : eqI (byteAt s a.toNat) c = true := by simpa using q2
      have q : leI s.size a = false := by simpa using q
      rw [leI_f] at q
      rw [w64_in (r := a + 1) (by omega)]
      exact ⟨by rw [q2, show leI s.size a = false by rw [leI_f]; exact q]; rfl, Frz.free _ _ trivial, rfl⟩
    · have q : leI s.size a = true := by simpa using q
      exact ⟨by rw [q]; rfl, rfl, rfl⟩)
noncomputable abbrev Sy.cNed (s : ByteArray) : Con Try.prog := conM s 60 (fun r => match r with | [.lit (.int .u8 c)] => some c | _ => none) (fun c => [u8A c]) (fun a _ => .tup []) (fun a _ => a + 1) (fun a c => InM s a ∧ nxB s a c = false) fun a c h => ⟨⟨⟨trivial, trivial⟩, trivial⟩, fun u => ((ned_t s a c h.1 u).to fun k e hg => by rw [h.2] at hg; cases hg.1).mono fun v M' hg => hg.2⟩
noncomputable abbrev Sy.pNed (s : ByteArray) : PCon Try.prog := panM s 60 (.tup []) (fun r => match r with | [.lit (.int .u8 c)] => some c | _ => none) (fun c => [u8A c]) (fun a c => nxB s a c) (fun a _ => a) (fun _ _ => 30) (fun a c => InM s a) fun a c h hb => ⟨⟨trivial, trivial⟩, fun u => (ned_t s a c h u).pan (fun v M' hg => by rw [hb] at hg; cases hg.1) fun k e hg => hg.2⟩
theorem nd_in {s : ByteArray} {a c : Int} (h : InM s a) (hn : nxB s a c = false) : InM s (a + 1) ∧ a < s.size := by
  unfold nxB at hn
  rw [Bool.or_eq_false_iff, leI_f] at hn
  have := h.1
  exact ⟨⟨by omega, h.2⟩, by omega⟩
end Go.Proofs.Ytglkdhmikpejnaa
namespace Go.Proofs.Ytglkdhmikpejnaa
open Go Go.RowKit Pl Sy
noncomputable def nmZ (s : ByteArray) (a : Int) : Int := if eqI (pkI s a) 45 = true then a + 1 else a
noncomputable def startM (s : ByteArray) (a : Int) : Bool := if eqI (pkI s a) 45 = true then begB (pkI s (a + 1)) || eqI (pkI s (a + 1)) 45 else begB (pkI s a)
noncomputable def nmE (s : ByteArray) (a : Int) : Int := scI goesB s (nmZ s a)
noncomputable def nmBad (s : ByteArray) (a : Int) : Bool := !startM s a || !leI (nmE s a - a) 32
noncomputable def nmK (s : ByteArray) (a : Int) : Int := if startM s a = true then a else nmZ s a
noncomputable def nmX (s : ByteArray) (a : Int) : ByteArray := s.extract a.toNat (nmE s a).toNat
namespace Sy
abbrev namF (k : Int) : Fr := (some ((@AV.ptr 0 0)) :: none :: none :: some (int k) :: (nn19 (nn48 [])))
end Sy
theorem Sy.nam_scan (s : ByteArray) (a k : Int) (h : InM s a) (u : Value) : LoopTo Try.prog (theBody Try.prog 56 10) (s.size + 1) (namF k) (mrM s a u) fun ex F' M' => ex = .exit 0 ∧ F' = namF k ∧ M' = mrM s (scI goesB s a) u := by
  refine up_scan s goesB (namF k) (fun a => mrM s a u) (.exit 0) (fun a n G h0 h1 c1 c2 => ?_) s.size a (by omega) h.1.1 h.1.2
  have hl := h.2
  unfold limM at hl
  refine roundL [cPek s, cMgo] [] 400 30 56 10 Try.func56 rfl (by kernel_rfl) (true :: false :: false :: true :: (ff19 (ff48 []))) (.yes (.yes (.br .done .done))) (let e1 := (some (@Blk.mk [(@AV.lit (@Value.string s)), (int a), (@AV.lit u)] 52 none)); let e2 := (@AV.lit (@Value.int IntKind.u8 (@pkI s a))); (.need (@isSo (@And (e1 = e1) (@And (([] : List AV) = []) (@And (@And ((0 : Int) ≤ a) (a ≤ (((@ByteArray.size s) : Nat) : Int))) ((@ByteArray.size s) ≤ 1000000))))) (.need (@isSo (@And ((@HAppend.hAppend _ _ _ _ (@HAppend.hAppend _ _ _ _ [] [e2]) []) = [e2]) True)) (.fork (@Pl.goesB (@pkI s a)) (.leaf (Ex.norm, (((some (@AV.ptr 0 0)) :: none :: none :: (some (int k)) :: (nn19 (nn48 []))), (@Mem.mk 1 (0 + 1) [(some (@Blk.mk ((@AV.lit (@Value.string s)) :: [(int (w64 (a + (1 : Int)))), (@AV.lit u)]) 52 none))])))) (.leaf ((@Ex.exit 0), (((some (@AV.ptr 0 0)) :: none :: none :: (some (int k)) :: (nn19 (nn48 []))), (@Mem.mk 1 0 [e1])))))))) (by kernel_rfl) ?_
  refine need_so ⟨rfl, rfl, ⟨h0, h1⟩, h.2⟩ (need_so ⟨rfl, trivial⟩ (fork_ok (fun q => ?_) (fun q => ?_)))
  · obtain ⟨q1, q2⟩ := (pk_go goesB rfl s a).1 q
    rw [w64_in (r := a + 1) (by omega)]
    exact LoopTo.stampB 0 (c1 q1 q2)
  · exact c2 (fun x => by
      have := (pk_go goesB rfl s a).2 x
      rw [q] at this
      cases this)
namespace Sy
structure KB where
  k : Int
  b : Int
  z : Nat
noncomputable def kbGet (t : Nat) (F : Fr) (M : Mem) : Option KB := match nth F t with
  | some (some (.lit (.int _ k))) => match M with
    | ⟨_, z, [some ⟨[_, .lit (.int _ b), _], _, _⟩]⟩ => some ⟨k, b, z⟩
    | _ => none
  | _ => none
abbrev mrMz (s : ByteArray) (a : Int) (u : Value) (z : Nat) : Mem := ⟨1, z, [some (mrB s a (.lit u))]⟩
noncomputable abbrev lpNam (s : ByteArray) (u : Value) : Lp Try.prog where
  f := 56
  key := 10
  S := formS (fun F M => kbGet 3 F M) (fun x => namF x.k) (fun x => mrMz s x.b u x.z) (fun x => InM s x.b) (fun x => .leaf (.exit 0, namF x.k, mrM s (scI goesB s x.b) u)) (true :: false :: false :: true :: (ff19 (ff48 [])))
  one := by kernel_rfl
  ok := formS_ok fun x h1 => by
    refine ⟨_, LoopTo.stampB 0 ((Sy.nam_scan s x.b x.k h1 u).mono fun ex F M hg => ?_)⟩
    obtain ⟨rfl, rfl, rfl⟩ := hg
    rfl
end Sy
theorem pk_lt {s : ByteArray} {a c : Int} (hc : c ≠ 0) (h : eqI (pkI s a) c = true) : a < s.size := by
  rw [eqI_t] at h
  by_cases hl : a < s.size
  · exact hl
  · rw [pk_end hl] at h
    exact absurd h.symm hc
theorem nmZ_in {s : ByteArray} {a : Int} (h : InM s a) : InM s (nmZ s a) ∧ a ≤ nmZ s a := by
  have h0 := h.1
  unfold nmZ
  split
  · rename_i q
    have := pk_lt (by decide) q
    exact ⟨⟨by omega, h.2⟩, by omega⟩
  · exact ⟨h, Int.le_refl a⟩
theorem nmE_in {s : ByteArray} {a : Int} (h : InM s a) : InM s (nmE s a) ∧ a ≤ nmE s a := by
  obtain ⟨h1, h2⟩ := nmZ_in h
  have h3 := scI_le goesB s (nmZ s a) h1.1.1 h1.1.2
  exact ⟨scI_in h1, by unfold nmE; omega⟩
def NamR (s : ByteArray) (a : Int) (u : Value) (r : RP) : Prop := match r with
  | .ret v M' => nmBad s a = false ∧ Frz true 1 M' v (.lit (.string (nmX s a))) ∧ M'.get 0 = some (mrB s (nmE s a) (.lit u))
  | .pan k e => nmBad s a = true ∧ k = nmK s a ∧ e = 30
theorem Sy.nam_t (s : ByteArray) (a : Int) (h : InM s a) (u : Value) : CallP Try.prog 56 [.ptr 0 0] (mrM s a u) (NamR s a u) :=
  toP [cPek s, cMbg, cMgo] [pFail] [] [lpNam s u] 400 30 (.yes (.br (.yes (.yes (.br (.auto 1 (.br (.auto 0 .done) (.br (.auto 0 .done) (.yes .done)))) (.auto 2 (.br (.auto 0 .done) (.yes .done)))))) (.yes (.yes (.br (.auto 0 .done) (.br (.auto 0 .done) (.yes .done))))))) (let e1 := (@AV.lit (@Value.string s)); let e2 := (@AV.lit u); let e3 := (some (@Blk.mk [e1, (int a), e2] 52 none)); let e4 := (((@ByteArray.size s) : Nat) : Int); let e5 := ((@ByteArray.size s) ≤ 1000000); let e6 := (@And (@And ((0 : Int) ≤ a) (a ≤ e4)) e5); let e7 := (@isSo (@And (e3 = e3) (@And (([] : List AV) = []) e6))); let e8 := (w64 (a + (1 : Int))); let e9 := (some (@Blk.mk (e1 :: [(int e8), e2]) 52 none)); let e10 := (some (@Blk.mk [e1, (int e8), e2] 52 none)); let e11 := (@And (@And ((0 : Int) ≤ e8) (e8 ≤ e4)) e5); let e12 := (@AV.lit (@Value.int IntKind.u8 (@pkI s e8))); let e13 := (((some (@AV.ptr 0 0)) :: none :: none :: (some (int a)) :: (nn19 (nn48 []))) = ((some (@AV.ptr 0 0)) :: none :: none :: (some (int a)) :: (nn19 (nn48 [])))); let e14 := (@scI Pl.goesB s e8); let e15 := (@AV.lit (@Value.int IntKind.u8 (@pkI s a))); let e16 := (@scI Pl.goesB s a); (.need e7 (.fork (eqI (@pkI s a) (45 : Int)) (.need (@isSo (@And (e9 = e10) (@And (([] : List AV) = []) e11))) (.need (@isSo (@And ((@HAppend.hAppend _ _ _ _ (@HAppend.hAppend _ _ _ _ [] [e12]) []) = [e12]) True)) (.fork (!(@Pl.begB (@pkI s e8))) (.fork (!(eqI (@pkI s e8) (45 : Int))) (.leaf (@RP.pan e8 (Int.ofNat 30))) (.need (@isSo (@And e13 ((@Mem.mk 1 (0 + 1) [e9]) = (@Mem.mk 1 (0 + 1) [e10])))) (.need (@isSo e11) (.fork (!(leI (w64 (e14 - a)) (32 : Int))) (.leaf (@RP.pan a (Int.ofNat 30))) (.need ((leI (0 : Int) a) && ((leI a e14) && (leI e14 e4))) (.leaf (@RP.ret (@AV.lit (@Value.string (@ByteArray.extract s (a).toNat (e14).toNat))) (@Mem.mk 1 0 [(some (@Blk.mk [e1, (int e14), e2] 52 none))])))))))) (.need (@isSo (@And e13 ((@Mem.mk 1 (0 + 1) [e9]) = (@Mem.mk 1 (0 + 1) [e10])))) (.need (@isSo e11) (.fork (!(leI (w64 (e14 - a)) (32 : Int))) (.leaf (@RP.pan a (Int.ofNat 30))) (.need ((leI (0 : Int) a) && ((leI a e14) && (leI e14 e4))) (.leaf (@RP.ret (@AV.lit (@Value.string (@ByteArray.extract s (a).toNat (e14).toNat))) (@Mem.mk 1 0 [(some (@Blk.mk [e1, (int e14), e2] 52 none))])))))))))) (.need e7 (.need (@isSo (@And ((@HAppend.hAppend _ _ _ _ (@HAppend.hAppend _ _ _ _ [] [e15]) []) = [e15]) True)) (.fork (!(@Pl.begB (@pkI s a))) (.leaf (@RP.pan a (Int.ofNat 30))) (.need (@isSo (@And e13 ((@Mem.mk 1 0 [e3]) = (@Mem.mk 1 0 [e3])))) (.need (@isSo e6) (.fork (!(leI (w64 (e16 - a)) (32 : Int))) (.leaf (@RP.pan a (Int.ofNat 30))) (.need ((leI (0 : Int) a) && ((leI a e16) && (leI e16 e4))) (.leaf (@RP.ret (@AV.lit (@Value.string (@ByteArray.extract s (a).toNat (e16).toNat))) (@Mem.mk 1 0 [(some (@Blk.mk [e1, (int e16), e2] 52 none))]))))))))))))) (by kernel_rfl) (by
    have h0 := h.1
    have hl := h.2
    unfold limM at hl
    have hE := nmE_in h
    have hE1 := hE.1.1
    have hZ := nmZ_in h
    conv => zeta
    refine need_so ⟨rfl, rfl, h⟩ (fork_ok (fun q => ?_) (fun q => ?_))
    · have hlt := pk_lt (by decide) q
      have eZ : nmZ s a = a + 1 := by unfold nmZ; rw [if_pos q]
      have eE : scI goesB s (a + 1) = nmE s a := by unfold nmE; rw [eZ]
      have eS : startM s a = (begB (pkI s (a + 1)) || eqI (pkI s (a + 1)) 45) := by unfold startM; rw [if_pos q]
      have hz : InM s (a + 1) := by rw [← eZ]; exact hZ.1
      rw [w64_in (r := a + 1) (by omega), eE, w64_in (r := nmE s a - a) (by omega)]
      have fin : startM s a = true → (Tr.fork (!leI (nmE s a - a) 32) (Tr.leaf (RP.pan a 30)) (Tr.need (leI 0 a && (leI a (nmE s a) && leI (nmE s a) s.size)) (Tr.leaf (RP.ret (.lit (.string (s.extract a.toNat (nmE s a).toNat))) (mrM s (nmE s a) u))))).Ok (NamR s a u) := fun hs => by
        refine fork_ok (fun q2 => ?_) (fun q2 => need_t (by rw [Bool.and_eq_true, Bool.and_eq_true, leI_t, leI_t, leI_t]; omega) ?_)
        · have q2 : leI (nmE s a - a) 32 = false := by simpa using q2
          exact ⟨by unfold nmBad; rw [hs, q2]; rfl, by unfold nmK; rw [if_pos hs], rfl⟩
        · have q2 : leI (nmE s a - a) 32 = true := by simpa using q2
          exact ⟨by unfold nmBad; rw [hs, q2]; rfl, Frz.lit _ _ _ _, rfl⟩
      refine need_so ⟨rfl, rfl, hz⟩ (need_so ⟨rfl, trivial⟩ (fork_ok (fun q2 => fork_ok (fun q3 => ?_) (fun q3 => need_so ⟨rfl, rfl⟩ (need_so hz (fin ?_)))) (fun q2 => need_so ⟨rfl, rfl⟩ (need_so hz (fin ?_)))))
      · have q2 : begB (pkI s (a + 1)) = false := by simpa using q2
        have q3 : eqI (pkI s (a + 1)) 45 = false := by simpa using q3
        have hs : startM s a = false := by rw [eS, q2, q3]; rfl
        exact ⟨by unfold nmBad; rw [hs]; rfl, by unfold nmK; rw [if_neg (by rw [hs]; decide), eZ], rfl⟩
      · have q3 : eqI (pkI s (a + 1)) 45 = true := by simpa using q3
        rw [eS, q3, Bool.or_true]
      · have q2 : begB (pkI s (a + 1)) = true := by simpa using q2
        rw [eS, q2, Bool.true_or]
    · have eZ : nmZ s a = a := by unfold nmZ; rw [if_neg (by rw [q]; decide)]
      have eE : scI goesB s a = nmE s a := by unfold nmE; rw [eZ]
      have eS : startM s a = begB (pkI s a) := by unfold startM; rw [if_neg (by rw [q]; decide)]
      rw [eE, w64_in (r := nmE s a - a) (by omega)]
      refine need_so ⟨rfl, rfl, h⟩ (need_so ⟨rfl, trivial⟩ (fork_ok (fun q2 => ?_) (fun q2 => need_so ⟨rfl, rfl⟩ (need_so h (fork_ok (fun q3 => ?_) (fun q3 => need_t (by rw [Bool.and_eq_true, Bool.and_eq_true, leI_t, leI_t, leI_t]; omega) ?_))))))
      · have q2 : begB (pkI s a) = false := by simpa using q2
        have hs : startM s a = false := by rw [eS, q2]
        exact ⟨by unfold nmBad; rw [hs]; rfl, by unfold nmK; rw [if_neg (by rw [hs]; decide), eZ], rfl⟩
      · have hs : startM s a = true := by rw [eS]; simpa using q2
        have q3 : leI (nmE s a - a) 32 = false := by simpa using q3
        exact ⟨by unfold nmBad; rw [hs, q3]; rfl, by unfold nmK; rw [if_pos hs], rfl⟩
      · have hs : startM s a = true := by rw [eS]; simpa using q2
        have q3 : leI (nmE s a - a) 32 = true := by simpa using q3
        exact ⟨by unfold nmBad; rw [hs, q3]; rfl, Frz.lit _ _ _ _, rfl⟩)
noncomputable abbrev Sy.cNam (s : ByteArray) : Con Try.prog := conM s 56 (fun r => match r with | [] => some () | _ => none) (fun _ => []) (fun a _ => .lit (.string (nmX s a))) (fun a _ => nmE s a) (fun a _ => InM s a ∧ nmBad s a = false) fun a _ h => ⟨⟨trivial, trivial⟩, fun u => ((nam_t s a h.1 u).to fun k e hg => by have := hg.1; rw [h.2] at this; cases this).mono fun v M' hg => hg.2⟩
noncomputable abbrev Sy.pNam (s : ByteArray) : PCon Try.prog := panM s 56 (.lit (.string ⟨⟨[]⟩⟩)) (fun r => match r with | [] => some () | _ => none) (fun _ => []) (fun a _ => nmBad s a) (fun a _ => nmK s a) (fun _ _ => 30) (fun a _ => InM s a) fun a _ h hb => ⟨trivial, fun u => (nam_t s a h u).pan (fun v M' hg => by have := hg.1; rw [hb] at this; cases this) fun k e hg => hg.2⟩
end Go.Proofs.Ytglkdhmikpejnaa
namespace Go.Proofs.Ytglkdhmikpejnaa
open Go Go.RowKit Pl Sy
def wdG (c : Int) : Bool := leI 32 c && !eqI c 34
noncomputable def wdE (s : ByteArray) (a : Int) : Int := scI wdG s (a + 1)
noncomputable def wdBad (s : ByteArray) (a : Int) : Bool := nxB s a 34 || (nxB s (wdE s a) 34 || !leI (wdE s a - (a + 1)) 256)
noncomputable def wdK (s : ByteArray) (a : Int) : Int := if nxB s a 34 = true then a else if nxB s (wdE s a) 34 = true then wdE s a else a
noncomputable def wdX (s : ByteArray) (a : Int) : ByteArray := s.extract (a + 1).toNat (wdE s a).toNat
namespace Sy
abbrev wdsF (q f : Int) : Fr := (some ((@AV.ptr 0 0)) :: none :: none :: some (int q) :: some (int f) :: (nn22 (nn48 [])))
end Sy
theorem Sy.wds_scan (s : ByteArray) (a q f : Int) (h : InM s a) (u : Value) : LoopTo Try.prog (theBody Try.prog 42 5) (s.size + 1) (wdsF q f) (mrM s a u) fun ex F' M' => ex = .exit 0 ∧ F' = wdsF q f ∧ M' = mrM s (scI wdG s a) u := by
  refine up_scan s wdG (wdsF q f) (fun a => mrM s a u) (.exit 0) (fun a n G h0 h1 c1 c2 => ?_) s.size a (by omega) h.1.1 h.1.2
  have hl := h.2
  unfold limM at hl
  refine roundL [] [] 400 30 42 5 Try.func42 rfl (by kernel_rfl) (true :: false :: false :: true :: true :: (ff22 (ff48 []))) (.br (.auto 7 (.yes (.auto 1 (.br (.auto 7 (.yes (.auto 1 (.br .done .done)))) (.auto 10 .done))))) (.auto 21 .done)) (.fork (!(leI (((@ByteArray.size s) : Nat) : Int) a)) (.need (@inR a (@ByteArray.size s)) (.fork (leI (32 : Int) (@byteAt s (a).toNat)) (.need (@inR a (@ByteArray.size s)) (.fork (!(eqI (@byteAt s (a).toNat) (34 : Int))) (.leaf (Ex.norm, (((some (@AV.ptr 0 0)) :: none :: none :: (some (int q)) :: (some (int f)) :: (nn22 (nn48 []))), (@Mem.mk 1 (0 + 1) [(some (@Blk.mk ((@AV.lit (@Value.string s)) :: [(int (w64 (a + (1 : Int)))), (@AV.lit u)]) 52 none))])))) (.leaf ((@Ex.exit 0), (((some (@AV.ptr 0 0)) :: none :: none :: (some (int q)) :: (some (int f)) :: (nn22 (nn48 []))), (@Mem.mk 1 0 [(some (@Blk.mk [(@AV.lit (@Value.string s)), (int a), (@AV.lit u)] 52 none))])))))) (.leaf ((@Ex.exit 0), (((some (@AV.ptr 0 0)) :: none :: none :: (some (int q)) :: (some (int f)) :: (nn22 (nn48 []))), (@Mem.mk 1 0 [(some (@Blk.mk [(@AV.lit (@Value.string s)), (int a), (@AV.lit u)] 52 none))])))))) (.leaf ((@Ex.exit 0), (((some (@AV.ptr 0 0)) :: none :: none :: (some (int q)) :: (some (int f)) :: (nn22 (nn48 []))), (@Mem.mk 1 0 [(some (@Blk.mk [(@AV.lit (@Value.string s)), (int a), (@AV.lit u)] 52 none))]))))) (by kernel_rfl) ?_
  refine fork_ok (fun q1 => ?_) (fun q1 => ?_)
  · have q1 : leI s.size a = false := by simpa using q1
    rw [leI_f] at q1
    have hr : inR a s.size = true := by rw [inR_t]; omega
    refine need_t hr (fork_ok (fun q2 => need_t hr (fork_ok (fun q3 => ?_) (fun q3 => ?_))) (fun q2 => ?_))
    · rw [w64_in (r := a + 1) (by omega)]
      exact LoopTo.stampB 0 (c1 (by omega) (by unfold wdG; rw [q2, q3]; rfl))
    · refine c2 (fun x => ?_)
      have := x.2
      unfold wdG at this
      rw [q2, q3] at this
      cases this
    · refine c2 (fun x => ?_)
      have := x.2
      unfold wdG at this
      rw [q2] at this
      cases this
  · have q1 : leI s.size a = true := by simpa using q1
    rw [leI_t] at q1
    exact c2 (fun x => by omega)
namespace Sy
structure KB2 where
  q : Int
  f : Int
  b : Int
  z : Nat
noncomputable def kbGet2 (F : Fr) (M : Mem) : Option KB2 := match nth F 3 with
  | some (some (.lit (.int _ q))) => match nth F 4 with
    | some (some (.lit (.int _ f))) => match M with
      | ⟨_, z, [some ⟨[_, .lit (.int _ b), _], _, _⟩]⟩ => some ⟨q, f, b, z⟩
      | _ => none
    | _ => none
  | _ => none
noncomputable abbrev lpWds (s : ByteArray) (u : Value) : Lp Try.prog where
  f := 42
  key := 5
  S := formS (fun F M => kbGet2 F M) (fun x => wdsF x.q x.f) (fun x => mrMz s x.b u x.z) (fun x => InM s x.b) (fun x => .leaf (.exit 0, wdsF x.q x.f, mrM s (scI wdG s x.b) u)) (true :: false :: false :: true :: true :: (ff22 (ff48 [])))
  one := by kernel_rfl
  ok := formS_ok fun x h1 => by
    refine ⟨_, LoopTo.stampB 0 ((Sy.wds_scan s x.b x.q x.f h1 u).mono fun ex F M hg => ?_)⟩
    obtain ⟨rfl, rfl, rfl⟩ := hg
    rfl
end Sy
theorem Sy.rom_t (s : ByteArray) (a n : Int) (u : Value) : CallP Try.prog 57 [.ptr 0 0, int n] (mrM s a u) fun r => match r with
    | .ret v M' => leI 8 n = false ∧ Frz true 1 M' v (.tup []) ∧ M'.get 0 = some (mrB s a (.lit u))
    | .pan k e => leI 8 n = true ∧ k = a ∧ e = 30 :=
  toP [] [pFail] [] [] 400 30 (.br (.auto 0 .done) .done) (.fork (leI (8 : Int) n) (.leaf (@RP.pan a (Int.ofNat 30))) (.leaf (@RP.ret (@AV.tup []) (@Mem.mk 1 0 [(some (@Blk.mk [(@AV.lit (@Value.string s)), (int a), (@AV.lit u)] 52 none))])))) (by kernel_rfl) (fork_ok (fun q => ⟨q, rfl, rfl⟩) (fun q => ⟨q, Frz.free _ _ trivial, rfl⟩))
noncomputable abbrev Sy.cRom (s : ByteArray) : Con Try.prog := conMr s 57 (fun r => match r with | [.lit (.int .i64 n)] => some n | _ => none) (fun n => [int n]) (fun _ _ => .tup []) (fun _ n => leI 8 n = false) fun a n h => ⟨⟨⟨trivial, trivial⟩, trivial⟩, fun u => ((rom_t s a n u).to fun k e hg => by rw [h] at hg; cases hg.1).mono fun v M' hg => hg.2⟩
noncomputable abbrev Sy.pRom (s : ByteArray) : PCon Try.prog := panM s 57 (.tup []) (fun r => match r with | [.lit (.int .i64 n)] => some n | _ => none) (fun n => [int n]) (fun _ n => leI 8 n) (fun a _ => a) (fun _ _ => 30) (fun _ _ => True) fun a n _ hb => ⟨⟨trivial, trivial⟩, fun u => (rom_t s a n u).pan (fun v M' hg => by rw [hb] at hg; cases hg.1) fun k e hg => hg.2⟩
def fulE (n k : Int) : Int := if leI 1024 n = true then 32 else if leI 64 k = true then 31 else 0
theorem Sy.ful_t (s : ByteArray) (a n k : Int) (u : Value) : CallP Try.prog 36 [.ptr 0 0, int n, int k] (mrM s a u) fun r => match r with
    | .ret v M' => eqI (fulE n k) 0 = true ∧ Frz true 1 M' v (.tup []) ∧ M'.get 0 = some (mrB s a (.lit u))
    | .pan kk e => eqI (fulE n k) 0 = false ∧ kk = a ∧ e = fulE n k :=
  toP [] [pFail] [] [] 400 30 (.br (.auto 0 .done) (.br (.auto 0 .done) .done)) (.fork (leI (1024 : Int) n) (.leaf (@RP.pan a (Int.ofNat 32))) (.fork (leI (64 : Int) k) (.leaf (@RP.pan a (Int.ofNat 31))) (.leaf (@RP.ret (@AV.tup []) (@Mem.mk 1 0 [(some (@Blk.mk [(@AV.lit (@Value.string s)), (int a), (@AV.lit u)] 52 none))]))))) (by kernel_rfl) (by
    unfold fulE
    refine fork_ok (fun q => ?_) (fun q => fork_ok (fun q2 => ?_) (fun q2 => ?_))
    · rw [if_pos q]; exact ⟨rfl, rfl, rfl⟩
    · rw [if_neg (by rw [q]; decide), if_pos q2]; exact ⟨rfl, rfl, rfl⟩
    · rw [if_neg (by rw [q]; decide), if_neg (by rw [q2]; decide)]; exact ⟨rfl, Frz.free _ _ trivial, rfl⟩)
namespace Sy
structure I2 where
  n : Int
  k : Int
end Sy
noncomputable abbrev Sy.cFul (s : ByteArray) : Con Try.prog := conMr s 36 (fun r => match r with | [.lit (.int .i64 n), .lit (.int .i64 k)] => some (I2.mk n k) | _ => none) (fun x => [int x.n, int x.k]) (fun _ _ => .tup []) (fun _ x => eqI (fulE x.n x.k) 0 = true) fun a x h => ⟨⟨⟨trivial, trivial, trivial⟩, trivial⟩, fun u => ((ful_t s a x.n x.k u).to fun k e hg => by rw [h] at hg; cases hg.1).mono fun v M' hg => hg.2⟩
noncomputable abbrev Sy.pFul (s : ByteArray) : PCon Try.prog := panM s 36 (.tup []) (fun r => match r with | [.lit (.int .i64 n), .lit (.int .i64 k)] => some (I2.mk n k) | _ => none) (fun x => [int x.n, int x.k]) (fun _ x => !eqI (fulE x.n x.k) 0) (fun a _ => a) (fun _ x => fulE x.n x.k) (fun _ _ => True) fun a x _ hb => ⟨⟨trivial, trivial, trivial⟩, fun u => (ful_t s a x.n x.k u).pan (fun v M' hg => by rw [hg.1] at hb; cases hb) fun k e hg => hg.2⟩
theorem Sy.put_t (a e : Int) : CallP Try.prog 37 [int a, int e] M0 fun r => match r with
    | .ret v M' => eqI e 0 = true ∧ v = .tup [] ∧ M' = M0
    | .pan k e' => eqI e 0 = false ∧ k = a ∧ e' = e :=
  toP [] [pFail] [] [] 400 30 (.br (.auto 0 .done) .done) (.fork (!(eqI e (0 : Int))) (.leaf (@RP.pan a e)) (.leaf (@RP.ret (@AV.tup []) (@Mem.mk 0 0 [])))) (by kernel_rfl) (fork_ok (fun q => ⟨by simpa using q, rfl, rfl⟩) (fun q => ⟨by simpa using q, rfl, rfl⟩))
noncomputable abbrev Sy.cPut11 : Con Try.prog := atX 37 (fun args => match args with | [.lit (.int .i64 a), .lit (.int .i64 e)] => some (I2.mk a e) | _ => none) (fun x => [int x.n, int x.k]) (fun _ => .tup []) (fun x => eqI x.k 0 = true) fun x h => ⟨⟨⟨trivial, trivial, trivial⟩, trivial⟩, ((put_t x.n x.k).to fun k e hg => by rw [h] at hg; cases hg.1).mono fun v M' hg => hg.2.1⟩
end Go.Proofs.Ytglkdhmikpejnaa
namespace Go.Proofs.Ytglkdhmikpejnaa
open Go Go.RowKit Pl Sy
theorem wdE_in {s : ByteArray} {a : Int} (h : InM s a) (hn : nxB s a 34 = false) : InM s (wdE s a) ∧ a + 1 ≤ wdE s a := by
  obtain ⟨h1, h2⟩ := nd_in h hn
  have h3 := scI_le wdG s (a + 1) h1.1.1 h1.1.2
  exact ⟨scI_in h1, by unfold wdE; omega⟩
theorem wdX_in {s : ByteArray} {a : Int} (h : InM s a) (hb : wdBad s a = false) : InM s (wdE s a + 1) ∧ a + 2 ≤ wdE s a + 1 := by
  unfold wdBad at hb
  rw [Bool.or_eq_false_iff, Bool.or_eq_false_iff] at hb
  obtain ⟨h1, h2⟩ := wdE_in h hb.1
  exact ⟨(nd_in h1 hb.2.1).1, by omega⟩
def WdsR (s : ByteArray) (a : Int) (u : Value) (r : RP) : Prop := match r with
  | .ret v M' => wdBad s a = false ∧ Frz true 1 M' v (.lit (.string (wdX s a))) ∧ M'.get 0 = some (mrB s (wdE s a + 1) (.lit u))
  | .pan k e => wdBad s a = true ∧ k = wdK s a ∧ e = 30
theorem Sy.wds_t (s : ByteArray) (a : Int) (h : InM s a) (u : Value) : CallP Try.prog 42 [.ptr 0 0] (mrM s a u) (WdsR s a u) :=
  toP [cNed s] [pFail, pNed s] [] [lpWds s u] 400 30 (.yes (.br .done (.yes (.yes (.yes (.br .done (.yes (.br (.auto 0 .done) .done)))))))) (let e1 := (@AV.lit (@Value.string s)); let e2 := (some (@Blk.mk [e1, (int a), (@AV.lit u)] 52 none)); let e3 := (@AV.lit (@Value.int IntKind.u8 (34 : Int))); let e4 := ([e3] = [e3]); let e5 := (((@ByteArray.size s) : Nat) : Int); let e6 := ((@ByteArray.size s) ≤ 1000000); let e7 := (@And (@And ((0 : Int) ≤ a) (a ≤ e5)) e6); let e8 := (a + (1 : Int)); let e9 := (@Mem.mk 1 (0 + 1) [(some (@Blk.mk [e1, (int e8), (@AV.lit u)] 52 none))]); let e10 := (@scI wdG s e8); let e11 := (some (@Blk.mk [e1, (int e10), (@AV.lit u)] 52 none)); let e12 := (@And (@And ((0 : Int) ≤ e10) (e10 ≤ e5)) e6); let e13 := (@ByteArray.extract s (e8).toNat (e10).toNat); (.need (@isSo (@And (e2 = e2) (@And e4 e7))) (.fork (@nxB s a (34 : Int)) (.leaf (@RP.pan a (Int.ofNat 30))) (.need (@isSo (@And (e2 = e2) (@And e4 (@And e7 ((@nxB s a (34 : Int)) = false))))) (.need (@isSo (@And (((some (@AV.ptr 0 0)) :: none :: none :: (some (int a)) :: (some (int e8)) :: (nn22 (nn48 []))) = ((some (@AV.ptr 0 0)) :: none :: none :: (some (int a)) :: (some (int e8)) :: (nn22 (nn48 [])))) (e9 = e9))) (.need (@isSo (@And (@And ((0 : Int) ≤ e8) (e8 ≤ e5)) e6)) (.need ((leI (0 : Int) e8) && ((leI e8 e10) && (leI e10 e5))) (.need (@isSo (@And (e11 = e11) (@And e4 e12))) (.fork (@nxB s e10 (34 : Int)) (.leaf (@RP.pan e10 (Int.ofNat 30))) (.need (@isSo (@And (e11 = e11) (@And e4 (@And e12 ((@nxB s e10 (34 : Int)) = false))))) (.fork (!(leI (((@ByteArray.size e13) : Nat) : Int) (256 : Int))) (.leaf (@RP.pan a (Int.ofNat 30))) (.leaf (@RP.ret (@AV.lit (@Value.string e13)) (@Mem.mk 1 (0 + 1) [(some (@Blk.mk [e1, (int (e10 + (1 : Int))), (@AV.lit u)] 52 none))])))))))))))))) (by kernel_rfl) (by
    have h0 := h.1
    have hl := h.2
    unfold limM at hl
    conv => zeta
    refine need_so ⟨rfl, rfl, h⟩ (fork_ok (fun q => ?_) (fun q => ?_))
    · exact ⟨by unfold wdBad; rw [q]; rfl, by unfold wdK; rw [if_pos q], rfl⟩
    · obtain ⟨hz, hlt⟩ := nd_in h q
      obtain ⟨hE, hE2⟩ := wdE_in h q
      have hE1 := hE.1
      rw [show scI wdG s (a + 1) = wdE s a from rfl]
      have sz : (((s.extract (a + 1).toNat (wdE s a).toNat).size : Nat) : Int) = wdE s a - (a + 1) := by
        rw [ByteArray.size_extract]
        omega
      rw [sz]
      refine need_so ⟨rfl, rfl, h, q⟩ (need_so ⟨rfl, rfl⟩ (need_so hz (need_t (by rw [Bool.and_eq_true, Bool.and_eq_true, leI_t, leI_t, leI_t]; omega) (need_so ⟨rfl, rfl, hE⟩ (fork_ok (fun q2 => ?_) (fun q2 => need_so ⟨rfl, rfl, hE, q2⟩ (fork_ok (fun q3 => ?_) (fun q3 => ?_))))))))
      · exact ⟨by unfold wdBad; rw [q2]; simp, by unfold wdK; rw [if_neg (by rw [q]; decide), if_pos q2], rfl⟩
      · have q3 : leI (wdE s a - (a + 1)) 256 = false := by simpa using q3
        exact ⟨by unfold wdBad; rw [q3]; simp, by unfold wdK; rw [if_neg (by rw [q]; decide), if_neg (by rw [q2]; decide)], rfl⟩
      · have q3 : leI (wdE s a - (a + 1)) 256 = true := by simpa using q3
        exact ⟨by unfold wdBad; rw [q, q2, q3]; rfl, Frz.lit _ _ _ _, rfl⟩)
noncomputable abbrev Sy.cWds (s : ByteArray) : Con Try.prog := conM s 42 (fun r => match r with | [] => some () | _ => none) (fun _ => []) (fun a _ => .lit (.string (wdX s a))) (fun a _ => wdE s a + 1) (fun a _ => InM s a ∧ wdBad s a = false) fun a _ h => ⟨⟨trivial, trivial⟩, fun u => ((wds_t s a h.1 u).to fun k e hg => by have := hg.1; rw [h.2] at this; cases this).mono fun v M' hg => hg.2⟩
noncomputable abbrev Sy.pWds (s : ByteArray) : PCon Try.prog := panM s 42 (.lit (.string ⟨⟨[]⟩⟩)) (fun r => match r with | [] => some () | _ => none) (fun _ => []) (fun a _ => wdBad s a) (fun a _ => wdK s a) (fun _ _ => 30) (fun a _ => InM s a) fun a _ h hb => ⟨trivial, fun u => (wds_t s a h u).pan (fun v M' hg => by have := hg.1; rw [hb] at this; cases this) fun k e hg => hg.2⟩
noncomputable def atE (s : ByteArray) (a : Int) : Int := nmE s (a + 1)
noncomputable def atW (s : ByteArray) (a : Int) : Int := wdE s (atE s a + 1) + 1
noncomputable def atBad (s : ByteArray) (a : Int) : Bool := nxB s a 91 || (nmBad s (a + 1) || (nxB s (atE s a) 61 || (wdBad s (atE s a + 1) || nxB s (atW s a) 93)))
noncomputable def atK (s : ByteArray) (a : Int) : Int := if nxB s a 91 = true then a else if nmBad s (a + 1) = true then nmK s (a + 1) else if nxB s (atE s a) 61 = true then atE s a else if wdBad s (atE s a + 1) = true then wdK s (atE s a + 1) else atW s a
noncomputable def atA (s : ByteArray) (a : Int) : AV := .agg [.lit (.string (nmX s (a + 1))), .lit (.string (wdX s (atE s a + 1)))]
def AtrR (s : ByteArray) (a : Int) (u : Value) (r : RP) : Prop := match r with
  | .ret v M' => atBad s a = false ∧ Frz true 1 M' v (atA s a) ∧ M'.get 0 = some (mrB s (atW s a + 1) (.lit u))
  | .pan k e => atBad s a = true ∧ k = atK s a ∧ e = 30
theorem at_in {s : ByteArray} {a : Int} (h : InM s a) (hb : atBad s a = false) : InM s (atW s a + 1) ∧ a + 1 ≤ atW s a + 1 := by
  unfold atBad at hb
  simp only [Bool.or_eq_false_iff] at hb
  obtain ⟨q1, q2, q3, q4, q5⟩ := hb
  have h1 := (nd_in h q1).1
  have h2 := nmE_in h1
  have h3 := (nd_in h2.1 q3).1
  have h4 := wdX_in h3 q4
  have h5 := nd_in h4.1 q5
  have h6 := h2.2
  have h7 := h4.2
  unfold atW atE at *
  exact ⟨h5.1, by omega⟩
theorem Sy.atr_t (s : ByteArray) (a : Int) (h : InM s a) (u : Value) : CallP Try.prog 58 [.ptr 0 0] (mrM s a u) (AtrR s a u) :=
  toP [cNed s, cNam s, cWds s] [pFail, pNed s, pNam s, pWds s] [] [] 400 30 (.yes (.br .done (.yes (.yes (.br .done (.yes (.yes (.br .done (.yes (.yes (.br .done (.yes (.yes (.br .done (.yes .done))))))))))))))) (let e1 := (@AV.lit (@Value.string s)); let e2 := (@AV.lit u); let e3 := (some (@Blk.mk [e1, (int a), e2] 52 none)); let e4 := (@AV.lit (@Value.int IntKind.u8 (91 : Int))); let e5 := (((@ByteArray.size s) : Nat) : Int); let e6 := ((@ByteArray.size s) ≤ 1000000); let e7 := (@And (@And ((0 : Int) ≤ a) (a ≤ e5)) e6); let e8 := (Int.ofNat 30); let e9 := (a + (1 : Int)); let e10 := (some (@Blk.mk [e1, (int e9), e2] 52 none)); let e11 := (([] : List AV) = []); let e12 := (@And (@And ((0 : Int) ≤ e9) (e9 ≤ e5)) e6); let e13 := (@nmE s e9); let e14 := (some (@Blk.mk [e1, (int e13), e2] 52 none)); let e15 := (@AV.lit (@Value.int IntKind.u8 (61 : Int))); let e16 := (@And (@And ((0 : Int) ≤ e13) (e13 ≤ e5)) e6); let e17 := (e13 + (1 : Int)); let e18 := (some (@Blk.mk [e1, (int e17), e2] 52 none)); let e19 := (@And (@And ((0 : Int) ≤ e17) (e17 ≤ e5)) e6); let e20 := ((@wdE s e17) + (1 : Int)); let e21 := (some (@Blk.mk [e1, (int e20), e2] 52 none)); let e22 := (@AV.lit (@Value.int IntKind.u8 (93 : Int))); let e23 := (@And (@And ((0 : Int) ≤ e20) (e20 ≤ e5)) e6); let e24 := (@AV.lit (@Value.string (@nmX s e9))); let e25 := (@AV.lit (@Value.string (@wdX s e17))); let e26 := (@AV.lit (@Value.string (@ByteArray.mk (@Array.mk _ [])))); let e27 := (e24 :: (e25 :: (@List.drop _ (0 + ((e24 :: [e25])).length) [e26, e26]))); (.need (@isSo (@And (e3 = e3) (@And ([e4] = [e4]) e7))) (.fork (@nxB s a (91 : Int)) (.leaf (@RP.pan a e8)) (.need (@isSo (@And (e3 = e3) (@And ([e4] = [e4]) (@And e7 ((@nxB s a (91 : Int)) = false))))) (.need (@isSo (@And (e10 = e10) (@And e11 e12))) (.fork (@nmBad s e9) (.leaf (@RP.pan (@nmK s e9) e8)) (.need (@isSo (@And (e10 = e10) (@And e11 (@And e12 ((@nmBad s e9) = false))))) (.need (@isSo (@And (e14 = e14) (@And ([e15] = [e15]) e16))) (.fork (@nxB s e13 (61 : Int)) (.leaf (@RP.pan e13 e8)) (.need (@isSo (@And (e14 = e14) (@And ([e15] = [e15]) (@And e16 ((@nxB s e13 (61 : Int)) = false))))) (.need (@isSo (@And (e18 = e18) (@And e11 e19))) (.fork (@wdBad s e17) (.leaf (@RP.pan (@wdK s e17) e8)) (.need (@isSo (@And (e18 = e18) (@And e11 (@And e19 ((@wdBad s e17) = false))))) (.need (@isSo (@And (e21 = e21) (@And ([e22] = [e22]) e23))) (.fork (@nxB s e20 (93 : Int)) (.leaf (@RP.pan e20 e8)) (.need (@isSo (@And (e21 = e21) (@And ([e22] = [e22]) (@And e23 ((@nxB s e20 (93 : Int)) = false))))) (.leaf (@RP.ret (@AV.agg (@List.take _ 2 e27)) (@Mem.mk ((1 + 1) + 1) (((((((0 + 1) + 1) + 1) + 1) + 1) + 1) + 1) ((some (@Blk.mk (e24 :: (e25 :: [])) 67 none)) :: [(some (@Blk.mk e27 67 none)), (some (@Blk.mk [e1, (int (e20 + (1 : Int))), e2] 52 none))])))))))))))))))))))) (by kernel_rfl) (by
    conv => zeta
    rw [show nmE s (a + 1) = atE s a from rfl, show wdE s (atE s a + 1) + 1 = atW s a from rfl]
    refine need_so ⟨rfl, rfl, h⟩ (fork_ok (fun q => ?_) (fun q => ?_))
    · exact ⟨by unfold atBad; rw [q]; rfl, by unfold atK; rw [if_pos q], rfl⟩
    obtain ⟨hz, _⟩ := nd_in h q
    refine need_so ⟨rfl, rfl, h, q⟩ (need_so ⟨rfl, rfl, hz⟩ (fork_ok (fun q2 => ?_) (fun q2 => ?_)))
    · exact ⟨by unfold atBad; rw [q2]; simp, by unfold atK; rw [if_neg (by rw [q]; decide), if_pos q2], rfl⟩
    have hE : InM s (atE s a) := (nmE_in hz).1
    refine need_so ⟨rfl, rfl, hz, q2⟩ (need_so ⟨rfl, rfl, hE⟩ (fork_ok (fun q3 => ?_) (fun q3 => ?_)))
    · exact ⟨by unfold atBad; rw [q3]; simp, by unfold atK; rw [if_neg (by rw [q]; decide), if_neg (by rw [q2]; decide), if_pos q3], rfl⟩
    have hE1 := (nd_in hE q3).1
    refine need_so ⟨rfl, rfl, hE, q3⟩ (need_so ⟨rfl, rfl, hE1⟩ (fork_ok (fun q4 => ?_) (fun q4 => ?_)))
    · exact ⟨by unfold atBad; rw [q4]; simp, by unfold atK; rw [if_neg (by rw [q]; decide), if_neg (by rw [q2]; decide), if_neg (by rw [q3]; decide), if_pos q4], rfl⟩
    have hW : InM s (atW s a) := (wdX_in hE1 q4).1
    refine need_so ⟨rfl, rfl, hE1, q4⟩ (need_so ⟨rfl, rfl, hW⟩ (fork_ok (fun q5 => ?_) (fun q5 => need_so ⟨rfl, rfl, hW, q5⟩ ?_)))
    · exact ⟨by unfold atBad; rw [q5]; simp, by unfold atK; rw [if_neg (by rw [q]; decide), if_neg (by rw [q2]; decide), if_neg (by rw [q3]; decide), if_neg (by rw [q4]; decide)], rfl⟩
    · exact ⟨by unfold atBad; rw [q, q2, q3, q4, q5]; rfl, Frz.free _ _ ⟨trivial, trivial, trivial⟩, rfl⟩)
noncomputable abbrev Sy.cAtr (s : ByteArray) : Con Try.prog := conM s 58 (fun r => match r with | [] => some () | _ => none) (fun _ => []) (fun a _ => atA s a) (fun a _ => atW s a + 1) (fun a _ => InM s a ∧ atBad s a = false) fun a _ h => ⟨⟨trivial, trivial, trivial, trivial⟩, fun u => ((atr_t s a h.1 u).to fun k e hg => by have := hg.1; rw [h.2] at this; cases this).mono fun v M' hg => hg.2⟩
noncomputable abbrev Sy.pAtr (s : ByteArray) : PCon Try.prog := panM s 58 (.agg [.lit (.string ⟨⟨[]⟩⟩), .lit (.string ⟨⟨[]⟩⟩)]) (fun r => match r with | [] => some () | _ => none) (fun _ => []) (fun a _ => atBad s a) (fun a _ => atK s a) (fun _ _ => 30) (fun a _ => InM s a) fun a _ h hb => ⟨trivial, fun u => (atr_t s a h u).pan (fun v M' hg => by have := hg.1; rw [hb] at this; cases this) fun k e hg => hg.2⟩
end Go.Proofs.Ytglkdhmikpejnaa
namespace Go.Proofs.Ytglkdhmikpejnaa
open Go Go.RowKit Pl Sy
namespace Sy
abbrev hdZ : Blk := ⟨[int 0, .lit (.string ⟨⟨[]⟩⟩), .lit (.string ⟨⟨[]⟩⟩), .lit (.slice none 0 0), .lit (.slice none 0 0), .lit (.string ⟨⟨[]⟩⟩)], 40, none⟩
abbrev hdF0 : Fr := (some (.ptr 0 0) :: none :: some (.ptr 1 0) :: (nn14 (nn48 [])))
abbrev hdM0 (s : ByteArray) (a : Int) (u : Value) : Mem := ⟨2, 0, [some hdZ, some (mrB s a (.lit u))]⟩
abbrev hdF : Fr := (some (.ptr 0 0) :: none :: some (.ptr 1 0) :: some (.ptr 2 0) :: (nn13 (nn48 [])))
def hcell (cs : List ByteArray) (i _j : Nat) : AV := .lit (.string (cs.getD i ⟨#[]⟩))
def acell (ats : List AttrV) (i j : Nat) : AV := match j with
  | 0 => .lit (.string (ats.getD i attrNone).name)
  | _ => .lit (.string (ats.getD i attrNone).value)
abbrev hdB (t i : ByteArray) (x n y m : Nat) : Blk := ⟨[int 0, .lit (.string t), .lit (.string i), .own x n 1, .own y m 2, .lit (.string ⟨⟨[]⟩⟩)], 40, none⟩
abbrev hdM (s : ByteArray) (a : Int) (u : Value) (t i : ByteArray) (cs : List ByteArray) (ats : List AttrV) : Mem := ⟨5, 0, [some ⟨[], 67, some ⟨ats.length, 2, acell ats⟩⟩, some ⟨[], 9, some ⟨cs.length, 1, hcell cs⟩⟩, some (hdB t i 3 cs.length 4 ats.length), some hdZ, some (mrB s a (.lit u))]⟩
end Sy
end Go.Proofs.Ytglkdhmikpejnaa
namespace Go.Proofs.Ytglkdhmikpejnaa
open Go Go.RowKit Pl Sy
namespace Sy
theorem JumpT.nilc {T : Nat} {P : Program} {c : Code} {n : Nat} {y : Code} {F : Fr} {M : Mem} {G : ExP → Fr → Mem → Prop} (b i : Nat) (B : Blk) (e : TypeId) (s : Nat) (cell : Nat → Nat → AV) (hT : T ≤ M.top) (hb : M.get b = some B) (hi : B.cells[i]? = some (.lit (.slice none 0 0))) (h : JumpT T P c n y F ((M.push ⟨[], e, some ⟨0, s, cell⟩⟩).put b (some ⟨B.cells.set i (.own M.top 0 s), B.elem, B.rows⟩)) G) : JumpT T P c n y F M G := fun w0 ρ a w Q hF hW hQ => by
  obtain ⟨h1, h2, h3⟩ := hW.virt e s cell
  have hlt := Mem.get_lt hb
  have hlt' : b < (M.push ⟨[], e, some ⟨0, s, cell⟩⟩).top := by show b < M.top + 1; omega
  have h4 : WR w0 (nilled ρ M.top) ((M.push ⟨[], e, some ⟨0, s, cell⟩⟩).put b (some ⟨B.cells.set i (.own M.top 0 s), B.elem, B.rows⟩)) w := by
    refine WR.swap h3 (Nat.le_refl _) fun b' B' hb' => ?_
    rcases Mem.get_put hlt' hb' with ⟨rfl, hB⟩ | ⟨hne, hB⟩
    · simp at hB; subst hB
      refine ⟨B, by rw [Mem.get_push_old _ _ hlt]; exact hb, rfl, fun cur hH => ⟨fun k v hv => ?_, hH.2⟩, .inr (by intro h0; rw [h0] at hi; simp at hi)⟩
      simp only [List.getElem?_set] at hv
      by_cases hk : i = k
      · subst hk
        simp only [if_true] at hv
        split at hv
        · simp at hv; subst hv
          obtain ⟨u, q1, q2⟩ := hH.1 i _ hi
          refine ⟨u, q1, ?_⟩
          simp only [rel] at q2 ⊢
          exact .inl ⟨h2, trivial, q2⟩
        · cases hv
      · rw [if_neg hk] at hv
        exact hH.1 k v hv
    · exact ⟨B', hB, rfl, fun cur hH => hH, .inl rfl⟩
  refine h w0 _ a w Q ⟨hF.len, fun t v hv => (hF.val t v hv).ext h1, hF.defers⟩ h4 fun ex F' M' ρ' a' w' hg q1 q2 => hQ ex F' M' ρ' a' w' hg ?_ q2
  exact ⟨fun b g hb => q1.blk b g (by
      simp only [Sy.cutR] at hb ⊢
      split at hb
      · rename_i hlt; rw [if_pos hlt]; exact h1.blk b g hb
      · cases hb), fun b hb => q1.nil b (by
      simp only [Sy.cutR] at hb ⊢
      split at hb
      · rename_i hlt; rw [if_pos hlt]; exact h1.nil b hb
      · cases hb), fun g o v hv => q1.still g o v (h1.still g o v hv), q1.base.trans h1.base, q1.mine.trans h1.mine⟩
def selP (t : Tr (ExP × Fr × Mem)) (ex : ExP) (F : Fr) (M : Mem) : Prop := match ex with
  | .pan k e => ∃ F' M', t.sel (.pan k e, F', M')
  | _ => t.sel (ex, F, M)
noncomputable def formP {X : Type} (get : Fr → Mem → Option X) (form : X → Fr) (M0 : X → Mem) (C : X → Prop) (res : X → Tr (ExP × Fr × Mem)) (p : List Bool) : SummP := fun F M => match get F M with
  | some x => .need (isSo (maskF p F = form x ∧ M = M0 x)) (.need (isSo (C x)) (res x))
  | none => .bad 28
theorem ScopeTo.mask {P : Program} {c : Code} {F : Fr} {M : Mem} {G : ExP → Fr → Mem → Prop} (p : List Bool) (h : ScopeTo P c (maskF p F) M G) : ScopeTo P c F M G := fun w0 ρ a w Q hF hW hQ => h w0 ρ a w Q (hF.mask p) hW hQ
theorem formP_ok {P : Program} {b : Code} {X : Type} {get : Fr → Mem → Option X} {form : X → Fr} {M0 : X → Mem} {C : X → Prop} {res : X → Tr (ExP × Fr × Mem)} {p : List Bool} (h : ∀ x, C x → ScopeTo P b (form x) (M0 x) (selP (res x))) : ∀ F M (H : ExP × Fr × Mem → Prop), (formP get form M0 C res p F M).Ok H → ScopeTo P b F M fun ex F' M' => H (ex, F', M') := fun F M H hok => by
  unfold formP at hok
  split at hok
  · rename_i x _
    have h1 := hok.1
    have h2 := hok.2.1
    rw [isSo_t] at h1 h2
    rw [h1.2]
    refine ScopeTo.mask p ?_
    rw [h1.1]
    intro w0 ρ a w Q hF hW hQ
    refine h x h2 w0 ρ a w Q hF hW fun ex F' M' ρ' a' w' hg q1 q2 => ?_
    cases ex with
    | pan k e =>
      obtain ⟨F2, M2, hg⟩ := hg
      exact hQ (.pan k e) F2 M2 ρ' a' w' (Tr.Ok.of_sel hok.2.2 hg) q1 q2
    | norm => exact hQ .norm F' M' ρ' a' w' (Tr.Ok.of_sel hok.2.2 hg) q1 q2
    | exit id => exact hQ (.exit id) F' M' ρ' a' w' (Tr.Ok.of_sel hok.2.2 hg) q1 q2
    | ret => exact hQ .ret F' M' ρ' a' w' (Tr.Ok.of_sel hok.2.2 hg) q1 q2
    | goto l => exact hQ (.goto l) F' M' ρ' a' w' (Tr.Ok.of_sel hok.2.2 hg) q1 q2
  · exact hok.elim
end Sy
structure HdR where
  bad : Bool
  pl : Int
  id : ByteArray
  cls : List ByteArray
  ats : List AttrV
noncomputable def atR (s : ByteArray) (a : Int) : AttrV := ⟨nmX s (a + 1), wdX s (atE s a + 1)⟩
def someB (i : ByteArray) : Bool := !bytesEq i.data.toList (ByteArray.mk (Array.mk [])).data.toList
noncomputable def hdR (s : ByteArray) : Nat → Int → ByteArray → List ByteArray → List AttrV → HdR
  | 0, a, i, cs, ats => ⟨false, a, i, cs, ats⟩
  | n + 1, a, i, cs, ats => match eqI (pkI s a) 35 with
    | true => (match someB i with
      | true => ⟨true, a, i, cs, ats⟩
      | false => match nmBad s (a + 1) with
        | true => ⟨true, nmK s (a + 1), i, cs, ats⟩
        | false => hdR s n (nmE s (a + 1)) (nmX s (a + 1)) cs ats)
    | false => match eqI (pkI s a) 46 with
      | true => (match leI 8 cs.length with
        | true => ⟨true, a, i, cs, ats⟩
        | false => match nmBad s (a + 1) with
          | true => ⟨true, nmK s (a + 1), i, cs, ats⟩
          | false => hdR s n (nmE s (a + 1)) i (cs ++ [nmX s (a + 1)]) ats)
      | false => match eqI (pkI s a) 91 with
        | true => (match leI 8 ats.length with
          | true => ⟨true, a, i, cs, ats⟩
          | false => match atBad s a with
            | true => ⟨true, atK s a, i, cs, ats⟩
            | false => hdR s n (atW s a + 1) i cs (ats ++ [atR s a]))
        | false => ⟨false, a, i, cs, ats⟩
namespace Sy
def CRows (n : Nat) (c : Nat → Nat → AV) (cs : List ByteArray) : Prop := n = cs.length ∧ ∀ (σ : Nat → Option Nat) i j, i < n → j < 1 → RenV σ (c i j) (hcell cs i j)
def ARows (n : Nat) (c : Nat → Nat → AV) (ats : List AttrV) : Prop := n = ats.length ∧ ∀ (σ : Nat → Option Nat) i j, i < n → j < 2 → RenV σ (c i j) (acell ats i j)
theorem hcell_free (cs : List ByteArray) (i j : Nat) : Free (hcell cs i j) := trivial
theorem acell_free (ats : List AttrV) (i j : Nat) : Free (acell ats i j) := by
  unfold acell
  split <;> trivial
theorem CRows.base (cs : List ByteArray) : CRows cs.length (hcell cs) cs := ⟨rfl, fun σ i j _ _ => RenV.free σ (hcell_free _ _ _)⟩
theorem ARows.base (ats : List AttrV) : ARows ats.length (acell ats) ats := ⟨rfl, fun σ i j _ _ => RenV.free σ (acell_free _ _ _)⟩
theorem CRows.app1 {n : Nat} {c c' : Nat → Nat → AV} {cs : List ByteArray} (x : ByteArray) (h : CRows n c cs) (hx : ∀ (σ : Nat → Option Nat), RenV σ (c' 0 0) (.lit (.string x))) : CRows (n + 1) (appc n c c') (cs ++ [x]) := ⟨by rw [h.1]; simp, fun σ i j hi hj => by
  have hl := h.1
  obtain rfl : j = 0 := by omega
  by_cases hlt : i < n
  · rw [appc_lt hlt]
    have h3 := h.2 σ i 0 hlt hj
    unfold hcell at h3 ⊢
    simp only [List.getD_eq_getElem?_getD] at h3 ⊢
    rw [List.getElem?_append_left (by omega)]
    exact h3
  · have e : i = n := by omega
    subst e
    rw [appc_ge (Nat.le_refl _), Nat.sub_self]
    have h3 := hx σ
    unfold hcell
    simp only [List.getD_eq_getElem?_getD]
    rw [List.getElem?_append_right (by omega), hl, Nat.sub_self]
    exact h3⟩
theorem ARows.app1 {n : Nat} {c c' : Nat → Nat → AV} {ats : List AttrV} (x : AttrV) (h : ARows n c ats) (hx : ∀ (σ : Nat → Option Nat) j, j < 2 → RenV σ (c' 0 j) (acell [x] 0 j)) : ARows (n + 1) (appc n c c') (ats ++ [x]) := ⟨by rw [h.1]; simp, fun σ i j hi hj => by
  have hl := h.1
  by_cases hlt : i < n
  · rw [appc_lt hlt]
    have h3 := h.2 σ i j hlt hj
    have : (ats ++ [x]).getD i attrNone = ats.getD i attrNone := by
      simp only [List.getD_eq_getElem?_getD]
      rw [List.getElem?_append_left (by omega)]
    unfold acell at h3 ⊢
    rw [this]
    exact h3
  · have e : i = n := by omega
    subst e
    rw [appc_ge (Nat.le_refl _), Nat.sub_self]
    have h3 := hx σ j hj
    have : (ats ++ [x]).getD i attrNone = [x].getD 0 attrNone := by
      simp only [List.getD_eq_getElem?_getD]
      rw [List.getElem?_append_right (by omega), hl, Nat.sub_self]
    unfold acell at h3 ⊢
    rw [this]
    exact h3⟩
theorem hdF_ren {x y : Nat} : RenF (nm [0, 1, 2, x, y]) hdF hdF := by
  simp only [RenF, and_true]
  exact ⟨⟨rfl, rfl⟩, ⟨rfl, rfl⟩, rfl, rfl⟩
theorem hd_ren {M : Mem} {s : ByteArray} {a : Int} {u : Value} {t i : ByteArray} {cs : List ByteArray} {ats : List AttrV} {x y n m : Nat} {ca cb : Nat → Nat → AV} (hd : [0, 1, 2, x, y].Nodup) (h0 : M.get 0 = some (mrB s a (.lit u))) (h1 : M.get 1 = some hdZ) (h2 : M.get 2 = some (hdB t i x n y m))
    (h3 : M.get x = some ⟨[], 9, some ⟨n, 1, ca⟩⟩) (h4 : M.get y = some ⟨[], 67, some ⟨m, 2, cb⟩⟩) (r1 : CRows n ca cs) (r2 : ARows m cb ats) : RenM (nm [0, 1, 2, x, y]) M (hdM s a u t i cs ats) := by
  refine .of rfl rfl hd ⟨⟨y, _, rfl, h4, rfl, trivial, r2.1.symm, rfl, fun i j hi hj => r2.2 _ i j (by have := r2.1; simp only at hi; omega) hj⟩, ⟨x, _, rfl, h3, rfl, trivial, r1.1.symm, rfl, fun i j hi hj => r1.2 _ i j (by have := r1.1; simp only at hi; omega) hj⟩, ⟨2, _, rfl, h2, rfl, ⟨rfl, rfl, rfl, ⟨rfl, r1.1, rfl⟩, ⟨rfl, r2.1, rfl⟩, rfl, trivial⟩, trivial⟩, ⟨1, _, rfl, h1, rfl, ⟨rfl, rfl, rfl, rfl, rfl, rfl, trivial⟩, trivial⟩, ⟨0, _, rfl, h0, rfl, ⟨rfl, rfl, rfl, trivial⟩, trivial⟩, trivial⟩
abbrev hdE (s : ByteArray) (u : Value) (t : ByteArray) (r : HdR) : Mem := ⟨5, 1, [some ⟨[], 67, some ⟨r.ats.length, 2, acell r.ats⟩⟩, some ⟨[], 9, some ⟨r.cls.length, 1, hcell r.cls⟩⟩, some (hdB t r.id 3 r.cls.length 4 r.ats.length), some (hdB t r.id 3 r.cls.length 4 r.ats.length), some (mrB s r.pl (.lit u))]⟩
end Sy
open Sy in
def HdG (s : ByteArray) (u : Value) (t : ByteArray) (r : HdR) (ex : ExP) (F : Fr) (M : Mem) : Prop := match r.bad with
  | true => ex = .pan r.pl 30
  | false => ex = .ret ∧ F = hdF ∧ M = hdE s u t r
open Sy in
def HdAt (s : ByteArray) (u : Value) (t : ByteArray) (n : Nat) : Prop := ∀ (a : Int) (i : ByteArray) (cs : List ByteArray) (ats : List AttrV), InM s a → s.size - a < n → cs.length ≤ 8 → ats.length ≤ 8 →
    JumpT 2 Try.prog (theScope Try.prog 39) (2 * n) (pieceAt (theScope Try.prog 39) 4) hdF (hdM s a u t i cs ats) (HdG s u t (hdR s n a i cs ats))
theorem Sy.hd_ati {s : ByteArray} {u : Value} {t : ByteArray} {n : Nat} (ih : HdAt s u t n) (a : Int) (i : ByteArray) (cs : List ByteArray) (ats : List AttrV) (h : InM s a) (h2 : s.size - a < n + 1) (hc : cs.length ≤ 8) (ha : ats.length ≤ 8) (q : eqI (pkI s a) 35 = true) :
    JumpT 2 Try.prog (theScope Try.prog 39) (2 * n + 1) (pieceAt (theScope Try.prog 39) 1) hdF (hdM s a u t i cs ats) (HdG s u t (hdR s (n + 1) a i cs ats)) := by
  have h0 := h.1
  have hl := h.2
  unfold limM at hl
  have hw : a < s.size → w64 (a + 1) = a + 1 := fun q => w64_in (by omega)
  have hlt := pk_lt (by decide) q
  have hz : InM s (a + 1) := ⟨by omega, h.2⟩
  refine segJ (n := 2 * n) 2 [cNam s] [pFail, pNam s] [] 400 30 39 1 (by kernel_rfl) (true :: false :: true :: true :: (ff13 (ff48 []))) (.br (.auto 0 .done) (.yes (.br .done (.yes .done)))) (let e1 := (@ByteArray.mk (@Array.mk _ [])); let e2 := (some (@Blk.mk [] 67 (some (@Rw.mk (ats).length 2 (@acell ats))))); let e3 := (some (@Blk.mk [] 9 (some (@Rw.mk (cs).length 1 (@hcell cs))))); let e4 := (some (@Blk.mk [(int (0 : Int)), (@AV.lit (@Value.string t)), (@AV.lit (@Value.string i)), (@AV.own 3 (cs).length 1), (@AV.own 4 (ats).length 2), (@AV.lit (@Value.string e1))] 40 none)); let e5 := (@AV.lit (@Value.string s)); let e6 := (w64 (a + (1 : Int))); let e7 := (some (@Blk.mk (e5 :: [(int e6), (@AV.lit u)]) 52 none)); let e8 := (e7 = (some (@Blk.mk [e5, (int e6), (@AV.lit u)] 52 none))); let e9 := (@And (@And ((0 : Int) ≤ e6) (e6 ≤ (((@ByteArray.size s) : Nat) : Int))) ((@ByteArray.size s) ≤ 1000000)); (.fork (!(@bytesEq (@Array.toList _ (@ByteArray.data i)) (@Array.toList _ (@ByteArray.data e1)))) (.leaf ((@ExP.pan a (Int.ofNat 30)), ([], (@Mem.mk 5 0 [e2, e3, e4, (some hdZ), (some (@Blk.mk [e5, (int a), (@AV.lit u)] 52 none))])))) (.need (@isSo (@And e8 (@And (([] : List AV) = []) e9))) (.fork (@nmBad s e6) (.leaf ((@ExP.pan (@nmK s e6) (Int.ofNat 30)), ([], (@Mem.mk 5 (0 + 1) [e2, e3, e4, (some hdZ), e7])))) (.need (@isSo (@And e8 (@And (([] : List AV) = []) (@And e9 ((@nmBad s e6) = false))))) (.leaf ((@ExP.goto 3), (((some (@AV.ptr 0 0)) :: none :: (some (@AV.ptr 1 0)) :: (some (@AV.ptr 2 0)) :: (nn13 (nn48 []))), (@Mem.mk 5 (((0 + 1) + 1) + 1) [e2, e3, (some (@Blk.mk ((int (0 : Int)) :: (@AV.lit (@Value.string t)) :: [(@AV.lit (@Value.string (@nmX s e6))), (@AV.own 3 (cs).length 1), (@AV.own 4 (ats).length 2), (@AV.lit (@Value.string e1))]) 40 none)), (some hdZ), (some (@Blk.mk [e5, (int (@nmE s e6)), (@AV.lit u)] 52 none))]))))))))) (by kernel_rfl) ?_
  rw [hw hlt]
  unfold hdR
  rw [q]
  refine fork_ok (fun r1 => ?_) (fun r1 => ?_)
  · have e : someB i = true := r1
    rw [e]
    exact rfl
  · have e : someB i = false := r1
    rw [e]
    refine need_so ⟨rfl, rfl, hz⟩ (fork_ok (fun r2 => ?_) (fun r2 => need_so ⟨rfl, rfl, hz, r2⟩ ?_))
    · rw [r2]
      exact rfl
    · rw [r2]
      have hE := nmE_in hz
      refine ⟨_, (by kernel_rfl : findLabel (theScope Try.prog 39) 3 = some (pieceAt (theScope Try.prog 39) 4)), ?_⟩
      exact JumpT.stamp 0 (ih _ _ _ _ hE.1 (by have := hE.2; omega) hc ha)
theorem Sy.hd_atc {s : ByteArray} {u : Value} {t : ByteArray} {n : Nat} (ih : HdAt s u t n) (a : Int) (i : ByteArray) (cs : List ByteArray) (ats : List AttrV) (h : InM s a) (h2 : s.size - a < n + 1) (hc : cs.length ≤ 8) (ha : ats.length ≤ 8) (q : eqI (pkI s a) 35 = false) (q2 : eqI (pkI s a) 46 = true) :
    JumpT 2 Try.prog (theScope Try.prog 39) (2 * n + 1) (pieceAt (theScope Try.prog 39) 2) hdF (hdM s a u t i cs ats) (HdG s u t (hdR s (n + 1) a i cs ats)) := by
  have h0 := h.1
  have hl := h.2
  unfold limM at hl
  have hw : a < s.size → w64 (a + 1) = a + 1 := fun q => w64_in (by omega)
  have hlt := pk_lt (by decide) q2
  have hz : InM s (a + 1) := ⟨by omega, h.2⟩
  refine segJ (n := 2 * n) 2 [cNam s, cRom s] [pFail, pNam s, pRom s] [] 400 30 39 2 (by kernel_rfl) (true :: false :: true :: true :: (ff13 (ff48 []))) (.yes (.br .done (.yes (.yes (.yes (.br .done (.yes (.yes (.yes (.yes .done)))))))))) (let e1 := (@AV.lit (@Value.string s)); let e2 := (some (@Blk.mk [e1, (int a), (@AV.lit u)] 52 none)); let e3 := (((cs).length : Nat) : Int); let e4 := (some (@Blk.mk [] 67 (some (@Rw.mk (ats).length 2 (@acell ats))))); let e5 := (some (@Blk.mk [] 9 (some (@Rw.mk (cs).length 1 (@hcell cs))))); let e6 := (@Value.string (@ByteArray.mk (@Array.mk _ []))); let e7 := (some (@Blk.mk [(int (0 : Int)), (@AV.lit (@Value.string t)), (@AV.lit (@Value.string i)), (@AV.own 3 (cs).length 1), (@AV.own 4 (ats).length 2), (@AV.lit e6)] 40 none)); let e8 := ((cs).length + 1); let e9 := (Bool.true && ((@Nat.ble (cs).length (cs).length) && ((@Nat.ble (e8 * 16) 140737488355328) && (@Nat.ble e8 17592186044416)))); let e10 := (w64 (a + (1 : Int))); let e11 := (some (@Blk.mk (e1 :: [(int e10), (@AV.lit u)]) 52 none)); let e12 := (e11 = (some (@Blk.mk [e1, (int e10), (@AV.lit u)] 52 none))); let e13 := (@And (@And ((0 : Int) ≤ e10) (e10 ≤ (((@ByteArray.size s) : Nat) : Int))) ((@ByteArray.size s) ≤ 1000000)); let e14 := (@AV.lit (@Value.string (@nmX s e10))); let e15 := (e14 :: (@List.drop _ (0 + ([e14]).length) (@List.map _ _ AV.lit (@Array.toList _ (@Array.mk _ [(@List.get _ (@Array.toList _ (@Array.mk _ [e6])) (@Fin.mk _ 0 (@Nat.le_of_ble_eq_true _ _ (@Eq.refl _ true))))]))))); (.need (@isSo (@And (e2 = e2) (@And ([(int e3)] = [(int e3)]) True))) (.fork (leI (8 : Int) e3) (.leaf ((@ExP.pan a (Int.ofNat 30)), ([], (@Mem.mk 5 0 [e4, e5, e7, (some hdZ), e2])))) (.need (@isSo (@And (e2 = e2) (@And ([(int e3)] = [(int e3)]) ((leI (8 : Int) e3) = false)))) (.need e9 (.need (@isSo (@And e12 (@And (([] : List AV) = []) e13))) (.fork (@nmBad s e10) (.leaf ((@ExP.pan (@nmK s e10) (Int.ofNat 30)), ([], (@Mem.mk 5 (0 + 1) [e4, e5, e7, (some hdZ), e11])))) (.need (@isSo (@And e12 (@And (([] : List AV) = []) (@And e13 ((@nmBad s e10) = false))))) (.need e9 (.need (eqI e3 e3) (.need (eqI e3 e3) (.leaf ((@ExP.goto 3), (((some (@AV.ptr 0 0)) :: none :: (some (@AV.ptr 1 0)) :: (some (@AV.ptr 2 0)) :: (nn13 (nn48 []))), (@Mem.mk ((5 + 1) + 1) ((((0 + 1) + 1) + 1) + 1) ((some (@Blk.mk [] 9 (some (@Rw.mk e8 1 (@appc (cs).length (@hcell cs) (fun y0 => (fun y1 => (@getA (@List.take _ 1 e15) ((y0 * 1) + y1))))))))) :: ((some (@Blk.mk e15 9 none)) :: [e4, none, (some (@Blk.mk [(int (0 : Int)), (@AV.lit (@Value.string t)), (@AV.lit (@Value.string i)), (@AV.own (5 + 1) e8 1), (@AV.own 4 (ats).length 2), (@AV.lit e6)] 40 none)), (some hdZ), (some (@Blk.mk [e1, (int (@nmE s e10)), (@AV.lit u)] 52 none))]))))))))))))))))) (by kernel_rfl) ?_
  rw [hw hlt]
  unfold hdR
  rw [q, q2]
  refine need_so ⟨rfl, rfl, trivial⟩ (fork_ok (fun r1 => ?_) (fun r1 => need_so ⟨rfl, rfl, r1⟩ ?_))
  · rw [r1]
    exact rfl
  · rw [r1]
    have r1' := r1
    rw [leI_f] at r1'
    have cap : (Bool.true && ((Nat.ble cs.length cs.length) && ((Nat.ble ((cs.length + 1) * 16) 140737488355328) && (Nat.ble (cs.length + 1) 17592186044416)))) = true := by
      simp only [Bool.true_and, Bool.and_eq_true, Nat.ble_eq]
      omega
    refine need_t cap (need_so ⟨rfl, rfl, hz⟩ (fork_ok (fun r2 => ?_) (fun r2 => need_so ⟨rfl, rfl, hz, r2⟩ (need_t cap (need_t (by rw [eqI_t]) (need_t (by rw [eqI_t]) ?_))))))
    · rw [r2]
      exact rfl
    · rw [r2]
      have hE := nmE_in hz
      refine ⟨_, (by kernel_rfl : findLabel (theScope Try.prog 39) 3 = some (pieceAt (theScope Try.prog 39) 4)), ?_⟩
      exact JumpT.ren [0, 1, 2, 6, 4] rfl hdF_ren (hd_ren (by decide) rfl rfl rfl rfl rfl (CRows.app1 _ (CRows.base _) fun σ => rfl) (ARows.base _)) (ih _ _ _ _ hE.1 (by have := hE.2; omega) (by simp; omega) ha)
theorem Sy.hd_ata {s : ByteArray} {u : Value} {t : ByteArray} {n : Nat} (ih : HdAt s u t n) (a : Int) (i : ByteArray) (cs : List ByteArray) (ats : List AttrV) (h : InM s a) (h2 : s.size - a < n + 1) (hc : cs.length ≤ 8) (ha : ats.length ≤ 8) (q : eqI (pkI s a) 35 = false) (q2 : eqI (pkI s a) 46 = false) (q3 : eqI (pkI s a) 91 = true) :
    JumpT 2 Try.prog (theScope Try.prog 39) (2 * n + 1) (pieceAt (theScope Try.prog 39) 3) hdF (hdM s a u t i cs ats) (HdG s u t (hdR s (n + 1) a i cs ats)) := by
  have h0 := h.1
  have hl := h.2
  unfold limM at hl
  have hw : a < s.size → w64 (a + 1) = a + 1 := fun q => w64_in (by omega)
  have hlt := pk_lt (by decide) q3
  refine segJ (n := 2 * n) 2 [cAtr s, cRom s] [pFail, pAtr s, pRom s] [] 400 30 39 3 (by kernel_rfl) (true :: false :: true :: true :: (ff13 (ff48 []))) (.yes (.br .done (.yes (.yes (.yes (.br .done (.yes (.yes (.yes (.yes .done)))))))))) (let e1 := (some (@Blk.mk [(@AV.lit (@Value.string s)), (int a), (@AV.lit u)] 52 none)); let e2 := (((ats).length : Nat) : Int); let e3 := (some (@Blk.mk [] 9 (some (@Rw.mk (cs).length 1 (@hcell cs))))); let e4 := (@Value.string (@ByteArray.mk (@Array.mk _ []))); let e5 := ((ats).length + 1); let e6 := (Bool.true && ((@Nat.ble (ats).length (ats).length) && ((@Nat.ble (e5 * 32) 140737488355328) && (@Nat.ble e5 17592186044416)))); let e7 := (@And (@And ((0 : Int) ≤ a) (a ≤ (((@ByteArray.size s) : Nat) : Int))) ((@ByteArray.size s) ≤ 1000000)); let e8 := (@AV.lit (@Value.string (@nmX s (a + (1 : Int))))); let e9 := (@AV.lit (@Value.string (@wdX s ((@atE s a) + (1 : Int))))); let e10 := (@Array.toList _ (@Array.mk _ [e4, e4])); let e11 := (e8 :: e9 :: (@List.drop _ (0 + ([e8, e9]).length) (@List.map _ _ AV.lit (@Array.toList _ (@Array.mk _ [(@List.get _ e10 (@Fin.mk _ 0 (@Nat.le_of_ble_eq_true _ _ (@Eq.refl _ true)))), (@List.get _ e10 (@Fin.mk _ 1 (@Nat.le_of_ble_eq_true _ _ (@Eq.refl _ true))))]))))); (.need (@isSo (@And (e1 = e1) (@And ([(int e2)] = [(int e2)]) True))) (.fork (leI (8 : Int) e2) (.leaf ((@ExP.pan a (Int.ofNat 30)), ([], (@Mem.mk 5 0 [(some (@Blk.mk [] 67 (some (@Rw.mk (ats).length 2 (@acell ats))))), e3, (some (@Blk.mk [(int (0 : Int)), (@AV.lit (@Value.string t)), (@AV.lit (@Value.string i)), (@AV.own 3 (cs).length 1), (@AV.own 4 (ats).length 2), (@AV.lit e4)] 40 none)), (some hdZ), e1])))) (.need (@isSo (@And (e1 = e1) (@And ([(int e2)] = [(int e2)]) ((leI (8 : Int) e2) = false)))) (.need e6 (.need (@isSo (@And (e1 = e1) (@And (([] : List AV) = []) e7))) (.fork (@atBad s a) (.leaf ((@ExP.pan (@atK s a) (Int.ofNat 30)), ([], (@Mem.mk 5 0 [(some (@Blk.mk [] 67 (some (@Rw.mk (ats).length 2 (@acell ats))))), e3, (some (@Blk.mk [(int (0 : Int)), (@AV.lit (@Value.string t)), (@AV.lit (@Value.string i)), (@AV.own 3 (cs).length 1), (@AV.own 4 (ats).length 2), (@AV.lit e4)] 40 none)), (some hdZ), e1])))) (.need (@isSo (@And (e1 = e1) (@And (([] : List AV) = []) (@And e7 ((@atBad s a) = false))))) (.need e6 (.need (eqI e2 e2) (.need (eqI e2 e2) (.leaf ((@ExP.goto 3), (((some (@AV.ptr 0 0)) :: none :: (some (@AV.ptr 1 0)) :: (some (@AV.ptr 2 0)) :: (nn13 (nn48 []))), (@Mem.mk ((5 + 1) + 1) (((0 + 1) + 1) + 1) ((some (@Blk.mk [] 67 (some (@Rw.mk e5 2 (@appc (ats).length (@acell ats) (fun y0 => (fun y1 => (@getA (@List.take _ 2 e11) ((y0 * 2) + y1))))))))) :: ((some (@Blk.mk e11 67 none)) :: [none, e3, (some (@Blk.mk [(int (0 : Int)), (@AV.lit (@Value.string t)), (@AV.lit (@Value.string i)), (@AV.own 3 (cs).length 1), (@AV.own (5 + 1) e5 2), (@AV.lit e4)] 40 none)), (some hdZ), (some (@Blk.mk [(@AV.lit (@Value.string s)), (int ((@atW s a) + (1 : Int))), (@AV.lit u)] 52 none))]))))))))))))))))) (by kernel_rfl) ?_
  unfold hdR
  rw [q, q2, q3]
  refine need_so ⟨rfl, rfl, trivial⟩ (fork_ok (fun r1 => ?_) (fun r1 => need_so ⟨rfl, rfl, r1⟩ ?_))
  · rw [r1]
    exact rfl
  · rw [r1]
    have r1' := r1
    rw [leI_f] at r1'
    have cap : (Bool.true && ((Nat.ble ats.length ats.length) && ((Nat.ble ((ats.length + 1) * 32) 140737488355328) && (Nat.ble (ats.length + 1) 17592186044416)))) = true := by
      simp only [Bool.true_and, Bool.and_eq_true, Nat.ble_eq]
      omega
    refine need_t cap (need_so ⟨rfl, rfl, h⟩ (fork_ok (fun r2 => ?_) (fun r2 => need_so ⟨rfl, rfl, h, r2⟩ (need_t cap (need_t (by rw [eqI_t]) (need_t (by rw [eqI_t]) ?_))))))
    · rw [r2]
      exact rfl
    · rw [r2]
      have hE := at_in h r2
      refine ⟨_, (by kernel_rfl : findLabel (theScope Try.prog 39) 3 = some (pieceAt (theScope Try.prog 39) 4)), ?_⟩
      exact JumpT.ren [0, 1, 2, 3, 6] rfl hdF_ren (hd_ren (by decide) rfl rfl rfl rfl rfl (CRows.base _) (ARows.app1 _ (ARows.base _) fun σ j hj => by
        rcases j with _ | _ | j
        · exact rfl
        · exact rfl
        · omega)) (ih _ _ _ _ hE.1 (by have := hE.2; omega) hc (by simp; omega))
theorem Sy.hd_loop (s : ByteArray) (u : Value) (t : ByteArray) : ∀ (n : Nat), HdAt s u t n := by
  intro n
  induction n with
  | zero => intro a i cs ats h h2; have := h.1; omega
  | succ n ih =>
    intro a i cs ats h h2 hc ha
    have h0 := h.1
    have hl := h.2
    unfold limM at hl
    refine segJ (n := 2 * n + 1) 2 [cPek s] [pFail] [] 400 30 39 4 (by kernel_rfl) (true :: false :: true :: true :: (ff13 (ff48 []))) (.yes (.br .done (.br .done (.br .done .done)))) (let e1 := (some (@Blk.mk [(@AV.lit (@Value.string s)), (int a), (@AV.lit u)] 52 none)); let e2 := (some (@Blk.mk [] 67 (some (@Rw.mk (ats).length 2 (@acell ats))))); let e3 := (some (@Blk.mk [] 9 (some (@Rw.mk (cs).length 1 (@hcell cs))))); let e4 := (some (@Blk.mk [(int (0 : Int)), (@AV.lit (@Value.string t)), (@AV.lit (@Value.string i)), (@AV.own 3 (cs).length 1), (@AV.own 4 (ats).length 2), (@AV.lit (@Value.string (@ByteArray.mk (@Array.mk _ []))))] 40 none)); (.need (@isSo (@And (e1 = e1) (@And (([] : List AV) = []) (@And (@And ((0 : Int) ≤ a) (a ≤ (((@ByteArray.size s) : Nat) : Int))) ((@ByteArray.size s) ≤ 1000000))))) (.fork (eqI (@pkI s a) (35 : Int)) (.leaf ((@ExP.goto 0), (((some (@AV.ptr 0 0)) :: none :: (some (@AV.ptr 1 0)) :: (some (@AV.ptr 2 0)) :: (nn13 (nn48 []))), (@Mem.mk 5 0 [e2, e3, e4, (some hdZ), e1])))) (.fork (eqI (@pkI s a) (46 : Int)) (.leaf ((@ExP.goto 1), (((some (@AV.ptr 0 0)) :: none :: (some (@AV.ptr 1 0)) :: (some (@AV.ptr 2 0)) :: (nn13 (nn48 []))), (@Mem.mk 5 0 [e2, e3, e4, (some hdZ), e1])))) (.fork (eqI (@pkI s a) (91 : Int)) (.leaf ((@ExP.goto 2), (((some (@AV.ptr 0 0)) :: none :: (some (@AV.ptr 1 0)) :: (some (@AV.ptr 2 0)) :: (nn13 (nn48 []))), (@Mem.mk 5 0 [e2, e3, e4, (some hdZ), e1])))) (.leaf (ExP.ret, (((some (@AV.ptr 0 0)) :: none :: (some (@AV.ptr 1 0)) :: (some (@AV.ptr 2 0)) :: (nn13 (nn48 []))), (@Mem.mk 5 (0 + 1) [e2, e3, e4, e4, e1]))))))))) (by kernel_rfl) ?_
    have hw : a < s.size → w64 (a + 1) = a + 1 := fun q => w64_in (by omega)
    refine need_so ⟨rfl, rfl, h⟩ (fork_ok (fun q => ?_) (fun q => fork_ok (fun q2 => ?_) (fun q2 => fork_ok (fun q3 => ?_) (fun q3 => ?_))))
    · exact ⟨_, (by kernel_rfl : findLabel (theScope Try.prog 39) 0 = some (pieceAt (theScope Try.prog 39) 1)), hd_ati ih a i cs ats h h2 hc ha q⟩
    · exact ⟨_, (by kernel_rfl : findLabel (theScope Try.prog 39) 1 = some (pieceAt (theScope Try.prog 39) 2)), hd_atc ih a i cs ats h h2 hc ha q q2⟩
    · exact ⟨_, (by kernel_rfl : findLabel (theScope Try.prog 39) 2 = some (pieceAt (theScope Try.prog 39) 3)), hd_ata ih a i cs ats h h2 hc ha q q2 q3⟩
    · unfold hdR
      rw [q, q2, q3]
      exact ⟨rfl, rfl, rfl⟩
end Go.Proofs.Ytglkdhmikpejnaa
namespace Go.Proofs.Ytglkdhmikpejnaa
open Go Go.RowKit Pl Sy
noncomputable def hedR (s : ByteArray) (a : Int) : HdR := match nmBad s a with
  | true => ⟨true, nmK s a, ⟨⟨[]⟩⟩, [], []⟩
  | false => hdR s (s.size + 1) (nmE s a) ⟨⟨[]⟩⟩ [] []
def mkB (c : Int) : Bool := eqI c 35 || (eqI c 46 || eqI c 91)
noncomputable def hedN (s : ByteArray) (a : Int) : NdV := ⟨0, nmX s a, (hedR s a).id, (hedR s a).cls, (hedR s a).ats, ⟨⟨[]⟩⟩⟩
namespace Sy
abbrev hdB0 (t : ByteArray) : Blk := ⟨[int 0, .lit (.string t), .lit (.string ⟨⟨[]⟩⟩), .lit (.slice none 0 0), .lit (.slice none 0 0), .lit (.string ⟨⟨[]⟩⟩)], 40, none⟩
abbrev hdE0 (s : ByteArray) (u : Value) (t : ByteArray) (a : Int) : Mem := ⟨3, 3, [some (hdB0 t), some (hdB0 t), some (mrB s a (.lit u))]⟩
noncomputable def hdT (s : ByteArray) (u : Value) (a : Int) : Tr (ExP × Fr × Mem) := .fork (nmBad s a) (.leaf (.pan (nmK s a) 30, [], hdM0 s a u)) (.fork (mkB (pkI s (nmE s a))) (.fork (hedR s a).bad (.leaf (.pan (hedR s a).pl 30, [], hdM0 s a u)) (.leaf (.ret, hdF, hdE s u (nmX s a) (hedR s a)))) (.leaf (.ret, hdF, hdE0 s u (nmX s a) (nmE s a))))
theorem hd_all (s : ByteArray) (u : Value) (a : Int) (h : InM s a) : ScopeTo Try.prog (theScope Try.prog 39) hdF0 (hdM0 s a u) (selP (hdT s u a)) := by
  have hE := nmE_in h
  have hE1 := hE.1.1
  have go : nmBad s a = false → mkB (pkI s (nmE s a)) = true → ∀ (l : Nat) (st : Nat), True → ∀ (M : Mem), M = ⟨3, st, [some (hdB0 (nmX s a)), some hdZ, some (mrB s (nmE s a) (.lit u))]⟩ → ∀ n x, JumpT 2 Try.prog (theScope Try.prog 39) n x hdF (hdM s (nmE s a) u (nmX s a) ⟨⟨[]⟩⟩ [] []) (selP (hdT s u a)) → JumpT 2 Try.prog (theScope Try.prog 39) n x hdF M (selP (hdT s u a)) := fun q1 q2 l st _ M hM n x hJ => by
    subst hM
    refine JumpT.nilc 2 3 _ 9 1 (hcell []) (show 2 ≤ 3 by decide) rfl rfl ?_
    refine JumpT.nilc 2 4 _ 67 2 (acell []) (show 2 ≤ 4 by decide) rfl rfl ?_
    exact JumpT.stamp 0 hJ
  have fin : nmBad s a = false → mkB (pkI s (nmE s a)) = true → ∀ ex F M, HdG s u (nmX s a) (hdR s (s.size + 1) (nmE s a) ⟨⟨[]⟩⟩ [] []) ex F M → selP (hdT s u a) ex F M := fun q1 q2 ex F M hg => by
    have e : hedR s a = hdR s (s.size + 1) (nmE s a) ⟨⟨[]⟩⟩ [] [] := by unfold hedR; rw [q1]
    rw [← e] at hg
    unfold HdG at hg
    cases hb : (hedR s a).bad with
    | true =>
      rw [hb] at hg
      simp only at hg
      subst hg
      refine ⟨[], hdM0 s a u, ?_⟩
      show (hdT s u a).sel _
      unfold hdT
      exact .inr ⟨q1, .inl ⟨q2, .inl ⟨hb, rfl⟩⟩⟩
    | false =>
      rw [hb] at hg
      simp only at hg
      obtain ⟨rfl, rfl, rfl⟩ := hg
      show (hdT s u a).sel _
      unfold hdT
      exact .inr ⟨q1, .inl ⟨q2, .inr ⟨hb, rfl⟩⟩⟩
  have sc : ∀ {l : Nat} (x : Code), findLabel (theScope Try.prog 39) l = some x → JumpT 2 Try.prog (theScope Try.prog 39) (2 * s.size + 1) x hdF (hdM s (nmE s a) u (nmX s a) ⟨⟨[]⟩⟩ [] []) (HdG s u (nmX s a) (hdR s (s.size + 1) (nmE s a) ⟨⟨[]⟩⟩ [] [])) → nmBad s a = false → mkB (pkI s (nmE s a)) = true → ∀ st, ∃ rest, findLabel (theScope Try.prog 39) l = some rest ∧ JumpT 2 Try.prog (theScope Try.prog 39) (2 * s.size + 1) rest hdF ⟨3, st, [some (hdB0 (nmX s a)), some hdZ, some (mrB s (nmE s a) (.lit u))]⟩ (selP (hdT s u a)) := fun x hx hJ q1 q2 st =>
    ⟨x, hx, go q1 q2 0 st trivial _ rfl _ _ (hJ.mono (fin q1 q2))⟩
  have lp := hd_loop s u (nmX s a) s.size
  refine JumpT.to (T := 2) (n := 2 * s.size + 1 + 1) ?_ (Nat.le_refl _)
  refine segJ (n := 2 * s.size + 1) 2 [cPek s, cNam s] [pFail, pNam s] [] 400 30 39 0 (by kernel_rfl) (true :: false :: true :: true :: (ff13 (ff48 []))) (.yes (.br .done (.yes (.yes (.br .done (.br .done (.br .done .done))))))) (let e1 := (some (@Blk.mk [(@AV.lit (@Value.string s)), (int a), (@AV.lit u)] 52 none)); let e2 := (([] : List AV) = []); let e3 := (((@ByteArray.size s) : Nat) : Int); let e4 := ((@ByteArray.size s) ≤ 1000000); let e5 := (@And (@And ((0 : Int) ≤ a) (a ≤ e3)) e4); let e6 := (some (@Blk.mk [(@AV.lit (@Value.string s)), (int (@nmE s a)), (@AV.lit u)] 52 none)); let e7 := (@pkI s (@nmE s a)); let e8 := (int (0 : Int)); let e9 := (@AV.lit (@Value.string (@nmX s a))); let e10 := (@Value.string (@ByteArray.mk (@Array.mk _ []))); let e11 := (@AV.lit e10); let e12 := (@Value.slice none 0 0); let e13 := (@AV.lit e12); let e14 := (some (@Blk.mk (e8 :: (e9 :: (e11 :: e13 :: e13 :: e11 :: (@List.drop _ (0 + ((e8 :: (e9 :: (@List.drop _ (1 + ([e9]).length) (@List.map _ _ AV.lit (@Array.toList _ (@Array.mk _ [(@Value.int IntKind.i64 (0 : Int)), e10, e10, e12, e12, e10]))))))).length) [e8, e11, e11, e13, e13, e11])))) 40 none)); (.need (@isSo (@And (e1 = e1) (@And e2 e5))) (.fork (@nmBad s a) (.leaf ((@ExP.pan (@nmK s a) (Int.ofNat 30)), ([], (@Mem.mk 2 0 [(some hdZ), e1])))) (.need (@isSo (@And (e1 = e1) (@And e2 (@And e5 ((@nmBad s a) = false))))) (.need (@isSo (@And (e6 = e6) (@And e2 (@And (@And ((0 : Int) ≤ (@nmE s a)) ((@nmE s a) ≤ e3)) e4)))) (.fork (eqI e7 (35 : Int)) (.leaf ((@ExP.goto 0), (((some (@AV.ptr 0 0)) :: none :: (some (@AV.ptr 1 0)) :: (some (@AV.ptr 2 0)) :: (nn13 (nn48 []))), (@Mem.mk (2 + 1) ((0 + 1) + 1) (e14 :: [(some hdZ), e6]))))) (.fork (eqI e7 (46 : Int)) (.leaf ((@ExP.goto 1), (((some (@AV.ptr 0 0)) :: none :: (some (@AV.ptr 1 0)) :: (some (@AV.ptr 2 0)) :: (nn13 (nn48 []))), (@Mem.mk (2 + 1) ((0 + 1) + 1) (e14 :: [(some hdZ), e6]))))) (.fork (eqI e7 (91 : Int)) (.leaf ((@ExP.goto 2), (((some (@AV.ptr 0 0)) :: none :: (some (@AV.ptr 1 0)) :: (some (@AV.ptr 2 0)) :: (nn13 (nn48 []))), (@Mem.mk (2 + 1) ((0 + 1) + 1) (e14 :: [(some hdZ), e6]))))) (.leaf (ExP.ret, (((some (@AV.ptr 0 0)) :: none :: (some (@AV.ptr 1 0)) :: (some (@AV.ptr 2 0)) :: (nn13 (nn48 []))), (@Mem.mk (2 + 1) (((0 + 1) + 1) + 1) (e14 :: [(some (@Blk.mk (e8 :: (e9 :: [e11, e13, e13, e11])) 40 none)), e6]))))))))))))) (by kernel_rfl) ?_
  refine need_so ⟨rfl, rfl, h⟩ (fork_ok (fun q => ?_) (fun q => need_so ⟨rfl, rfl, h, q⟩ (need_so ⟨rfl, rfl, hE.1⟩ (fork_ok (fun q2 => ?_) (fun q2 => fork_ok (fun q3 => ?_) (fun q3 => fork_ok (fun q4 => ?_) (fun q4 => ?_)))))))
  · refine ⟨[], hdM0 s a u, ?_⟩
    show (hdT s u a).sel _
    unfold hdT
    exact .inl ⟨q, rfl⟩
  · exact sc _ (by kernel_rfl : findLabel (theScope Try.prog 39) 0 = some (pieceAt (theScope Try.prog 39) 1)) (hd_ati lp _ _ _ _ hE.1 (by omega) (Nat.zero_le _) (Nat.zero_le _) q2) q (by unfold mkB; rw [q2]; rfl) _
  · exact sc _ (by kernel_rfl : findLabel (theScope Try.prog 39) 1 = some (pieceAt (theScope Try.prog 39) 2)) (hd_atc lp _ _ _ _ hE.1 (by omega) (Nat.zero_le _) (Nat.zero_le _) q2 q3) q (by unfold mkB; rw [q2, q3]; rfl) _
  · exact sc _ (by kernel_rfl : findLabel (theScope Try.prog 39) 2 = some (pieceAt (theScope Try.prog 39) 3)) (hd_ata lp _ _ _ _ hE.1 (by omega) (Nat.zero_le _) (Nat.zero_le _) q2 q3 q4) q (by unfold mkB; rw [q2, q3, q4]; rfl) _
  · show (hdT s u a).sel _
    unfold hdT
    exact .inr ⟨q, .inr ⟨by unfold mkB; rw [q2, q3, q4]; rfl, rfl⟩⟩
noncomputable def hdGet (F : Fr) (M : Mem) : Option Int := match M.bs with
  | [_, some ⟨[_, .lit (.int _ b), _], _, _⟩] => some b
  | _ => none
noncomputable abbrev scHd (s : ByteArray) (u : Value) : Sc Try.prog 39 where
  S := formP hdGet (fun _ => hdF0) (fun a => hdM0 s a u) (fun a => InM s a) (fun a => hdT s u a) (true :: false :: true :: (ff14 (ff48 [])))
  one := by kernel_rfl
  ok := formP_ok fun a h => hd_all s u a h
end Sy
theorem hedR_plain {s : ByteArray} {a : Int} (q : nmBad s a = false) (h : mkB (pkI s (nmE s a)) = false) : hedR s a = ⟨false, nmE s a, ⟨⟨[]⟩⟩, [], []⟩ := by
  unfold mkB at h
  rw [Bool.or_eq_false_iff, Bool.or_eq_false_iff] at h
  unfold hedR
  rw [q]
  unfold hdR
  rw [h.1, h.2.1, h.2.2]
theorem hdR_in {s : ByteArray} : ∀ (n : Nat) (a : Int) (i : ByteArray) (cs : List ByteArray) (ats : List AttrV), InM s a → (hdR s n a i cs ats).bad = false → InM s (hdR s n a i cs ats).pl ∧ a ≤ (hdR s n a i cs ats).pl := by
  intro n
  induction n with
  | zero => intro a i cs ats h hb; exact ⟨h, Int.le_refl a⟩
  | succ n ih =>
    intro a i cs ats h hb
    have h0 := h.1
    unfold hdR at hb ⊢
    split
    · rename_i q
      rw [q] at hb
      have hlt := pk_lt (by decide) q
      have hz := nmE_in (s := s) (a := a + 1) ⟨by omega, h.2⟩
      simp only at hb
      split
      · rename_i e; rw [e] at hb; cases hb
      · rename_i e
        rw [e] at hb
        simp only at hb
        split
        · rename_i e; rw [e] at hb; cases hb
        · rename_i e
          rw [e] at hb
          have := ih _ _ _ _ hz.1 hb
          exact ⟨this.1, by have := this.2; have := hz.2; omega⟩
    · rename_i q
      rw [q] at hb
      simp only at hb
      split
      · rename_i q
        rw [q] at hb
        have hlt := pk_lt (by decide) q
        have hz := nmE_in (s := s) (a := a + 1) ⟨by omega, h.2⟩
        simp only at hb
        split
        · rename_i e; rw [e] at hb; cases hb
        · rename_i e
          rw [e] at hb
          simp only at hb
          split
          · rename_i e; rw [e] at hb; cases hb
          · rename_i e
            rw [e] at hb
            have := ih _ _ _ _ hz.1 hb
            exact ⟨this.1, by have := this.2; have := hz.2; omega⟩
      · rename_i q
        rw [q] at hb
        simp only at hb
        split
        · rename_i q
          rw [q] at hb
          simp only at hb
          split
          · rename_i e; rw [e] at hb; cases hb
          · rename_i e
            rw [e] at hb
            simp only at hb
            split
            · rename_i e; rw [e] at hb; cases hb
            · rename_i e
              rw [e] at hb
              have hz := at_in h e
              have := ih _ _ _ _ hz.1 hb
              exact ⟨this.1, by have := this.2; have := hz.2; omega⟩
        · exact ⟨h, Int.le_refl a⟩
theorem hed_in {s : ByteArray} {a : Int} (h : InM s a) (hb : (hedR s a).bad = false) : InM s (hedR s a).pl ∧ a ≤ (hedR s a).pl := by
  have hE := nmE_in h
  unfold hedR at hb ⊢
  split
  · rename_i e; rw [e] at hb; cases hb
  · rename_i e
    rw [e] at hb
    have := hdR_in _ _ _ _ _ hE.1 hb
    exact ⟨this.1, by have := this.2; have := hE.2; omega⟩
def HedR (s : ByteArray) (a : Int) (u : Value) (r : RP) : Prop := match r with
  | .ret v M' => (hedR s a).bad = false ∧ Frz true 1 M' v (ndG (hedN s a)) ∧ M'.get 0 = some (mrB s (hedR s a).pl (.lit u))
  | .pan k e => (hedR s a).bad = true ∧ k = (hedR s a).pl ∧ e = 30
theorem Sy.Frz.nilv {keep : Bool} {T : Nat} {M : Mem} (s : Nat) (cell : Nat → Nat → AV) : Frz keep T M (.lit (.slice none 0 0)) (.view 0 s cell) := fun w0 ρ w u hW hm hr => by
  simp only [rel] at hr ⊢
  subst hr
  exact ⟨none, 0, rfl, Nat.le_refl _, by unfold maxLen; omega, fun _ => rfl, fun h => by omega⟩
theorem Sy.hed_t (s : ByteArray) (a : Int) (h : InM s a) (u : Value) : CallP Try.prog 39 [.ptr 0 0] (mrM s a u) (HedR s a u) :=
  toS [] [] [] [] (scHd s u) 400 30 (.br .done (.br (.br .done .done) .done)) (let e1 := (int (0 : Int)); let e2 := (@AV.lit (@Value.string (@ByteArray.mk (@Array.mk _ [])))); let e3 := (@AV.lit (@Value.slice none 0 0)); let e4 := (@AV.lit (@Value.string s)); let e5 := (some (@Blk.mk [e4, (int a), (@AV.lit u)] 52 none)); let e6 := (@AV.lit (@Value.string (@nmX s a))); let e7 := (@AV.lit (@Value.string ((@hedR s a)).id)); let e8 := (@AV.own 3 (((@hedR s a)).cls).length 1); let e9 := (@AV.own 4 (((@hedR s a)).ats).length 2); let e10 := (some (@Blk.mk [e1, e6, e7, e8, e9, e2] 40 none)); let e11 := (some (@Blk.mk [e1, e6, e2, e3, e3, e2] 40 none)); (.need (@isSo (@And (((some (@AV.ptr 0 0)) :: none :: (some (@AV.ptr 1 0)) :: (nn14 (nn48 []))) = hdF0) ((@Mem.mk (1 + 1) 0 [(some (@Blk.mk [e1, e2, e2, e3, e3, e2] 40 none)), e5]) = (@Mem.mk 2 0 [(some hdZ), e5])))) (.need (@isSo (@And (@And ((0 : Int) ≤ a) (a ≤ (((@ByteArray.size s) : Nat) : Int))) ((@ByteArray.size s) ≤ 1000000))) (.fork (@nmBad s a) (.leaf (@RP.pan (@nmK s a) (30 : Int))) (.fork (@mkB (@pkI s (@nmE s a))) (.fork ((@hedR s a)).bad (.leaf (@RP.pan ((@hedR s a)).pl (30 : Int))) (.leaf (@RP.ret (@AV.agg [e1, e6, e7, e8, e9, e2]) (@Mem.mk 5 1 [(some (@Blk.mk [] 67 (some (@Rw.mk (((@hedR s a)).ats).length 2 (@acell ((@hedR s a)).ats))))), (some (@Blk.mk [] 9 (some (@Rw.mk (((@hedR s a)).cls).length 1 (@hcell ((@hedR s a)).cls))))), e10, e10, (some (@Blk.mk [e4, (int ((@hedR s a)).pl), (@AV.lit u)] 52 none))])))) (.leaf (@RP.ret (@AV.agg [e1, e6, e2, e3, e3, e2]) (@Mem.mk 3 3 [e11, e11, (some (@Blk.mk [e4, (int (@nmE s a)), (@AV.lit u)] 52 none))])))))))) (by kernel_rfl) (by
    refine need_so ⟨rfl, rfl⟩ (need_so h (fork_ok (fun q => ?_) (fun q => fork_ok (fun q2 => fork_ok (fun q3 => ?_) (fun q3 => ?_)) (fun q2 => ?_))))
    · have e : hedR s a = ⟨true, nmK s a, ⟨⟨[]⟩⟩, [], []⟩ := by unfold hedR; rw [q]
      exact ⟨by rw [e], by rw [e], rfl⟩
    · exact ⟨q3, rfl, rfl⟩
    · exact ⟨q3, Frz.agg ⟨Frz.lit _ _ _ _, Frz.lit _ _ _ _, Frz.lit _ _ _ _, Frz.own (by decide) rfl rfl (Nat.le_refl _) rfl fun i j _ hj => by
        obtain rfl : j = 0 := by omega
        exact Frz.lit _ _ _ _, Frz.own (by decide) rfl rfl (Nat.le_refl _) rfl fun i j _ hj => by
        rcases j with _ | _ | j
        · exact Frz.lit _ _ _ _
        · exact Frz.lit _ _ _ _
        · omega, Frz.lit _ _ _ _, trivial⟩, rfl⟩
    · have e := hedR_plain q q2
      have e2 : hedN s a = ⟨0, nmX s a, ⟨⟨[]⟩⟩, [], [], ⟨⟨[]⟩⟩⟩ := by unfold hedN; rw [e]
      refine ⟨by rw [e], ?_, by rw [e]; rfl⟩
      rw [e2]
      exact Frz.agg ⟨Frz.lit _ _ _ _, Frz.lit _ _ _ _, Frz.lit _ _ _ _, Frz.nilv _ _, Frz.nilv _ _, Frz.lit _ _ _ _, trivial⟩)
noncomputable abbrev Sy.cHed (s : ByteArray) : Con Try.prog := conM s 39 (fun r => match r with | [] => some () | _ => none) (fun _ => []) (fun a _ => ndG (hedN s a)) (fun a _ => (hedR s a).pl) (fun a _ => InM s a ∧ (hedR s a).bad = false) fun a _ h => ⟨⟨trivial, ndG_free _⟩, fun u => ((hed_t s a h.1 u).to fun k e hg => by have := hg.1; rw [h.2] at this; cases this).mono fun v M' hg => hg.2⟩
noncomputable abbrev Sy.pHed (s : ByteArray) : PCon Try.prog := panM s 39 (ndG ndNone) (fun r => match r with | [] => some () | _ => none) (fun _ => []) (fun a _ => (hedR s a).bad) (fun a _ => (hedR s a).pl) (fun _ _ => 30) (fun a _ => InM s a) fun a _ h hb => ⟨trivial, fun u => (hed_t s a h u).pan (fun v M' hg => by have := hg.1; rw [hb] at this; cases this) fun k e hg => hg.2⟩
end Go.Proofs.Ytglkdhmikpejnaa
namespace Go.Proofs.Ytglkdhmikpejnaa
open Go Go.RowKit Pl Sy
namespace Sy
abbrev trF (fr n k : Int) : Fr := (some (.ptr 0 0) :: none :: some (int fr) :: some (int n) :: some (int k) :: (nn29 (nn48 (nn48 []))))
abbrev trM (s : ByteArray) (a : Int) (ns : List NdV) (os : List Int) : Mem := ⟨4, 0, [some (irowB os), some (nrowB ns), some (bdB 2 ns.length 3 os.length), some (mrB s a (.ptr 1 0))]⟩
end Sy
end Go.Proofs.Ytglkdhmikpejnaa
namespace Go.Proofs.Ytglkdhmikpejnaa
open Go Go.RowKit Pl Sy
def At (s : ByteArray) (a : Int) (l : List UInt8) : Prop := 0 ≤ a ∧ s.data.toList.drop a.toNat = l ∧ a + l.length = s.size
theorem size_toList (s : ByteArray) : s.size = s.data.toList.length := rfl
theorem At.of {s : ByteArray} {a : Int} (h : InM s a) : At s a (s.data.toList.drop a.toNat) := ⟨h.1.1, rfl, by
  have := h.1
  rw [List.length_drop, ← size_toList]
  omega⟩
theorem At.skip {s : ByteArray} {a : Int} {x r : List UInt8} (h : At s a (x ++ r)) : At s (a + x.length) r := by
  obtain ⟨h1, h2, h3⟩ := h
  refine ⟨by omega, ?_, by rw [List.length_append] at h3; omega⟩
  rw [show (a + (x.length : Int)).toNat = a.toNat + x.length by omega, ← List.drop_drop, h2, List.drop_left]
theorem At.tail {s : ByteArray} {a : Int} {c : UInt8} {r : List UInt8} (h : At s a (c :: r)) : At s (a + 1) r := At.skip (x := [c]) h
theorem At.byte {s : ByteArray} {a : Int} {c : UInt8} {r : List UInt8} (h : At s a (c :: r)) : a < s.size ∧ byteAt s a.toNat = c.toNat := by
  obtain ⟨h1, h2, h3⟩ := h
  rw [List.length_cons] at h3
  have hlt : a.toNat < s.size := by omega
  refine ⟨by omega, ?_⟩
  rw [byteAt_eq hlt]
  have e : (s.data.toList.drop a.toNat)[0]? = some c := by rw [h2]; rfl
  rw [List.getElem?_drop, Nat.add_zero] at e
  have e2 : s.data.toList[a.toNat]? = some s[a.toNat] := by
    rw [List.getElem?_eq_getElem (by rw [← size_toList]; exact hlt)]
    rfl
  rw [e2] at e
  simp at e
  rw [e]
theorem At.pk {s : ByteArray} {a : Int} {c : UInt8} {r : List UInt8} (h : At s a (c :: r)) : pkI s a = c.toNat := by
  rw [pk_in h.byte.1, h.byte.2]
theorem At.pk0 {s : ByteArray} {a : Int} (h : At s a []) : pkI s a = 0 := pk_end (by have := h.2.2; simp at this; omega)
theorem At.sc (g : Int → Bool) {s : ByteArray} : ∀ {l : List UInt8} {a : Int}, At s a l → scI g s a = a + (l.takeWhile fun c => g c.toNat).length
  | [], a, h => by
    rw [scI_step g s a h.1, if_neg (fun q => by have := h.2.2; simp at this; omega)]
    simp
  | c :: l, a, h => by
    rw [scI_step g s a h.1, h.byte.2]
    by_cases hc : g (c.toNat : Int) = true
    · rw [if_pos ⟨h.byte.1, hc⟩, At.sc g h.tail, List.takeWhile_cons, if_pos hc, List.length_cons]
      omega
    · rw [if_neg (fun q => hc q.2), List.takeWhile_cons, if_neg hc]
      simp
theorem At.cut {s : ByteArray} {a : Int} {x r : List UInt8} (h : At s a (x ++ r)) : (s.extract a.toNat (a + x.length).toNat).data.toList = x := by
  obtain ⟨h1, h2, h3⟩ := h
  rw [List.length_append] at h3
  rw [ByteArray.data_extract, Array.toList_extract, List.extract_eq_take_drop, show (a + (x.length : Int)).toNat - a.toNat = x.length by omega]
  have : List.drop a.toNat s.data.toList = x ++ r := h2
  rw [this, List.take_left]
theorem At.cutW (g : Int → Bool) {s : ByteArray} {a : Int} {l : List UInt8} (h : At s a l) : (s.extract a.toNat (scI g s a).toNat).data.toList = l.takeWhile fun c => g c.toNat := by
  rw [h.sc g]
  have h' := h
  rw [← List.takeWhile_append_dropWhile (p := fun c : UInt8 => g c.toNat) (l := l)] at h'
  exact h'.cut
theorem begB0 : begB 0 = false := by decide
theorem goes_of_beg {c : Int} (h : begB c = true) : goesB c = true := by unfold goesB; rw [h]; rfl
theorem all_takeWhile (p : UInt8 → Bool) : ∀ l : List UInt8, (l.takeWhile p).all p = true
  | [] => rfl
  | c :: l => by
    rw [List.takeWhile_cons]
    by_cases h : p c = true
    · rw [if_pos h, List.all_cons, h, all_takeWhile p l]; rfl
    · rw [if_neg h]; rfl
theorem nm_name {s : ByteArray} {a : Int} (h : InM s a) (hb : nmBad s a = false) : nameL (nmX s a).data.toList = true ∧ a < nmE s a := by
  have hA := At.of h
  generalize s.data.toList.drop a.toNat = l at hA
  unfold nmBad at hb
  rw [Bool.or_eq_false_iff] at hb
  obtain ⟨hs, hn⟩ := hb
  have hs : startM s a = true := by simpa using hs
  have hn : leI (nmE s a - a) 32 = true := by simpa using hn
  rw [leI_t] at hn
  match l, hA with
  | [], hA =>
    exfalso
    unfold startM at hs
    rw [hA.pk0, if_neg (by decide), begB0] at hs
    cases hs
  | c :: l, hA =>
    by_cases hc : (c.toNat : Int) = 45
    · have hz : nmZ s a = a + 1 := by unfold nmZ; rw [hA.pk, if_pos (by rw [eqI_t]; exact hc)]
      have h2 : (begB (pkI s (a + 1)) || eqI (pkI s (a + 1)) 45) = true := by
        unfold startM at hs
        rw [hA.pk, if_pos (by rw [eqI_t]; exact hc)] at hs
        exact hs
      match l, hA with
      | [], hA =>
        exfalso
        rw [hA.tail.pk0] at h2
        exact absurd h2 (by decide)
      | d :: l, hA =>
        rw [hA.tail.pk] at h2
        have hd : goesB d.toNat = true := by
          rw [Bool.or_eq_true] at h2
          rcases h2 with h2 | h2
          · exact goes_of_beg h2
          · rw [eqI_t] at h2; rw [h2]; decide
        have hc2 : goesB c.toNat = true := by rw [hc]; decide
        have hE : nmE s a = a + ((c :: d :: l).takeWhile fun c => goesB c.toNat).length := by
          unfold nmE
          rw [hz, hA.tail.sc goesB, List.takeWhile_cons (a := c), if_pos hc2, List.length_cons]
          omega
        have hX : (nmX s a).data.toList = (c :: d :: l).takeWhile fun c => goesB c.toNat := by
          unfold nmX
          rw [hE]
          have h' := hA
          rw [← List.takeWhile_append_dropWhile (p := fun c : UInt8 => goesB c.toNat) (l := c :: d :: l)] at h'
          exact h'.cut
        have hall := all_takeWhile (fun c => goesB c.toNat) (c :: d :: l)
        rw [hX]
        refine ⟨?_, ?_⟩
        · unfold nameL
          rw [hall, Bool.and_true, Bool.and_eq_true]
          refine ⟨?_, by rw [decide_eq_true_eq]; omega⟩
          rw [List.takeWhile_cons, if_pos hc2, List.takeWhile_cons, if_pos hd]
          show (if (c.toNat : Int) = 45 then begB d.toNat || decide ((d.toNat : Int) = 45) else begB c.toNat) = true
          rw [if_pos hc]
          rw [eqI_eq] at h2
          simpa using h2
        · rw [hE, List.takeWhile_cons, if_pos hc2, List.length_cons]
          omega
    · have hz : nmZ s a = a := by unfold nmZ; rw [hA.pk, if_neg (by rw [eqI_t]; exact hc)]
      have h2 : begB c.toNat = true := by
        unfold startM at hs
        rw [hA.pk, if_neg (by rw [eqI_t]; exact hc)] at hs
        exact hs
      have hc2 := goes_of_beg h2
      have hE : nmE s a = a + ((c :: l).takeWhile fun c => goesB c.toNat).length := by
        unfold nmE
        rw [hz, hA.sc goesB]
      have hX : (nmX s a).data.toList = (c :: l).takeWhile fun c => goesB c.toNat := by
        unfold nmX nmE
        rw [hz]
        exact hA.cutW goesB
      have hall := all_takeWhile (fun c => goesB c.toNat) (c :: l)
      rw [hX]
      refine ⟨?_, ?_⟩
      · unfold nameL
        rw [hall, Bool.and_true, Bool.and_eq_true]
        refine ⟨?_, by rw [decide_eq_true_eq]; omega⟩
        rw [List.takeWhile_cons, if_pos hc2]
        unfold startsL
        split
        · rename_i e; cases e
        · rename_i e
          simp only [List.cons.injEq] at e
          rw [← e.1, h2, Bool.and_true]
          simpa using hc
        · rename_i e
          simp only [List.cons.injEq] at e
          rw [← e.1, if_neg hc]
          exact h2
      · rw [hE, List.takeWhile_cons, if_pos hc2, List.length_cons]
        omega
theorem wdG_word (c : Int) : wdG c = wordB c := by
  unfold wdG wordB
  rw [leI_eq, eqI_eq]
  by_cases h : c = 34 <;> simp [h]
theorem wd_text {s : ByteArray} {a : Int} (h : InM s a) (hb : wdBad s a = false) : textL (wdX s a).data.toList = true := by
  unfold wdBad at hb
  rw [Bool.or_eq_false_iff, Bool.or_eq_false_iff] at hb
  obtain ⟨q1, q2, q3⟩ := hb
  have hz := (nd_in h q1).1
  have hA := At.of hz
  have hX : (wdX s a).data.toList = (s.data.toList.drop (a + 1).toNat).takeWhile fun c => wdG c.toNat := hA.cutW wdG
  have hl : (wdX s a).data.toList.length = wdE s a - (a + 1) := by
    rw [hX]
    have := hA.sc wdG
    unfold wdE
    omega
  have q3 : leI (wdE s a - (a + 1)) 256 = true := by simpa using q3
  rw [leI_t] at q3
  unfold textL
  rw [Bool.and_eq_true, decide_eq_true_eq]
  refine ⟨?_, by omega⟩
  rw [hX]
  have e : (fun c : UInt8 => wdG c.toNat) = fun c : UInt8 => wordB c.toNat := funext fun c => wdG_word _
  rw [e]
  exact all_takeWhile _ _
end Go.Proofs.Ytglkdhmikpejnaa
namespace Go.Proofs.Ytglkdhmikpejnaa
open Go Go.RowKit Pl Sy
structure MkOk (i : ByteArray) (cs : List ByteArray) (ats : List AttrV) : Prop where
  id : i.data.toList = [] ∨ nameL i.data.toList = true
  cls : cs.length ≤ 8 ∧ ∀ c ∈ cs, nameL c.data.toList = true
  ats : ats.length ≤ 8 ∧ ∀ t ∈ ats, nameL t.name.data.toList = true ∧ textL t.value.data.toList = true
theorem MkOk.nil : MkOk ⟨⟨[]⟩⟩ [] [] := ⟨.inl rfl, ⟨Nat.zero_le _, fun c h => (by cases h)⟩, ⟨Nat.zero_le _, fun c h => (by cases h)⟩⟩
theorem at_ok {s : ByteArray} {a : Int} (h : InM s a) (hb : atBad s a = false) : nameL (nmX s (a + 1)).data.toList = true ∧ textL (wdX s (atE s a + 1)).data.toList = true := by
  unfold atBad at hb
  simp only [Bool.or_eq_false_iff] at hb
  obtain ⟨q1, q2, q3, q4, q5⟩ := hb
  have h1 := (nd_in h q1).1
  have h2 := nmE_in h1
  have h3 := (nd_in (a := atE s a) h2.1 q3).1
  exact ⟨(nm_name h1 q2).1, wd_text h3 q4⟩
theorem hdR_ok {s : ByteArray} : ∀ (n : Nat) (a : Int) (i : ByteArray) (cs : List ByteArray) (ats : List AttrV), InM s a → MkOk i cs ats → (hdR s n a i cs ats).bad = false → MkOk (hdR s n a i cs ats).id (hdR s n a i cs ats).cls (hdR s n a i cs ats).ats := by
  intro n
  induction n with
  | zero => intro a i cs ats h hm hb; exact hm
  | succ n ih =>
    intro a i cs ats h hm hb
    have h0 := h.1
    unfold hdR at hb ⊢
    split
    · rename_i q
      rw [q] at hb
      have hlt := pk_lt (by decide) q
      have hz : InM s (a + 1) := ⟨by omega, h.2⟩
      simp only at hb
      split
      · rename_i e; rw [e] at hb; cases hb
      · rename_i e
        rw [e] at hb
        simp only at hb
        split
        · rename_i e; rw [e] at hb; cases hb
        · rename_i e
          rw [e] at hb
          exact ih _ _ _ _ (nmE_in hz).1 ⟨.inr (nm_name hz e).1, hm.cls, hm.ats⟩ hb
    · rename_i q
      rw [q] at hb
      simp only at hb
      split
      · rename_i q
        rw [q] at hb
        have hlt := pk_lt (by decide) q
        have hz : InM s (a + 1) := ⟨by omega, h.2⟩
        simp only at hb
        split
        · rename_i e; rw [e] at hb; cases hb
        · rename_i e8
          rw [e8] at hb
          rw [leI_f] at e8
          simp only at hb
          split
          · rename_i e; rw [e] at hb; cases hb
          · rename_i e
            rw [e] at hb
            exact ih _ _ _ _ (nmE_in hz).1 ⟨hm.id, ⟨by rw [List.length_append, List.length_singleton]; omega, fun c hc => by
              rcases List.mem_append.1 hc with hc | hc
              · exact hm.cls.2 c hc
              · rw [List.mem_singleton.1 hc]; exact (nm_name hz e).1⟩, hm.ats⟩ hb
      · rename_i q
        rw [q] at hb
        simp only at hb
        split
        · rename_i q
          rw [q] at hb
          simp only at hb
          split
          · rename_i e; rw [e] at hb; cases hb
          · rename_i e8
            rw [e8] at hb
            rw [leI_f] at e8
            simp only at hb
            split
            · rename_i e; rw [e] at hb; cases hb
            · rename_i e
              rw [e] at hb
              exact ih _ _ _ _ (at_in h e).1 ⟨hm.id, hm.cls, ⟨by rw [List.length_append, List.length_singleton]; omega, fun c hc => by
                rcases List.mem_append.1 hc with hc | hc
                · exact hm.ats.2 c hc
                · rw [List.mem_singleton.1 hc]; exact at_ok h e⟩⟩ hb
        · exact hm
theorem nameL_size {x : ByteArray} (h : nameL x.data.toList = true) : x.size ≤ 32 := by
  unfold nameL at h
  rw [Bool.and_eq_true, decide_eq_true_eq] at h
  rw [size_toList]
  omega
theorem textL_size {x : ByteArray} (h : textL x.data.toList = true) : x.size ≤ 256 := by
  unfold textL at h
  rw [Bool.and_eq_true, decide_eq_true_eq] at h
  rw [size_toList]
  omega
theorem elem_of {n : NdV} (ht : nameL n.tag.data.toList = true) (hm : MkOk n.id n.cls n.atts) (hx : n.text.data.toList = []) : elemB n = true ∧ n.Ok := by
  constructor
  · unfold elemB
    rw [ht, hx, Bool.true_and, Bool.and_eq_true]
    refine ⟨?_, ?_⟩
    · rcases hm.id with e | e
      · rw [e]; rfl
      · rw [e, Bool.or_true]
    · rw [show bytesEq ([] : List UInt8) [] = true from rfl]
      have e1 : leI n.cls.length 8 = true := by rw [leI_t]; have := hm.cls.1; omega
      have e2 : leI n.atts.length 8 = true := by rw [leI_t]; have := hm.ats.1; omega
      rw [e1, e2]
      have e3 : anyS lacksB n.cls = false := by
        unfold anyS
        rw [List.any_eq_false]
        intro c hc
        unfold lacksB
        rw [hm.cls.2 c hc]
        decide
      have e4 : anyT oddB n.atts = false := by
        unfold anyT
        rw [List.any_eq_false]
        intro c hc
        unfold oddB
        rw [(hm.ats.2 c hc).1, (hm.ats.2 c hc).2]
        decide
      rw [e3, e4]
      rfl
  · have m : ∀ k : Nat, k ≤ 256 → k ≤ maxLen := fun k hk => by unfold maxLen; omega
    refine ⟨m _ (by have := nameL_size ht; omega), ?_, ⟨by have := hm.cls.1; omega, fun c hc => m _ (by have := nameL_size (hm.cls.2 c hc); omega)⟩, ⟨by have := hm.ats.1; omega, fun t h => ⟨m _ (by have := nameL_size (hm.ats.2 t h).1; omega), m _ (by have := textL_size (hm.ats.2 t h).2; omega)⟩⟩, ?_⟩
    · rcases hm.id with e | e
      · rw [size_toList, e]; exact Nat.zero_le _
      · exact m _ (by have := nameL_size e; omega)
    · rw [size_toList, hx]; exact Nat.zero_le _
theorem hed_ok {s : ByteArray} {a : Int} (h : InM s a) (hb : (hedR s a).bad = false) : nmBad s a = false ∧ MkOk (hedR s a).id (hedR s a).cls (hedR s a).ats := by
  have hE := nmE_in h
  cases q : nmBad s a with
  | true =>
    exfalso
    unfold hedR at hb
    rw [q] at hb
    cases hb
  | false =>
    have e : hedR s a = hdR s (s.size + 1) (nmE s a) ⟨⟨[]⟩⟩ [] [] := by unfold hedR; rw [q]
    rw [e] at hb ⊢
    exact ⟨rfl, hdR_ok _ _ _ _ _ hE.1 MkOk.nil hb⟩
theorem hed_elem {s : ByteArray} {a : Int} (h : InM s a) (hb : (hedR s a).bad = false) : elemB (hedN s a) = true ∧ (hedN s a).Ok := by
  obtain ⟨q, hm⟩ := hed_ok h hb
  exact elem_of (nm_name h q).1 hm rfl
theorem hed_gt {s : ByteArray} {a : Int} (h : InM s a) (hb : (hedR s a).bad = false) : a < (hedR s a).pl := by
  obtain ⟨q, hm⟩ := hed_ok h hb
  have hE := nmE_in h
  have h1 := (nm_name h q).2
  have e : hedR s a = hdR s (s.size + 1) (nmE s a) ⟨⟨[]⟩⟩ [] [] := by unfold hedR; rw [q]
  rw [e] at hb ⊢
  have := (hdR_in _ _ _ _ _ hE.1 hb).2
  omega
end Go.Proofs.Ytglkdhmikpejnaa
namespace Go.Proofs.Ytglkdhmikpejnaa
open Go Go.RowKit Pl Sy
inductive TrR where
  | bad (k e : Int)
  | ok (a : Int) (ns : List NdV)
noncomputable def nxT (s : ByteArray) (go : Int → List NdV → List Int → TrR) (a : Int) (ns : List NdV) (os : List Int) : TrR := match leI os.length 0 with
  | false => go a ns os
  | true => match leI s.size (scI mblB s a) with
    | true => .ok (scI mblB s a) ns
    | false => .bad (scI mblB s a) 30
noncomputable def elT (s : ByteArray) (go : Int → List NdV → List Int → TrR) (b : Int) (ns : List NdV) (os : List Int) : TrR := match nmdB s b with
  | false => .bad b 30
  | true => match eqI (fulE ns.length os.length) 0 with
    | false => .bad b (fulE ns.length os.length)
    | true => match (hedR s b).bad with
      | true => .bad (hedR s b).pl 30
      | false => match eqI (pkI s (scI mblB s (hedR s b).pl)) 123 with
        | true => go (scI mblB s (hedR s b).pl + 1) (ns ++ [putN (hedN s b) os]) (os ++ [(ns.length : Int)])
        | false => nxT s go (hedR s b).pl (ns ++ [putN (hedN s b) os]) os
noncomputable def wrT (s : ByteArray) (go : Int → List NdV → List Int → TrR) (b : Int) (ns : List NdV) (os : List Int) : TrR := match eqI (fulE ns.length os.length) 0 with
  | false => .bad b (fulE ns.length os.length)
  | true => match wdBad s b with
    | true => .bad (wdK s b) 30
    | false => nxT s go (wdE s b + 1) (ns ++ [wrdN (wdX s b) os]) os
noncomputable def ndT' (s : ByteArray) (go : Int → List NdV → List Int → TrR) (b : Int) (ns : List NdV) (os : List Int) : TrR := match leI os.length 0 with
  | true => elT s go b ns os
  | false => match eqI (pkI s b) 125 with
    | true => nxT s go (b + 1) ns os.dropLast
    | false => match eqI (pkI s b) 34 with
      | true => wrT s go b ns os
      | false => elT s go b ns os
noncomputable def tN (s : ByteArray) : Nat → Int → List NdV → List Int → TrR
  | 0, a, ns, os => .bad a 0
  | n + 1, a, ns, os => ndT' s (tN s n) (scI mblB s a) ns os
namespace Sy
def RJ (T : Nat) (G : ExP → Fr → Mem → Prop) (ex : ExP) (F : Fr) (M : Mem) : Prop := match ex with
  | .pan k e => G (.pan k e) F M
  | _ => ∃ F2 M2 l, l.take T = List.range T ∧ RenF (nm l) F F2 ∧ RenM (nm l) M M2 ∧ G ex F2 M2
theorem JumpT.out {T : Nat} {P : Program} {c : Code} {n : Nat} {y : Code} {F : Fr} {M : Mem} {G : ExP → Fr → Mem → Prop} (h : JumpT T P c n y F M (RJ T G)) : JumpT T P c n y F M G := fun w0 ρ a w Q hF hW hQ => h w0 ρ a w Q hF hW fun ex F' M' ρ' a' w' hg q1 q2 => by
  have key : ∀ F2 M2 l, l.take T = List.range T → RenF (nm l) F' F2 → RenM (nm l) M' M2 → G ex F2 M2 → FR ρ' F' a' → WR w0 ρ' M' w' → (∀ (h1 : FR (pull (nm l) ρ') F2 a') (h2 : WR w0 (pull (nm l) ρ') M2 w'), EndP w0 (pull (nm l) ρ') ex F2 M2 a' w') → Q ex.to a' w' := fun F2 M2 l h0 r1 r2 hg h1 h2 hE => by
    have id := nm_id h0
    refine hQ ex F2 M2 (pull (nm l) ρ') a' w' hg ⟨fun b g hb => ?_, fun b hb => ?_, q1.still, q1.base, q1.mine⟩ (hE (r1.fr h1) (h2.ren r2))
    · have hlt : b < T := by
        simp only [Sy.cutR] at hb
        split at hb
        · assumption
        · cases hb
      rw [pull_blk (id b hlt)]
      exact q1.blk b g hb
    · have hlt : b < T := by
        simp only [Sy.cutR] at hb
        split at hb
        · assumption
        · cases hb
      rw [pull_nil (id b hlt)]
      exact q1.nil b hb
  cases ex with
  | pan k e => exact hQ (.pan k e) F' M' ρ' a' w' hg q1 q2
  | norm => obtain ⟨F2, M2, l, h0, r1, r2, hg⟩ := hg; exact key F2 M2 l h0 r1 r2 hg q2.1 q2.2 fun h1 h2 => ⟨h1, h2⟩
  | exit id => obtain ⟨F2, M2, l, h0, r1, r2, hg⟩ := hg; exact key F2 M2 l h0 r1 r2 hg q2.1 q2.2 fun h1 h2 => ⟨h1, h2⟩
  | ret => obtain ⟨F2, M2, l, h0, r1, r2, hg⟩ := hg; exact key F2 M2 l h0 r1 r2 hg q2.1 q2.2 fun h1 h2 => ⟨h1, h2⟩
  | goto l => obtain ⟨F2, M2, l, h0, r1, r2, hg⟩ := hg; exact key F2 M2 l h0 r1 r2 hg q2.1 q2.2 fun h1 h2 => ⟨h1, h2⟩
abbrev trE : Fr := (some (.ptr 0 0) :: (nn33 (nn48 (nn48 []))))
theorem trF_ren {x y : Nat} {fr n n' k k' : Int} (hn : n = n') (hk : k = k') : RenF (nm [0, 1, x, y]) (trF fr n k) (trF fr n' k') := by
  subst hn hk
  simp only [RenF, and_true]
  exact ⟨⟨rfl, rfl⟩, rfl, rfl, rfl⟩
theorem trE_ren {x y : Nat} {fr n k : Int} : RenF (nm [0, 1, x, y]) (trF fr n k) trE := by
  simp only [RenF, and_true]
  exact ⟨rfl, rfl⟩
theorem tr_ren {M : Mem} {s : ByteArray} {a : Int} {ns : List NdV} {os : List Int} {x y n m : Nat} {ca cb : Nat → Nat → AV} (hd : [0, 1, x, y].Nodup) (h0 : M.get 0 = some (mrB s a (.ptr 1 0))) (h1 : M.get 1 = some (bdB x n y m))
    (h2 : M.get x = some ⟨[], 40, some ⟨n, 6, ca⟩⟩) (h3 : M.get y = some ⟨[], 3, some ⟨m, 1, cb⟩⟩) (r1 : NRows n ca ns) (r2 : ZRows m cb os) : RenM (nm [0, 1, x, y]) M (trM s a ns os) := by
  refine .of rfl rfl hd ⟨⟨y, _, rfl, h3, rfl, trivial, r2.1.symm, rfl, fun i j hi hj => ?_⟩, ⟨x, _, rfl, h2, rfl, trivial, r1.1.symm, rfl, fun i j hi hj => r1.2 _ i j (by have := r1.1; simp only at hi; omega) hj⟩, ⟨1, _, rfl, h1, rfl, ⟨⟨rfl, r1.1, rfl⟩, ⟨rfl, r2.1, rfl⟩, trivial⟩, trivial⟩, ⟨0, _, rfl, h0, rfl, ⟨rfl, rfl, ⟨rfl, rfl⟩, trivial⟩, trivial⟩, trivial⟩
  show RenV _ (cb i j) (zcell os i j)
  rw [r2.2 i j (by have := r2.1; simp only at hi; omega) hj]
  exact RenV.free _ trivial
end Sy
def TrG (s : ByteArray) (r : TrR) (ex : ExP) (F : Fr) (M : Mem) : Prop := match r with
  | .bad k e => ex = .pan k e
  | .ok a ns => ex = .norm ∧ F = trE ∧ M = trM s a ns []
def StOk (ns : List NdV) (os : List Int) : Prop := ns.length ≤ 1024 ∧ os.length ≤ 64
theorem ful_ok {n k : Nat} (h : eqI (fulE n k) 0 = true) : n < 1024 ∧ k < 64 := by
  unfold fulE at h
  split at h
  · cases h
  · split at h
    · cases h
    · rename_i h1 h2
      rw [leI_t] at h1 h2
      omega
namespace Sy
noncomputable abbrev trC : Code := theScope Try.prog 21
abbrev TrJ (s : ByteArray) (r : TrR) : ExP → Fr → Mem → Prop := RJ 2 (TrG s r)
def NdAt (s : ByteArray) (n : Nat) : Prop := ∀ (m : Nat) (a fr : Int) (ns : List NdV) (os : List Int), 3 * n ≤ m → InM s a → s.size - a < n → StOk ns os → (ns.length = 0 ∨ os.length ≠ 0) →
    JumpT 2 Try.prog trC m (pieceAt trC 1) (trF fr ns.length os.length) (trM s a ns os) (TrJ s (tN s n a ns os))
theorem tr_next {s : ByteArray} {n : Nat} (ih : NdAt s n) (m : Nat) (a fr : Int) (ns : List NdV) (os : List Int) (hm : 3 * n ≤ m) (h : InM s a) (h2 : s.size - a < n) (hs : StOk ns os) :
    JumpT 2 Try.prog trC (m + 1) (pieceAt trC 4) (trF fr ns.length os.length) (trM s a ns os) (TrJ s (nxT s (tN s n) a ns os)) := by
  refine segJ (n := m) 2 [cMbl s] [pFail] [] 400 30 21 4 (by kernel_rfl) (true :: false :: true :: true :: true :: (ff29 (ff48 (ff48 [])))) (.br .done (.yes (.br (.auto 0 .done) .done))) (let e1 := (some (int (((ns).length : Nat) : Int))); let e2 := (some (int (((os).length : Nat) : Int))); let e3 := (some (@Blk.mk [] 3 (some (@Rw.mk (os).length 1 (@zcell os))))); let e4 := (some (@Blk.mk [] 40 (some (@Rw.mk (ns).length 6 (@ndcell ns))))); let e5 := (some (@Blk.mk [(@AV.own 2 (ns).length 6), (@AV.own 3 (os).length 1)] 70 none)); let e6 := (some (@Blk.mk [(@AV.lit (@Value.string s)), (int a), (@AV.ptr 1 0)] 52 none)); let e7 := (((@ByteArray.size s) : Nat) : Int); let e8 := (@Mem.mk 4 (0 + 1) [e3, e4, e5, (some (@Blk.mk [(@AV.lit (@Value.string s)), (int (@scI mblB s a)), (@AV.ptr 1 0)] 52 none))]); (.fork (!(leI (((os).length : Nat) : Int) (0 : Int))) (.leaf ((@ExP.goto 0), (((some (@AV.ptr 0 0)) :: none :: (some (int fr)) :: e1 :: e2 :: (nn29 (nn48 (nn48 [])))), (@Mem.mk 4 0 [e3, e4, e5, e6])))) (.need (@isSo (@And (e6 = e6) (@And (([] : List AV) = []) (@And (@And ((0 : Int) ≤ a) (a ≤ e7)) ((@ByteArray.size s) ≤ 1000000))))) (.fork (!(leI e7 (@scI mblB s a))) (.leaf ((@ExP.pan (@scI mblB s a) (Int.ofNat 30)), ([], e8))) (.leaf (ExP.norm, (((some (@AV.ptr 0 0)) :: none :: (some (int fr)) :: e1 :: e2 :: (nn29 (nn48 (nn48 [])))), e8))))))) (by kernel_rfl) ?_
  unfold nxT
  refine fork_ok (fun q => ?_) (fun q => need_so ⟨rfl, rfl, h⟩ (fork_ok (fun q2 => ?_) (fun q2 => ?_)))
  · have q : leI os.length 0 = false := by simpa using q
    rw [q]
    rw [leI_f] at q
    exact ⟨_, (by kernel_rfl : findLabel trC 0 = some (pieceAt trC 1)), ih m a fr ns os hm h h2 hs (.inr (by omega))⟩
  · have q : leI os.length 0 = true := by simpa using q
    have q2 : leI s.size (scI mblB s a) = false := by simpa using q2
    rw [q, q2]
    exact rfl
  · have q : leI os.length 0 = true := by simpa using q
    have q2 : leI s.size (scI mblB s a) = true := by simpa using q2
    rw [q, q2]
    rw [leI_t] at q
    obtain rfl : os = [] := List.eq_nil_of_length_eq_zero (by omega)
    exact ⟨trE, trM s (scI mblB s a) ns [], [0, 1, 2, 3], rfl, trE_ren, tr_ren (by decide) rfl rfl rfl rfl (NRows.base _) (ZRows.base _), rfl, rfl, rfl⟩
theorem tr_end {s : ByteArray} {n : Nat} (ih : NdAt s n) (m : Nat) (a fr : Int) (ns : List NdV) (os : List Int) (hm : 3 * n ≤ m) (h : InM s (a + 1)) (h1 : 0 ≤ a) (h2 : s.size - (a + 1) < n) (hs : StOk ns os) (ho : os.length ≠ 0) :
    JumpT 2 Try.prog trC (m + 1) (pieceAt trC 2) (trF fr ns.length os.length) (trM s a ns os) (TrJ s (nxT s (tN s n) (a + 1) ns os.dropLast)) := by
  have hl := h.2
  have hi := h.1
  unfold limM at hl
  refine segJ (n := m) 2 [cMbl s, cClo ns os, cPut11] [pFail] [] 400 30 21 2 (by kernel_rfl) (true :: false :: true :: true :: true :: (ff29 (ff48 (ff48 [])))) (.yes (.yes (.br .done (.yes (.br (.auto 0 .done) .done))))) (let e1 := (some (@Blk.mk [(@AV.own 2 (ns).length 6), (@AV.own 3 (os).length 1)] 70 none)); let e2 := (some (@Blk.mk [] 40 (some (@Rw.mk (ns).length 6 (@ndcell ns))))); let e3 := (some (@Blk.mk [] 3 (some (@Rw.mk (os).length 1 (@zcell os))))); let e4 := (w64 ((((os).length : Nat) : Int) - (1 : Int))); let e5 := (some (int (((ns).length : Nat) : Int))); let e6 := (some (@Blk.mk [] 3 (some (@Rw.mk ((@List.dropLast _ os)).length 1 (@zcell (@List.dropLast _ os)))))); let e7 := (some (@Blk.mk [(@AV.own 4 (ns).length 6), (@AV.own (4 + 1) ((@List.dropLast _ os)).length 1)] 70 none)); let e8 := (@AV.lit (@Value.string s)); let e9 := (w64 (a + (1 : Int))); let e10 := (some (@Blk.mk (e8 :: [(int e9), (@AV.ptr 1 0)]) 52 none)); let e11 := (((@ByteArray.size s) : Nat) : Int); let e12 := (@Mem.mk ((4 + 1) + 1) (((((0 + 1) + 1) + 1) + 1) + 1) (e6 :: e2 :: [none, none, e7, (some (@Blk.mk [e8, (int (@scI mblB s e9)), (@AV.ptr 1 0)] 52 none))])); (.need (@isSo (@And (e1 = e1) (@And (e2 = e2) (@And (e3 = e3) (@And (([] : List AV) = []) (@And ((os).length ≤ 64) (@Not ((os).length = 0)))))))) (.need (@isSo (@And ((@HAppend.hAppend _ _ _ _ (@HAppend.hAppend _ _ _ _ [] [(int fr), (int (0 : Int))]) []) = [(int fr), (int (Int.ofNat 0))]) ((eqI (Int.ofNat 0) (0 : Int)) = true))) (.fork (!(leI e4 (0 : Int))) (.leaf ((@ExP.goto 0), (((some (@AV.ptr 0 0)) :: none :: (some (int fr)) :: e5 :: (some (int e4)) :: (nn29 (nn48 (nn48 [])))), (@Mem.mk ((4 + 1) + 1) ((((0 + 1) + 1) + 1) + 1) (e6 :: e2 :: [none, none, e7, e10]))))) (.need (@isSo (@And (e10 = (some (@Blk.mk [e8, (int e9), (@AV.ptr 1 0)] 52 none))) (@And (([] : List AV) = []) (@And (@And ((0 : Int) ≤ e9) (e9 ≤ e11)) ((@ByteArray.size s) ≤ 1000000))))) (.fork (!(leI e11 (@scI mblB s e9))) (.leaf ((@ExP.pan (@scI mblB s e9) (Int.ofNat 30)), ([], e12))) (.leaf (ExP.norm, (((some (@AV.ptr 0 0)) :: none :: (some (int fr)) :: e5 :: (some (int e4)) :: (nn29 (nn48 (nn48 [])))), e12))))))))) (by kernel_rfl) ?_
  have hd : os.dropLast.length = os.length - 1 := List.length_dropLast ..
  have hw : w64 ((os.length : Int) - 1) = (os.dropLast.length : Nat) := by
    rw [hd]
    exact (w64_in (r := (os.length : Int) - 1) (by have := hs.2; omega)).trans (by omega)
  have hb : w64 (a + 1) = a + 1 := w64_in (by omega)
  have hs2 : StOk ns os.dropLast := ⟨hs.1, by have := hs.2; omega⟩
  conv => zeta
  rw [hw, hb]
  unfold nxT
  refine need_so ⟨rfl, rfl, rfl, rfl, hs.2, ho⟩ (need_so ⟨rfl, rfl⟩ (fork_ok (fun q => ?_) (fun q => need_so ⟨rfl, rfl, h⟩ (fork_ok (fun q2 => ?_) (fun q2 => ?_)))))
  · have q : leI os.dropLast.length 0 = false := by simpa using q
    rw [q]
    rw [leI_f] at q
    exact ⟨_, (by kernel_rfl : findLabel trC 0 = some (pieceAt trC 1)), JumpT.ren [0, 1, 4, 5] rfl (trF_ren rfl rfl) (tr_ren (by decide) rfl rfl rfl rfl (NRows.base _) (ZRows.base _)) (ih m (a + 1) fr ns os.dropLast hm h h2 hs2 (.inr (by omega)))⟩
  · have q : leI os.dropLast.length 0 = true := by simpa using q
    have q2 : leI s.size (scI mblB s (a + 1)) = false := by simpa using q2
    rw [q, q2]
    exact rfl
  · have q : leI os.dropLast.length 0 = true := by simpa using q
    have q2 : leI s.size (scI mblB s (a + 1)) = true := by simpa using q2
    rw [q, q2]
    rw [leI_t] at q
    have e : os.dropLast = [] := List.eq_nil_of_length_eq_zero (by omega)
    exact ⟨trE, trM s (scI mblB s (a + 1)) ns [], [0, 1, 4, 5], rfl, trE_ren, tr_ren (by decide) rfl rfl rfl rfl (NRows.base _) (by rw [e]; exact ZRows.base _), rfl, rfl, rfl⟩
theorem tr_words {s : ByteArray} {n : Nat} (ih : NdAt s n) (m : Nat) (a fr : Int) (ns : List NdV) (os : List Int) (hm : 3 * n ≤ m) (h : InM s a) (h2 : s.size - a < n + 1) (hs : StOk ns os) (ho : os.length ≠ 0) :
    JumpT 2 Try.prog trC (m + 2) (pieceAt trC 3) (trF fr ns.length os.length) (trM s a ns os) (TrJ s (wrT s (tN s n) a ns os)) := by
  refine segJ (n := m + 1) 2 [cFul s, cWds s, cWrd (wdX s a) ns os, cPut11] [pFail, pWds s, pFul s] [(41, int 0), (37, .tup [])] 400 30 21 3 (by kernel_rfl) (true :: false :: true :: true :: true :: (ff29 (ff48 (ff48 [])))) (.yes (.br .done (.yes (.yes (.br .done (.yes (.yes (.yes .done)))))))) (let e1 := (some (@Blk.mk [(@AV.lit (@Value.string s)), (int a), (@AV.ptr 1 0)] 52 none)); let e2 := (((ns).length : Nat) : Int); let e3 := (int (((os).length : Nat) : Int)); let e4 := ([(int e2), e3] = [(int e2), e3]); let e5 := (@fulE e2 (((os).length : Nat) : Int)); let e6 := (some (@Blk.mk [] 3 (some (@Rw.mk (os).length 1 (@zcell os))))); let e7 := (some (@Blk.mk [] 40 (some (@Rw.mk (ns).length 6 (@ndcell ns))))); let e8 := (some (@Blk.mk [(@AV.own 2 (ns).length 6), (@AV.own 3 (os).length 1)] 70 none)); let e9 := (@And (@And ((0 : Int) ≤ a) (a ≤ (((@ByteArray.size s) : Nat) : Int))) ((@ByteArray.size s) ≤ 1000000)); let e10 := (@AV.lit (@Value.string (@wdX s a))); (.need (@isSo (@And (e1 = e1) (@And e4 True))) (.fork (!(eqI e5 (0 : Int))) (.leaf ((@ExP.pan a e5), ([], (@Mem.mk 4 0 [e6, e7, e8, e1])))) (.need (@isSo (@And (e1 = e1) (@And e4 ((eqI e5 (0 : Int)) = true)))) (.need (@isSo (@And (e1 = e1) (@And (([] : List AV) = []) e9))) (.fork (@wdBad s a) (.leaf ((@ExP.pan (@wdK s a) (Int.ofNat 30)), ([], (@Mem.mk 4 0 [e6, e7, e8, e1])))) (.need (@isSo (@And (e1 = e1) (@And (([] : List AV) = []) (@And e9 ((@wdBad s a) = false))))) (.need (@isSo (@And (e8 = e8) (@And (e7 = e7) (@And (e6 = e6) (@And ([e10] = [e10]) (@And ((@ByteArray.size (@wdX s a)) ≤ 9223372036854775807) (@And ((@Pl.textL (@Array.toList _ (@ByteArray.data (@wdX s a)))) = true) (@And ((ns).length < 1024) (@And ((os).length < 64) (@Not ((os).length = 0))))))))))) (.need (@isSo (@And ((@HAppend.hAppend _ _ _ _ (@HAppend.hAppend _ _ _ _ [] [(int fr), (int (0 : Int))]) []) = [(int fr), (int (Int.ofNat 0))]) ((eqI (Int.ofNat 0) (0 : Int)) = true))) (.leaf ((@ExP.goto 3), (((some (@AV.ptr 0 0)) :: none :: (some (int fr)) :: (some (int (w64 (e2 + (1 : Int))))) :: (some e3) :: (nn29 (nn48 (nn48 [])))), (@Mem.mk ((4 + 1) + 1) ((((0 + 1) + 1) + 1) + 1) (e6 :: (some (@Blk.mk [] 40 (some (@Rw.mk ((@HAppend.hAppend _ _ _ _ ns [(@wrdN (@wdX s a) os)])).length 6 (@ndcell (@HAppend.hAppend _ _ _ _ ns [(@wrdN (@wdX s a) os)])))))) :: [none, none, (some (@Blk.mk [(@AV.own 4 ((@HAppend.hAppend _ _ _ _ ns [(@wrdN (@wdX s a) os)])).length 6), (@AV.own (4 + 1) (os).length 1)] 70 none)), (some (@Blk.mk [(@AV.lit (@Value.string s)), (int ((@wdE s a) + (1 : Int))), (@AV.ptr 1 0)] 52 none))])))))))))))))) (by kernel_rfl) ?_
  unfold wrT
  conv => zeta
  refine need_so ⟨rfl, rfl, trivial⟩ (fork_ok (fun q => ?_) (fun q => need_so ⟨rfl, rfl, ?_⟩ (need_so ⟨rfl, rfl, h⟩ (fork_ok (fun q2 => ?_) (fun q2 => need_so ⟨rfl, rfl, h, q2⟩ (need_so ⟨rfl, rfl, rfl, rfl, ?_⟩ (need_so ⟨rfl, rfl⟩ ?_)))))))
  · have q : eqI (fulE ns.length os.length) 0 = false := by simpa using q
    rw [q]
    exact rfl
  · simpa using q
  · have q : eqI (fulE ns.length os.length) 0 = true := by simpa using q
    rw [q, q2]
    exact rfl
  · have q : eqI (fulE ns.length os.length) 0 = true := by simpa using q
    have hf := ful_ok q
    have ht := wd_text h q2
    exact ⟨by have := textL_size ht; omega, ht, hf.1, hf.2, ho⟩
  · have q : eqI (fulE ns.length os.length) 0 = true := by simpa using q
    have hf := ful_ok q
    rw [q, q2]
    have hE := wdX_in h q2
    have hw : w64 ((ns.length : Int) + 1) = ((ns ++ [wrdN (wdX s a) os]).length : Nat) := by
      rw [List.length_append, List.length_singleton]
      exact (w64_in (r := (ns.length : Int) + 1) (by omega)).trans (by omega)
    rw [hw]
    exact ⟨_, (by kernel_rfl : findLabel trC 3 = some (pieceAt trC 4)), JumpT.ren [0, 1, 4, 5] rfl (trF_ren rfl rfl) (tr_ren (by decide) rfl rfl rfl rfl (NRows.base _) (ZRows.base _)) (tr_next ih m _ fr _ os hm hE.1 (by have := hE.2; omega) ⟨by rw [List.length_append, List.length_singleton]; omega, hs.2⟩)⟩
theorem tr_node {s : ByteArray} {n : Nat} (ih : NdAt s n) (m : Nat) (a fr : Int) (ns : List NdV) (os : List Int) (hm : 3 * n ≤ m) (h : InM s a) (h2 : s.size - a < n + 1) (hs : StOk ns os) (hno : ns.length = 0 ∨ os.length ≠ 0) :
    JumpT 2 Try.prog trC (m + 3) (pieceAt trC 1) (trF fr ns.length os.length) (trM s a ns os) (TrJ s (tN s (n + 1) a ns os)) := by
  have hb : InM s (scI mblB s a) := scI_in h
  have hle := scI_le mblB s a h.1.1 h.1.2
  have hl := h.2
  unfold limM at hl
  have hm : ∀ k, 3 * n ≤ m + k := fun k => by omega
  have hwn : eqI (fulE ns.length os.length) 0 = true → w64 ((ns.length : Int) + 1) = ((ns ++ [putN (hedN s (scI mblB s a)) os]).length : Nat) ∧ w64 ((os.length : Int) + 1) = ((os ++ [(ns.length : Int)]).length : Nat) := fun q => by
    have hf := ful_ok q
    rw [List.length_append, List.length_singleton, List.length_append, List.length_singleton]
    exact ⟨(w64_in (r := (ns.length : Int) + 1) (by omega)).trans (by omega), (w64_in (r := (os.length : Int) + 1) (by omega)).trans (by omega)⟩
  refine segJ (n := m + 2) 2 [cMbl s, cPek s, cNmd s, cFul s, cHed s, cOpn (hedN s (scI mblB s a)) ns os, cPut11, cClo (ns ++ [putN (hedN s (scI mblB s a)) os]) (os ++ [(ns.length : Int)])] [pFail, pHed s, pFul s] [(38, int 0), (37, .tup [])] 400 30 21 1 (by kernel_rfl) (true :: false :: true :: true :: true :: (ff29 (ff48 (ff48 [])))) (.yes (.br (.auto 0 (.yes (.auto 1 (.br .done (.yes (.auto 0 (.yes (.auto 1 (.br .done (.yes (.br (.auto 0 .done) (.yes (.br .done (.yes (.yes (.br .done (.yes (.yes (.yes (.yes (.yes (.br .done (.yes (.yes .done)))))))))))))))))))))))) (.auto 3 (.no (.auto 3 (.yes (.br (.auto 0 .done) (.yes (.br .done (.yes (.yes (.br .done (.yes (.yes (.yes (.yes (.yes (.br .done (.yes (.yes .done)))))))))))))))))))) (let e1 := (@AV.lit (@Value.string s)); let e2 := (@AV.ptr 1 0); let e3 := (some (@Blk.mk [e1, (int a), e2] 52 none)); let e4 := (([] : List AV) = []); let e5 := (0 : Int); let e6 := (((@ByteArray.size s) : Nat) : Int); let e7 := ((@ByteArray.size s) ≤ 1000000); let e8 := (((os).length : Nat) : Int); let e9 := (@scI mblB s a); let e10 := (some (@Blk.mk [e1, (int e9), e2] 52 none)); let e11 := (@And (@And (e5 ≤ e9) (e9 ≤ e6)) e7); let e12 := (@isSo (@And (e10 = e10) (@And e4 e11))); let e13 := (some (@AV.ptr 0 0)); let e14 := (((ns).length : Nat) : Int); let e15 := (some (@Blk.mk [] 3 (some (@Rw.mk (os).length 1 (@zcell os))))); let e16 := (some (@Blk.mk [] 40 (some (@Rw.mk (ns).length 6 (@ndcell ns))))); let e17 := (some (@Blk.mk [(@AV.own 2 (ns).length 6), (@AV.own 3 (os).length 1)] 70 none)); let e18 := (@Mem.mk 4 (0 + 1) [e15, e16, e17, e10]); let e19 := ([(int e14), (int e8)] = [(int e14), (int e8)]); let e20 := (@Value.tuple (@Array.mk _ [])); let e21 := (@AV.agg [(int ((@hedN s e9)).par), (@AV.lit (@Value.string ((@hedN s e9)).tag)), (@AV.lit (@Value.string ((@hedN s e9)).id)), (@AV.view (((@hedR s e9)).cls).length 1 (fun y0 => (fun y1 => (@AV.lit ([(@Value.string (((@hedR s e9)).cls.getD y0 (@ByteArray.mk (@Array.mk _ []))))].getD y1 e20))))), (@AV.view (((@hedR s e9)).ats).length 2 (fun y0 => (fun y1 => (@AV.lit ([(@Value.string ((((@hedR s e9)).ats.getD y0 attrNone)).name), (@Value.string ((((@hedR s e9)).ats.getD y0 attrNone)).value)].getD y1 e20))))), (@AV.lit (@Value.string ((@hedN s e9)).text))]); let e22 := ((eqI (Int.ofNat 0) e5) = true); let e23 := (int ((@hedR s e9)).pl); let e24 := (some (@Blk.mk [e1, e23, e2] 52 none)); let e25 := (@scI mblB s ((@hedR s e9)).pl); let e26 := (some (@Blk.mk [e1, (int e25), e2] 52 none)); let e27 := (some (int (w64 (e14 + (1 : Int))))); let e28 := (((((((0 + 1) + 1) + 1) + 1) + 1) + 1) + 1); let e29 := (some (@Blk.mk [] 3 (some (@Rw.mk ((@HAppend.hAppend _ _ _ _ os [e14])).length 1 (@zcell (@HAppend.hAppend _ _ _ _ os [e14])))))); let e30 := (some (@Blk.mk [] 40 (some (@Rw.mk ((@HAppend.hAppend _ _ _ _ ns [(@putN (@hedN s e9) os)])).length 6 (@ndcell (@HAppend.hAppend _ _ _ _ ns [(@putN (@hedN s e9) os)])))))); let e31 := (some (@Blk.mk [(@AV.own 4 ((@HAppend.hAppend _ _ _ _ ns [(@putN (@hedN s e9) os)])).length 6), (@AV.own (4 + 1) ((@HAppend.hAppend _ _ _ _ os [e14])).length 1)] 70 none)); let e32 := (@List.dropLast _ (@HAppend.hAppend _ _ _ _ os [e14])); (.need (@isSo (@And (e3 = e3) (@And e4 (@And (@And (e5 ≤ a) (a ≤ e6)) e7)))) (.fork (!(leI e8 e5)) (.need e12 (.fork (eqI (@pkI s e9) (125 : Int)) (.leaf ((@ExP.goto 1), ((e13 :: none :: (some (int e9)) :: (some (int e14)) :: (some (int e8)) :: (nn29 (nn48 (nn48 [])))), e18))) (.need (!(leI e8 e5)) (.need e12 (.fork (eqI (@pkI s e9) (34 : Int)) (.leaf ((@ExP.goto 2), ((e13 :: none :: (some (int e9)) :: (some (int e14)) :: (some (int e8)) :: (nn29 (nn48 (nn48 [])))), e18))) (.need e12 (.fork (!(@nmdB s e9)) (.leaf ((@ExP.pan e9 (Int.ofNat 30)), ([], e18))) (.need (@isSo (@And (e10 = e10) (@And e19 True))) (.fork (!(eqI (@fulE e14 e8) e5)) (.leaf ((@ExP.pan e9 (@fulE e14 e8)), ([], e18))) (.need (@isSo (@And (e10 = e10) (@And e19 ((eqI (@fulE e14 e8) e5) = true)))) (.need e12 (.fork ((@hedR s e9)).bad (.leaf ((@ExP.pan ((@hedR s e9)).pl (Int.ofNat 30)), ([], e18))) (.need (@isSo (@And (e10 = e10) (@And e4 (@And e11 (((@hedR s e9)).bad = false))))) (.need (@isSo (@And (e17 = e17) (@And (e16 = e16) (@And (e15 = e15) (@And ([e21] = [e21]) (@And (@And ((@ByteArray.size ((@hedN s e9)).tag) ≤ 9223372036854775807) (@And ((@ByteArray.size ((@hedN s e9)).id) ≤ 9223372036854775807) (@And (@And ((((@hedR s e9)).cls).length ≤ 17592186044416) (∀ (s_1 : ByteArray), s_1 ∈ (hedN s (scI mblB s a)).cls → s_1.size ≤ maxLen)) (@And (@And ((((@hedR s e9)).ats).length ≤ 17592186044416) (∀ (t : AttrV), t ∈ (hedN s (scI mblB s a)).atts → t.Ok)) ((@ByteArray.size ((@hedN s e9)).text) ≤ 9223372036854775807))))) (@And ((@elemB (@hedN s e9)) = true) (@And ((ns).length < 1024) (@And ((os).length < 64) (@Or ((ns).length = 0) (@Not ((os).length = 0)))))))))))) (.need (@isSo (@And ((@HAppend.hAppend _ _ _ _ (@HAppend.hAppend _ _ _ _ [] [(int e9), (int e5)]) []) = [(int e9), (int (Int.ofNat 0))]) e22)) (.need (@isSo (@And (e24 = e24) (@And e4 (@And (@And (e5 ≤ ((@hedR s e9)).pl) (((@hedR s e9)).pl ≤ e6)) e7)))) (.need (@isSo (@And (e26 = e26) (@And e4 (@And (@And (e5 ≤ e25) (e25 ≤ e6)) e7)))) (.fork (eqI (@pkI s e25) (123 : Int)) (.leaf ((@ExP.goto 0), ((e13 :: none :: (some e23) :: e27 :: (some (int (w64 (e8 + (1 : Int))))) :: (nn29 (nn48 (nn48 [])))), (@Mem.mk ((4 + 1) + 1) e28 (e29 :: e30 :: [none, none, e31, (some (@Blk.mk (e1 :: [(int (w64 (e25 + (1 : Int)))), e2]) 52 none))]))))) (.need (@isSo (@And (e31 = e31) (@And (e30 = e30) (@And (e29 = e29) (@And e4 (@And (((@HAppend.hAppend _ _ _ _ os [e14])).length ≤ 64) (@Not (((@HAppend.hAppend _ _ _ _ os [e14])).length = 0)))))))) (.need (@isSo (@And ((@HAppend.hAppend _ _ _ _ (@HAppend.hAppend _ _ _ _ [] [e23, (int e5)]) []) = [e23, (int (Int.ofNat 0))]) e22)) (.leaf ((@ExP.goto 3), ((e13 :: none :: (some e23) :: e27 :: (some (int e8)) :: (nn29 (nn48 (nn48 [])))), (@Mem.mk ((((4 + 1) + 1) + 1) + 1) (((e28 + 1) + 1) + 1) ((some (@Blk.mk [] 3 (some (@Rw.mk (e32).length 1 (@zcell e32))))) :: e30 :: (none :: none :: [none, none, (some (@Blk.mk [(@AV.own ((4 + 1) + 1) ((@HAppend.hAppend _ _ _ _ ns [(@putN (@hedN s e9) os)])).length 6), (@AV.own (((4 + 1) + 1) + 1) (e32).length 1)] 70 none)), (some (@Blk.mk (e1 :: [e23, e2]) 52 none))])))))))))))))))))))))))))) (.need (!(!(leI e8 e5))) (.need e12 (.fork (!(@nmdB s e9)) (.leaf ((@ExP.pan e9 (Int.ofNat 30)), ([], e18))) (.need (@isSo (@And (e10 = e10) (@And e19 True))) (.fork (!(eqI (@fulE e14 e8) e5)) (.leaf ((@ExP.pan e9 (@fulE e14 e8)), ([], e18))) (.need (@isSo (@And (e10 = e10) (@And e19 ((eqI (@fulE e14 e8) e5) = true)))) (.need e12 (.fork ((@hedR s e9)).bad (.leaf ((@ExP.pan ((@hedR s e9)).pl (Int.ofNat 30)), ([], e18))) (.need (@isSo (@And (e10 = e10) (@And e4 (@And e11 (((@hedR s e9)).bad = false))))) (.need (@isSo (@And (e17 = e17) (@And (e16 = e16) (@And (e15 = e15) (@And ([e21] = [e21]) (@And (@And ((@ByteArray.size ((@hedN s e9)).tag) ≤ 9223372036854775807) (@And ((@ByteArray.size ((@hedN s e9)).id) ≤ 9223372036854775807) (@And (@And ((((@hedR s e9)).cls).length ≤ 17592186044416) (∀ (s_1 : ByteArray), s_1 ∈ (hedN s (scI mblB s a)).cls → s_1.size ≤ maxLen)) (@And (@And ((((@hedR s e9)).ats).length ≤ 17592186044416) (∀ (t : AttrV), t ∈ (hedN s (scI mblB s a)).atts → t.Ok)) ((@ByteArray.size ((@hedN s e9)).text) ≤ 9223372036854775807))))) (@And ((@elemB (@hedN s e9)) = true) (@And ((ns).length < 1024) (@And ((os).length < 64) (@Or ((ns).length = 0) (@Not ((os).length = 0)))))))))))) (.need (@isSo (@And ((@HAppend.hAppend _ _ _ _ (@HAppend.hAppend _ _ _ _ [] [(int e9), (int e5)]) []) = [(int e9), (int (Int.ofNat 0))]) e22)) (.need (@isSo (@And (e24 = e24) (@And e4 (@And (@And (e5 ≤ ((@hedR s e9)).pl) (((@hedR s e9)).pl ≤ e6)) e7)))) (.need (@isSo (@And (e26 = e26) (@And e4 (@And (@And (e5 ≤ e25) (e25 ≤ e6)) e7)))) (.fork (eqI (@pkI s e25) (123 : Int)) (.leaf ((@ExP.goto 0), ((e13 :: none :: (some e23) :: e27 :: (some (int (w64 (e8 + (1 : Int))))) :: (nn29 (nn48 (nn48 [])))), (@Mem.mk ((4 + 1) + 1) e28 (e29 :: e30 :: [none, none, e31, (some (@Blk.mk (e1 :: [(int (w64 (e25 + (1 : Int)))), e2]) 52 none))]))))) (.need (@isSo (@And (e31 = e31) (@And (e30 = e30) (@And (e29 = e29) (@And e4 (@And (((@HAppend.hAppend _ _ _ _ os [e14])).length ≤ 64) (@Not (((@HAppend.hAppend _ _ _ _ os [e14])).length = 0)))))))) (.need (@isSo (@And ((@HAppend.hAppend _ _ _ _ (@HAppend.hAppend _ _ _ _ [] [e23, (int e5)]) []) = [e23, (int (Int.ofNat 0))]) e22)) (.leaf ((@ExP.goto 3), ((e13 :: none :: (some e23) :: e27 :: (some (int e8)) :: (nn29 (nn48 (nn48 [])))), (@Mem.mk ((((4 + 1) + 1) + 1) + 1) (((e28 + 1) + 1) + 1) ((some (@Blk.mk [] 3 (some (@Rw.mk (e32).length 1 (@zcell e32))))) :: e30 :: (none :: none :: [none, none, (some (@Blk.mk [(@AV.own ((4 + 1) + 1) ((@HAppend.hAppend _ _ _ _ ns [(@putN (@hedN s e9) os)])).length 6), (@AV.own (((4 + 1) + 1) + 1) (e32).length 1)] 70 none)), (some (@Blk.mk (e1 :: [e23, e2]) 52 none))]))))))))))))))))))))))))) (by kernel_rfl) ?_
  unfold tN ndT'
  conv => zeta
  refine need_so ⟨rfl, rfl, h⟩ (fork_ok (fun q => ?_) (fun q => ?_))
  · have q : leI os.length 0 = false := by simpa using q
    rw [q]
    rw [leI_f] at q
    refine need_so ⟨rfl, rfl, hb⟩ (fork_ok (fun q1 => ?_) (fun q1 => need_t rfl (need_so ⟨rfl, rfl, hb⟩ (fork_ok (fun q2 => ?_) (fun q2 => ?_)))))
    · rw [q1]
      have hlt := pk_lt (by decide) q1
      exact ⟨_, (by kernel_rfl : findLabel trC 1 = some (pieceAt trC 2)), JumpT.stamp 0 (tr_end ih (m + 1) _ _ ns os (hm 1) ⟨by have := hb.1; omega, h.2⟩ hb.1.1 (by omega) hs (by omega))⟩
    · rw [q1, q2]
      exact ⟨_, (by kernel_rfl : findLabel trC 2 = some (pieceAt trC 3)), JumpT.stamp 0 (tr_words ih m _ _ ns os (hm 0) hb (by omega) hs (by omega))⟩
    · rw [q1, q2]
      unfold elT
      refine need_so ⟨rfl, rfl, hb⟩ (fork_ok (fun q3 => ?_) (fun q3 => need_so ⟨rfl, rfl, trivial⟩ (fork_ok (fun q4 => ?_) (fun q4 => need_so ⟨rfl, rfl, ?_⟩ (need_so ⟨rfl, rfl, hb⟩ (fork_ok (fun q5 => ?_) (fun q5 => need_so ⟨rfl, rfl, hb, q5⟩ (need_so ⟨rfl, rfl, rfl, rfl, ?_⟩ (need_so ⟨rfl, rfl⟩ (need_so ⟨rfl, rfl, (hed_in hb q5).1⟩ (need_so ⟨rfl, rfl, scI_in (hed_in hb q5).1⟩ (fork_ok (fun q6 => ?_) (fun q6 => need_so ⟨rfl, rfl, rfl, rfl, ?_⟩ (need_so ⟨rfl, rfl⟩ ?_))))))))))))))
      · have q3 : nmdB s (scI mblB s a) = false := by simpa using q3
        rw [q3]
        exact rfl
      · have q3 : nmdB s (scI mblB s a) = true := by simpa using q3
        have q4 : eqI (fulE ns.length os.length) 0 = false := by simpa using q4
        rw [q3, q4]
        exact rfl
      · simpa using q4
      · have q3 : nmdB s (scI mblB s a) = true := by simpa using q3
        have q4 : eqI (fulE ns.length os.length) 0 = true := by simpa using q4
        rw [q3, q4, q5]
        exact rfl
      · have q4 : eqI (fulE ns.length os.length) 0 = true := by simpa using q4
        have hf := ful_ok q4
        have hel := hed_elem hb q5
        exact ⟨hel.2, hel.1, hf.1, hf.2, hno⟩
      · have q3 : nmdB s (scI mblB s a) = true := by simpa using q3
        have q4 : eqI (fulE ns.length os.length) 0 = true := by simpa using q4
        have hf := ful_ok q4
        rw [q3, q4, q5, q6, (hwn q4).1, (hwn q4).2]
        have hp := hed_gt hb q5
        have hi := (hed_in hb q5).1
        have hlt := pk_lt (by decide) q6
        have hg := scI_le mblB s (hedR s (scI mblB s a)).pl hi.1.1 hi.1.2
        have hz : InM s (scI mblB s (hedR s (scI mblB s a)).pl + 1) := ⟨by have := hi.1; omega, h.2⟩
        have hwz : w64 (scI mblB s (hedR s (scI mblB s a)).pl + 1) = scI mblB s (hedR s (scI mblB s a)).pl + 1 := w64_in (by have := hi.1; omega)
        rw [hwz]
        refine ⟨_, (by kernel_rfl : findLabel trC 0 = some (pieceAt trC 1)), JumpT.ren [0, 1, 4, 5] rfl (trF_ren rfl rfl) (tr_ren (by decide) rfl rfl rfl rfl (NRows.base _) (ZRows.base _)) (ih _ _ _ _ _ (hm 2) hz (by omega) ⟨by rw [List.length_append, List.length_singleton]; omega, by rw [List.length_append, List.length_singleton]; omega⟩ (.inr (by rw [List.length_append, List.length_singleton]; omega)))⟩
      · have q4 : eqI (fulE ns.length os.length) 0 = true := by simpa using q4
        have hf := ful_ok q4
        exact ⟨by rw [List.length_append, List.length_singleton]; omega, by rw [List.length_append, List.length_singleton]; omega⟩
      · have q3 : nmdB s (scI mblB s a) = true := by simpa using q3
        have q4 : eqI (fulE ns.length os.length) 0 = true := by simpa using q4
        have hf := ful_ok q4
        rw [q3, q4, q5, q6, (hwn q4).1, List.dropLast_concat]
        have hp := hed_gt hb q5
        have hi := (hed_in hb q5).1
        exact ⟨_, (by kernel_rfl : findLabel trC 3 = some (pieceAt trC 4)), JumpT.ren [0, 1, 6, 7] rfl (trF_ren rfl rfl) (tr_ren (by decide) rfl rfl rfl rfl (NRows.base _) (ZRows.base _)) (tr_next ih (m + 1) _ _ _ os (hm 1) hi (by omega) ⟨by rw [List.length_append, List.length_singleton]; omega, hs.2⟩)⟩
  · have q : leI os.length 0 = true := by simpa using q
    rw [q]
    unfold elT
    refine need_t rfl ?_
    refine need_so ⟨rfl, rfl, hb⟩ (fork_ok (fun q3 => ?_) (fun q3 => need_so ⟨rfl, rfl, trivial⟩ (fork_ok (fun q4 => ?_) (fun q4 => need_so ⟨rfl, rfl, ?_⟩ (need_so ⟨rfl, rfl, hb⟩ (fork_ok (fun q5 => ?_) (fun q5 => need_so ⟨rfl, rfl, hb, q5⟩ (need_so ⟨rfl, rfl, rfl, rfl, ?_⟩ (need_so ⟨rfl, rfl⟩ (need_so ⟨rfl, rfl, (hed_in hb q5).1⟩ (need_so ⟨rfl, rfl, scI_in (hed_in hb q5).1⟩ (fork_ok (fun q6 => ?_) (fun q6 => need_so ⟨rfl, rfl, rfl, rfl, ?_⟩ (need_so ⟨rfl, rfl⟩ ?_))))))))))))))
    · have q3 : nmdB s (scI mblB s a) = false := by simpa using q3
      rw [q3]
      exact rfl
    · have q3 : nmdB s (scI mblB s a) = true := by simpa using q3
      have q4 : eqI (fulE ns.length os.length) 0 = false := by simpa using q4
      rw [q3, q4]
      exact rfl
    · simpa using q4
    · have q3 : nmdB s (scI mblB s a) = true := by simpa using q3
      have q4 : eqI (fulE ns.length os.length) 0 = true := by simpa using q4
      rw [q3, q4, q5]
      exact rfl
    · have q4 : eqI (fulE ns.length os.length) 0 = true := by simpa using q4
      have hf := ful_ok q4
      have hel := hed_elem hb q5
      exact ⟨hel.2, hel.1, hf.1, hf.2, hno⟩
    · have q3 : nmdB s (scI mblB s a) = true := by simpa using q3
      have q4 : eqI (fulE ns.length os.length) 0 = true := by simpa using q4
      have hf := ful_ok q4
      rw [q3, q4, q5, q6, (hwn q4).1, (hwn q4).2]
      have hp := hed_gt hb q5
      have hi := (hed_in hb q5).1
      have hlt := pk_lt (by decide) q6
      have hg := scI_le mblB s (hedR s (scI mblB s a)).pl hi.1.1 hi.1.2
      have hz : InM s (scI mblB s (hedR s (scI mblB s a)).pl + 1) := ⟨by have := hi.1; omega, h.2⟩
      have hwz : w64 (scI mblB s (hedR s (scI mblB s a)).pl + 1) = scI mblB s (hedR s (scI mblB s a)).pl + 1 := w64_in (by have := hi.1; omega)
      rw [hwz]
      refine ⟨_, (by kernel_rfl : findLabel trC 0 = some (pieceAt trC 1)), JumpT.ren [0, 1, 4, 5] rfl (trF_ren rfl rfl) (tr_ren (by decide) rfl rfl rfl rfl (NRows.base _) (ZRows.base _)) (ih _ _ _ _ _ (hm 2) hz (by omega) ⟨by rw [List.length_append, List.length_singleton]; omega, by rw [List.length_append, List.length_singleton]; omega⟩ (.inr (by rw [List.length_append, List.length_singleton]; omega)))⟩
    · have q4 : eqI (fulE ns.length os.length) 0 = true := by simpa using q4
      have hf := ful_ok q4
      exact ⟨by rw [List.length_append, List.length_singleton]; omega, by rw [List.length_append, List.length_singleton]; omega⟩
    · have q3 : nmdB s (scI mblB s a) = true := by simpa using q3
      have q4 : eqI (fulE ns.length os.length) 0 = true := by simpa using q4
      have hf := ful_ok q4
      rw [q3, q4, q5, q6, (hwn q4).1, List.dropLast_concat]
      have hp := hed_gt hb q5
      have hi := (hed_in hb q5).1
      exact ⟨_, (by kernel_rfl : findLabel trC 3 = some (pieceAt trC 4)), JumpT.ren [0, 1, 6, 7] rfl (trF_ren rfl rfl) (tr_ren (by decide) rfl rfl rfl rfl (NRows.base _) (ZRows.base _)) (tr_next ih (m + 1) _ _ _ os (hm 1) hi (by omega) ⟨by rw [List.length_append, List.length_singleton]; omega, hs.2⟩)⟩
theorem tr_loop (s : ByteArray) : ∀ n, NdAt s n := by
  intro n
  induction n with
  | zero => intro m a fr ns os hm h h2; have := h.1; omega
  | succ n ih =>
    intro m a fr ns os hm h h2 hs hno
    obtain ⟨m', rfl⟩ : ∃ m', m = m' + 3 := ⟨m - 3, by omega⟩
    exact tr_node ih m' a fr ns os (by omega) h (by omega) hs hno
end Sy
end Go.Proofs.Ytglkdhmikpejnaa
namespace Go.Proofs.Ytglkdhmikpejnaa
open Go Go.RowKit Pl Sy
namespace Sy
theorem tr_first {s : ByteArray} {n : Nat} (ih : NdAt s n) (a : Int) (h : InM s a) (h2 : s.size - a < n + 1) :
    JumpT 2 Try.prog trC (3 * n + 3) trC trE (trM s a [] []) (TrJ s (tN s (n + 1) a [] [])) := by
  have hb : InM s (scI mblB s a) := scI_in h
  have hle := scI_le mblB s a h.1.1 h.1.2
  have hl := h.2
  unfold limM at hl
  refine segJ (n := 3 * n + 2) 2 [cMbl s, cPek s, cNmd s, cFul s, cHed s, cOpn (hedN s (scI mblB s a)) [] [], cPut11, cClo [putN (hedN s (scI mblB s a)) []] [0]] [pFail, pHed s, pFul s] [(38, int 0), (37, .tup [])] 400 30 21 0 (by kernel_rfl) (true :: false :: true :: true :: true :: (ff29 (ff48 (ff48 [])))) (.yes (.auto 9 (.yes (.br (.auto 0 .done) (.yes (.auto 0 (.yes (.yes (.br .done (.yes (.yes (.yes (.yes (.yes (.br .done (.yes (.yes .done))))))))))))))))) (let e1 := (@AV.lit (@Value.string s)); let e2 := (@AV.ptr 1 0); let e3 := (some (@Blk.mk [e1, (int a), e2] 52 none)); let e4 := (([] : List AV) = []); let e5 := (0 : Int); let e6 := (((@ByteArray.size s) : Nat) : Int); let e7 := ((@ByteArray.size s) ≤ 1000000); let e8 := (@scI mblB s a); let e9 := (some (@Blk.mk [e1, (int e8), e2] 52 none)); let e10 := (@And (@And (e5 ≤ e8) (e8 ≤ e6)) e7); let e11 := (@isSo (@And (e9 = e9) (@And e4 e10))); let e12 := (some (@Blk.mk [] 3 (some (@Rw.mk 0 1 (@zcell []))))); let e13 := (some (@Blk.mk [] 40 (some (@Rw.mk 0 6 (@ndcell []))))); let e14 := (some (@Blk.mk [(@AV.own 2 0 6), (@AV.own 3 0 1)] 70 none)); let e15 := ([(int e5), (int e5)] = [(int e5), (int e5)]); let e16 := (@Value.tuple (@Array.mk _ [])); let e17 := (@AV.agg [(int ((@hedN s e8)).par), (@AV.lit (@Value.string ((@hedN s e8)).tag)), (@AV.lit (@Value.string ((@hedN s e8)).id)), (@AV.view (((@hedR s e8)).cls).length 1 (fun y0 => (fun y1 => (@AV.lit ([(@Value.string (((@hedR s e8)).cls.getD y0 (@ByteArray.mk (@Array.mk _ []))))].getD y1 e16))))), (@AV.view (((@hedR s e8)).ats).length 2 (fun y0 => (fun y1 => (@AV.lit ([(@Value.string ((((@hedR s e8)).ats.getD y0 attrNone)).name), (@Value.string ((((@hedR s e8)).ats.getD y0 attrNone)).value)].getD y1 e16))))), (@AV.lit (@Value.string ((@hedN s e8)).text))]); let e18 := ((eqI (Int.ofNat 0) e5) = true); let e19 := (int ((@hedR s e8)).pl); let e20 := (some (@Blk.mk [e1, e19, e2] 52 none)); let e21 := (@scI mblB s ((@hedR s e8)).pl); let e22 := (some (@Blk.mk [e1, (int e21), e2] 52 none)); let e23 := (some (int (1 : Int))); let e24 := (((((((0 + 1) + 1) + 1) + 1) + 1) + 1) + 1); let e25 := (some (@Blk.mk [] 3 (some (@Rw.mk 1 1 (@zcell (@HAppend.hAppend _ _ _ _ [] [e5])))))); let e26 := (@putN (@hedN s e8) []); let e27 := (some (@Blk.mk [] 40 (some (@Rw.mk ((@HAppend.hAppend _ _ _ _ [] [e26])).length 6 (@ndcell (@HAppend.hAppend _ _ _ _ [] [e26])))))); let e28 := (some (@Blk.mk [(@AV.own 4 ((@HAppend.hAppend _ _ _ _ [] [e26])).length 6), (@AV.own (4 + 1) 1 1)] 70 none)); let e29 := (some (@Blk.mk [] 40 (some (@Rw.mk ([e26]).length 6 (@ndcell [e26]))))); (.need (@isSo (@And (e3 = e3) (@And e4 (@And (@And (e5 ≤ a) (a ≤ e6)) e7)))) (.need e11 (.fork (!(@nmdB s e8)) (.leaf ((@ExP.pan e8 (Int.ofNat 30)), ([], (@Mem.mk 4 (0 + 1) [e12, e13, e14, e9])))) (.need (@isSo (@And (e9 = e9) (@And e15 True))) (.need (@isSo (@And (e9 = e9) (@And e15 (true = true)))) (.need e11 (.fork ((@hedR s e8)).bad (.leaf ((@ExP.pan ((@hedR s e8)).pl (Int.ofNat 30)), ([], (@Mem.mk 4 (0 + 1) [e12, e13, e14, e9])))) (.need (@isSo (@And (e9 = e9) (@And e4 (@And e10 (((@hedR s e8)).bad = false))))) (.need (@isSo (@And (e14 = e14) (@And (e13 = e13) (@And (e12 = e12) (@And ([e17] = [e17]) (@And (@And ((@ByteArray.size ((@hedN s e8)).tag) ≤ 9223372036854775807) (@And ((@ByteArray.size ((@hedN s e8)).id) ≤ 9223372036854775807) (@And (@And ((((@hedR s e8)).cls).length ≤ 17592186044416) (∀ (s_1 : ByteArray), s_1 ∈ (hedN s (scI mblB s a)).cls → s_1.size ≤ maxLen)) (@And (@And ((((@hedR s e8)).ats).length ≤ 17592186044416) (∀ (t : AttrV), t ∈ (hedN s (scI mblB s a)).atts → t.Ok)) ((@ByteArray.size ((@hedN s e8)).text) ≤ 9223372036854775807))))) (@And ((@elemB (@hedN s e8)) = true) (@And (0 < 1024) (@And (0 < 64) (@Or (0 = 0) (@Not (0 = 0)))))))))))) (.need (@isSo (@And ((@HAppend.hAppend _ _ _ _ (@HAppend.hAppend _ _ _ _ [] [(int e8), (int e5)]) []) = [(int e8), (int (Int.ofNat 0))]) e18)) (.need (@isSo (@And (e20 = e20) (@And e4 (@And (@And (e5 ≤ ((@hedR s e8)).pl) (((@hedR s e8)).pl ≤ e6)) e7)))) (.need (@isSo (@And (e22 = e22) (@And e4 (@And (@And (e5 ≤ e21) (e21 ≤ e6)) e7)))) (.fork (eqI (@pkI s e21) (123 : Int)) (.leaf ((@ExP.goto 0), (((some (@AV.ptr 0 0)) :: none :: (some e19) :: e23 :: e23 :: (nn29 (nn48 (nn48 [])))), (@Mem.mk ((4 + 1) + 1) e24 (e25 :: e27 :: [none, none, e28, (some (@Blk.mk (e1 :: [(int (w64 (e21 + (1 : Int)))), e2]) 52 none))]))))) (.need (@isSo (@And (e28 = (some (@Blk.mk [(@AV.own 4 ([e26]).length 6), (@AV.own (4 + 1) 1 1)] 70 none))) (@And (e27 = e29) (@And (e25 = (some (@Blk.mk [] 3 (some (@Rw.mk 1 1 (@zcell [e5])))))) (@And e4 (@And (1 ≤ 64) (@Not (1 = 0)))))))) (.need (@isSo (@And ((@HAppend.hAppend _ _ _ _ (@HAppend.hAppend _ _ _ _ [] [e19, (int e5)]) []) = [e19, (int (Int.ofNat 0))]) e18)) (.leaf ((@ExP.goto 3), (((some (@AV.ptr 0 0)) :: none :: (some e19) :: e23 :: (some (int e5)) :: (nn29 (nn48 (nn48 [])))), (@Mem.mk ((((4 + 1) + 1) + 1) + 1) (((e24 + 1) + 1) + 1) ((some (@Blk.mk [] 3 (some (@Rw.mk 0 1 (@zcell (@List.dropLast _ [e5])))))) :: e29 :: (none :: none :: [none, none, (some (@Blk.mk [(@AV.own ((4 + 1) + 1) ([e26]).length 6), (@AV.own (((4 + 1) + 1) + 1) 0 1)] 70 none)), (some (@Blk.mk (e1 :: [e19, e2]) 52 none))])))))))))))))))))))))) (by kernel_rfl) ?_
  unfold tN ndT' elT
  have e1 : leI (([] : List Int).length : Nat) 0 = true := rfl
  have e2 : eqI (fulE (([] : List NdV).length : Nat) (([] : List Int).length : Nat)) 0 = true := rfl
  rw [e1, e2]
  conv => zeta
  refine need_so ⟨rfl, rfl, h⟩ (need_so ⟨rfl, rfl, hb⟩ (fork_ok (fun q3 => ?_) (fun q3 => need_so ⟨rfl, rfl, trivial⟩ (need_so ⟨rfl, rfl, rfl⟩ (need_so ⟨rfl, rfl, hb⟩ (fork_ok (fun q5 => ?_) (fun q5 => need_so ⟨rfl, rfl, hb, q5⟩ (need_so ⟨rfl, rfl, rfl, rfl, ?_⟩ (need_so ⟨rfl, rfl⟩ (need_so ⟨rfl, rfl, (hed_in hb q5).1⟩ (need_so ⟨rfl, rfl, scI_in (hed_in hb q5).1⟩ (fork_ok (fun q6 => ?_) (fun q6 => need_so ⟨rfl, rfl, rfl, rfl, by decide, by decide⟩ (need_so ⟨rfl, rfl⟩ ?_))))))))))))))
  · have q3 : nmdB s (scI mblB s a) = false := by simpa using q3
    rw [q3]
    exact rfl
  · have q3 : nmdB s (scI mblB s a) = true := by simpa using q3
    rw [q3, q5]
    exact rfl
  · have hel := hed_elem hb q5
    exact ⟨hel.2, hel.1, by decide, by decide, .inl rfl⟩
  · have q3 : nmdB s (scI mblB s a) = true := by simpa using q3
    rw [q3, q5, q6]
    have hp := hed_gt hb q5
    have hi := (hed_in hb q5).1
    have hlt := pk_lt (by decide) q6
    have hg := scI_le mblB s (hedR s (scI mblB s a)).pl hi.1.1 hi.1.2
    have hz : InM s (scI mblB s (hedR s (scI mblB s a)).pl + 1) := ⟨by have := hi.1; omega, h.2⟩
    have hwz : w64 (scI mblB s (hedR s (scI mblB s a)).pl + 1) = scI mblB s (hedR s (scI mblB s a)).pl + 1 := w64_in (by have := hi.1; omega)
    rw [hwz]
    exact ⟨_, (by kernel_rfl : findLabel trC 0 = some (pieceAt trC 1)), JumpT.ren [0, 1, 4, 5] rfl (trF_ren rfl rfl) (tr_ren (by decide) rfl rfl rfl rfl (NRows.base [putN (hedN s (scI mblB s a)) []]) (ZRows.base [0])) (ih (3 * n + 2) _ _ [putN (hedN s (scI mblB s a)) []] [0] (by omega) hz (by omega) ⟨(by show 1 ≤ 1024; decide), by decide⟩ (.inr (by decide)))⟩
  · have q3 : nmdB s (scI mblB s a) = true := by simpa using q3
    rw [q3, q5, q6]
    have hp := hed_gt hb q5
    have hi := (hed_in hb q5).1
    exact ⟨_, (by kernel_rfl : findLabel trC 3 = some (pieceAt trC 4)), JumpT.ren [0, 1, 6, 7] rfl (trF_ren rfl rfl) (tr_ren (by decide) rfl rfl rfl rfl (NRows.base [putN (hedN s (scI mblB s a)) []]) (ZRows.base [])) (tr_next ih (3 * n + 1) _ _ [putN (hedN s (scI mblB s a)) []] [] (by omega) hi (by omega) ⟨(by show 1 ≤ 1024; decide), by decide⟩)⟩
end Sy
noncomputable def treeR (s : ByteArray) : TrR := tN s (s.size + 2) 0 [] []
def TrR.isOk : TrR → Bool
  | .bad _ _ => false
  | .ok _ _ => true
def TrR.k : TrR → Int
  | .bad k _ => k
  | .ok a _ => a
def TrR.e : TrR → Int
  | .bad _ e => e
  | .ok _ _ => 0
def TrR.ns : TrR → List NdV
  | .bad _ _ => []
  | .ok _ ns => ns
namespace Sy
abbrev bd0 : Blk := ⟨[.lit (.slice none 0 0), .lit (.slice none 0 0)], 70, none⟩
abbrev trM0 (s : ByteArray) : Mem := ⟨2, 0, [some bd0, some (mrB s 0 (.ptr 1 0))]⟩
noncomputable def trT (s : ByteArray) : Tr (ExP × Fr × Mem) := .fork (treeR s).isOk (.leaf (.norm, trE, trM s (treeR s).k (treeR s).ns [])) (.leaf (.pan (treeR s).k (treeR s).e, [], trM0 s))
theorem tr_all (s : ByteArray) (h : limM s.size) : ScopeTo Try.prog trC trE (trM0 s) (selP (trT s)) := by
  have h0 : InM s 0 := ⟨⟨Int.le_refl 0, by omega⟩, h⟩
  refine JumpT.to (T := 2) (n := 3 * (s.size + 1) + 3) ?_ (Nat.le_refl _)
  refine JumpT.nilc 1 0 _ 40 6 (ndcell []) (Nat.le_refl _) rfl rfl ?_
  refine JumpT.nilc 1 1 _ 3 1 (zcell []) (show 2 ≤ 3 by decide) rfl rfl ?_
  refine JumpT.stamp 0 ?_
  refine (JumpT.out (tr_first (tr_loop s (s.size + 1)) 0 h0 (by omega))).mono fun ex F M hg => ?_
  change TrG s (treeR s) ex F M at hg
  unfold trT
  cases hr : treeR s with
  | bad k e =>
    rw [hr] at hg
    have hg : ex = .pan k e := hg
    subst hg
    exact ⟨[], trM0 s, .inr ⟨rfl, rfl⟩⟩
  | ok a ns =>
    rw [hr] at hg
    obtain ⟨rfl, rfl, rfl⟩ := hg
    exact Or.inl ⟨rfl, rfl⟩
noncomputable abbrev scTr (s : ByteArray) : Sc Try.prog 21 where
  S := formP (fun _ _ => some ()) (fun _ => trE) (fun _ => trM0 s) (fun _ => limM s.size) (fun _ => trT s) (true :: (ff33 (ff48 (ff48 []))))
  one := by kernel_rfl
  ok := formP_ok fun _ h => tr_all s h
end Sy
theorem Sy.tre_t (s : ByteArray) (h : limM s.size) : CallP Try.prog 21 [.ptr 0 0] (trM0 s) fun r => match r with
    | .ret v M' => (treeR s).isOk = true ∧ v = .tup [] ∧ M' = trM s (treeR s).k (treeR s).ns []
    | .pan k e => (treeR s).isOk = false ∧ k = (treeR s).k ∧ e = (treeR s).e :=
  toS [] [] [] [] (scTr s) 400 30 (.br .done .done) (let e1 := (@Mem.mk 2 0 [(some bd0), (some (@Blk.mk [(@AV.lit (@Value.string s)), (int (0 : Int)), (@AV.ptr 1 0)] 52 none))]); (.need (@isSo (@And (((some (@AV.ptr 0 0)) :: (nn33 (nn48 (nn48 [])))) = trE) (e1 = e1))) (.need (@isSo ((@ByteArray.size s) ≤ 1000000)) (.fork (@TrR.isOk (@treeR s)) (.leaf (@RP.ret (@AV.tup []) (@Mem.mk 4 0 [(some (@Blk.mk [] 3 (some (@Rw.mk 0 1 (@zcell []))))), (some (@Blk.mk [] 40 (some (@Rw.mk ((@TrR.ns (@treeR s))).length 6 (@ndcell (@TrR.ns (@treeR s))))))), (some (@Blk.mk [(@AV.own 2 ((@TrR.ns (@treeR s))).length 6), (@AV.own 3 0 1)] 70 none)), (some (@Blk.mk [(@AV.lit (@Value.string s)), (int (@TrR.k (@treeR s))), (@AV.ptr 1 0)] 52 none))]))) (.leaf (@RP.pan (@TrR.k (@treeR s)) (@TrR.e (@treeR s)))))))) (by kernel_rfl) (need_so ⟨rfl, rfl⟩ (need_so h (fork_ok (fun q => ⟨q, rfl, rfl⟩) (fun q => ⟨q, rfl, rfl⟩))))
end Go.Proofs.Ytglkdhmikpejnaa
namespace Go.Proofs.Ytglkdhmikpejnaa
open Go Go.RowKit Pl Sy
theorem ta_nil (w : World) : (Instr.typeAssert .nilIface 20 46 true).run Try.prog w = .ok (.tuple #[.agg #[.int .i64 0, .int .i64 0], .bool false]) w := by kernel_rfl
theorem ta_some (k e : Int) (w : World) : (Instr.typeAssert (.iface 46 (.agg #[.int .i64 k, .int .i64 e])) 20 46 true).run Try.prog w = .ok (.tuple #[.agg #[.int .i64 k, .int .i64 e], .bool true]) w := by kernel_rfl
namespace Sy
noncomputable def bodyOf (f : FuncId) : Code := match Try.prog.funcs[f]? with
  | some fn => (match fn.body with | some c => c | none => .skip)
  | none => .skip
def cFst : Code → Code | .seq a _ => a | c => c
def cSnd : Code → Code | .seq _ b => b | c => c
def cThen : Code → Code | .cond _ a _ => a | c => c
theorem loopsOk_nil [Dfs] {P : Program} {lp : Nat → Option Summ} : ∀ (c : Code), loopsOf c = [] → LoopsOk P lp c
  | .seq a b, h => by
    simp only [loopsOf, List.append_eq_nil_iff] at h
    exact ⟨loopsOk_nil a h.1, loopsOk_nil b h.2⟩
  | .cond _ a b, h => by
    simp only [loopsOf, List.append_eq_nil_iff] at h
    exact ⟨loopsOk_nil a h.1, loopsOk_nil b h.2⟩
  | .block _ b, h => loopsOk_nil b h
  | .scope b, h => loopsOk_nil b h
  | .loop b, h => by cases h
  | .skip, _ | .label _, _ | .region .., _ | .exit _, _ | .ret, _ | .goto _, _ | .refuse _, _ | .rangeFunc .., _ => trivial
theorem scOk_nil [Dfs] {P : Program} : ∀ (c : Code), ScOk P none c
  | .seq a b => ⟨scOk_nil a, scOk_nil b⟩
  | .cond _ a b => ⟨scOk_nil a, scOk_nil b⟩
  | .block _ b => scOk_nil b
  | .scope b => fun S h => by cases h
  | .loop b => trivial
  | .skip | .label _ | .region .. | .exit _ | .ret | .goto _ | .refuse _ | .rangeFunc .. => trivial
theorem FR.maskD [Dfs] {ρ : Rho} {F : Fr} {a : Act} (h : FR ρ F a) (p : List Bool) : FR ρ (maskF p F) a := ⟨by rw [maskF_len, h.len], fun t v hv => h.val t v (maskF_get F p t v hv), h.defers⟩
theorem codeC [Dfs] (l : List (Con Try.prog)) (pl : List (PCon Try.prog)) (more : List (FuncId × AV)) (k m : Nat) (c : Code) (hl : (loopsOf c).isEmpty = true) (p : List Bool) {F : Fr} {M : Mem} {w0 : World} {ρ : Rho} {a : Act} {w : World} (hF : FR ρ F a) (hW : WR w0 ρ M w) (d : D) (t : Tr (ExP × Fr × Mem)) {Q : Exit → Act → World → Prop}
    (h : codeP Try.prog (table l) (psOf pl more) (callK Try.prog (table l) (lpOf ([] : List (Lp Try.prog))) k m) (fun _ => none) none c F M d (fun ex F' M' _ => .leaf (ex, maskP p ex F', M')) = t)
    (ht : t.Ok fun r => ∀ ρ' a' w', Ext ρ ρ' → EndP w0 ρ' r.1 r.2.1 r.2.2 a' w' → Q r.1.to a' w') : c.wp Try.prog Q a w := by
  subst h
  have hlp : LoopsOk Try.prog (fun _ => none) c := loopsOk_nil c (by simpa using hl)
  refine codeP_sound plain mixed (table_ok l) (pansOf_ok pl) (callK_ok plain mixed (table_ok l) (lps_ok ([] : List (Lp Try.prog))) k m) c hlp (scOk_nil c) hF hW ht fun ex F' M' d' ρ' a' w' h0 h1 h2 => ?_
  cases ex with
  | norm => exact h0 ρ' a' w' h1 ⟨h2.1.maskD p, h2.2⟩
  | exit id => exact h0 ρ' a' w' h1 ⟨h2.1.maskD p, h2.2⟩
  | ret => exact h0 ρ' a' w' h1 ⟨h2.1.maskD p, h2.2⟩
  | goto lb => exact h0 ρ' a' w' h1 ⟨h2.1.maskD p, h2.2⟩
  | pan kk e => exact h0 ρ' a' w' h1 h2
abbrev rcL (v : AV) : Blk := ⟨[v], 22, none⟩
abbrev rcK (v : AV) : Blk := ⟨[v], 3, none⟩
abbrev rcE (v : AV) : Blk := ⟨[v], 23, none⟩
abbrev paF : Fr := (some (.ptr 0 0) :: some (.ptr 1 0) :: some (.ptr 2 0) :: some (.ptr 5 0) :: (nn11 []))
end Sy
theorem catch_idle (p q r : Addr) (w : World) : CallsD Try.prog 19 #[.pointer (some p), .pointer (some q), .pointer (some r)] .returning w fun e u' w' => e = .returned (.tuple #[]) ∧ u' = .returning ∧ ∃ cur, w' = w.alloc (.cells cur 46) := by
  refine callsD_of_wpS Try.func19 rfl fun c₀ cs hu => ?_
  simp only [Try.ntmps19, List.size_toArray, List.length_cons, List.length_nil, Nat.reduceAdd, Nat.reduceSub, Array.replicate_succ,
     Array.replicate_zero, List.push_toArray, List.append_toArray, List.nil_append, List.cons_append]
  apply wpS_seq
  apply wpS_region
  simp [wpOpsS, go_sem, recoverD, hu, Exit.thenS, ta_nil]
  apply wpS_seq
  apply wpS_region
  simp [wpOpsS, go_sem, Exit.thenS]
  refine wpS_cond (t := false) (by simp [Act.eval]) ?_
  simp only [Bool.false_eq_true, if_false]
  refine wpS_of_wp (wp_skip ?_)
  cases c₀
  simp_all [bodyPostS, results, (show Try.f19.results = #[] from rfl)]
  exact ⟨_, rfl⟩
theorem catch_fault {w0 : World} {ρ : Rho} {w : World} {k e : Int} (hW : WR w0 ρ ⟨5, 0, [none, none, some (rcE (int 0)), some (rcK (int 0)), some (rcL (.lit (.slice none 0 0)))]⟩ w) {p q r : Addr} (hp : rel ρ (.ptr 0 0) (.pointer (some p))) (hq : rel ρ (.ptr 1 0) (.pointer (some q))) (hr : rel ρ (.ptr 2 0) (.pointer (some r))) :
    CallsD Try.prog 19 #[.pointer (some p), .pointer (some q), .pointer (some r)] (.panicking [pent k e]) w fun x u' w' => x = .returned (.tuple #[]) ∧ settle u' = .returning ∧ ∃ ρ', Ext ρ ρ' ∧ WR w0 ρ' ⟨6, 0, [some ⟨[int k, int e], 46, none⟩, none, none, some (rcE (int e)), some (rcK (int k)), some (rcL (.lit (.slice none 0 0)))]⟩ w' := by
  refine callsD_of_wpS Try.func19 rfl fun c₀ cs hu => ?_
  simp only [Try.ntmps19, List.size_toArray, List.length_cons, List.length_nil, Nat.reduceAdd, Nat.reduceSub, Array.replicate_succ,
     Array.replicate_zero, List.push_toArray, List.append_toArray, List.nil_append, List.cons_append]
  apply wpS_seq
  apply wpS_region
  simp [wpOpsS, go_sem, recoverD, hu, Exit.thenS, pent, ta_some]
  apply wpS_seq
  apply wpS_region
  simp [wpOpsS, go_sem, Exit.thenS]
  refine wpS_cond (t := true) (by simp [Act.eval]) ?_
  simp only [if_true]
  refine wpS_of_wp ?_
  generalize hR : Code.region _ _ true = R
  have hR2 : R = cThen (cSnd (cSnd (bodyOf 19))) := by rw [← hR]; kernel_rfl
  rw [hR2]
  have h3 := hW.new (cs := [int k, int e]) (us := #[.int .i64 k, .int .i64 e]) 46 (fun i v hv => by
    rcases i with _ | _ | i
    · simp at hv; subst hv; exact ⟨_, rfl, by simp only [rel]; rfl⟩
    · simp at hv; subst hv; exact ⟨_, rfl, by simp only [rel]; rfl⟩
    · simp at hv)
  have hE := hW.fresh (w.heap.size, 2)
  have hF : FR (upd ρ 5 (w.heap.size, 2)) paF { tmps := #[.pointer (some p), .pointer (some q), .pointer (some r), .pointer (some ⟨w.heap.size, 0, none⟩), .bool true, .tuple #[.agg #[.int .i64 k, .int .i64 e], .bool true], .iface 46 (.agg #[.int .i64 k, .int .i64 e]), .tuple #[.agg #[.int .i64 k, .int .i64 e], .bool true], .agg #[.int .i64 k, .int .i64 e], .bool true, .bool true, undef, undef, undef, undef], defers := [] } := ⟨rfl, fun t v hv => by
    rcases t with _ | _ | _ | _ | t
    · simp at hv; subst hv; exact hp.ext hE
    · simp at hv; subst hv; exact hq.ext hE
    · simp at hv; subst hv; exact hr.ext hE
    · simp at hv; subst hv
      simp only [rel]
      exact ⟨w.heap.size, 2, by simp [upd], rfl⟩
    · exfalso
      rcases t with _ | _ | _ | _ | _ | _ | _ | _ | _ | _ | _ | t <;> simp at hv, rfl⟩
  refine codeC [] [] [] 400 30 _ (by kernel_rfl) (true :: (ff14 [])) hF (h3.restamp 0) .done (.leaf (ExP.norm, (((some (@AV.ptr 0 0)) :: (nn14 [])), (@Mem.mk 6 (((0 + 1) + 1) + 1) [(some (@Blk.mk [(int k), (int e)] 46 none)), none, none, (some (@Blk.mk [(int e)] 23 none)), (some (@Blk.mk [(int k)] 3 none)), (some (@Blk.mk [(@AV.lit (@Value.slice none 0 0))] 22 none))])))) (by kernel_rfl) ?_
  intro ρ' a' w' q1 q2
  refine ⟨q2.1.defers, _, rfl, .tuple #[], by simp [results, (show Try.f19.results = #[] from rfl), go_sem], rfl, rfl, ρ', hE.trans q1, q2.2.restamp 0⟩
end Go.Proofs.Ytglkdhmikpejnaa
namespace Go.Proofs.Ytglkdhmikpejnaa
open Go Go.RowKit Pl Sy
namespace Sy
abbrev pF2 : Fr := (none :: none :: some (.ptr 0 0) :: some (.ptr 1 0) :: some (.ptr 2 0) :: some (.ptr 4 0) :: (nn20 []))
abbrev pM2 (s : ByteArray) (k : Int) (ns : List NdV) : Mem := ⟨7, 0, [some (irowB []), some (nrowB ns), some (mrB s k (.ptr 3 0)), some (bdB 5 ns.length 6 0), some (rcE (int 0)), some (rcK (int 0)), some (rcL (.lit (.slice none 0 0)))]⟩
end Sy
theorem new_w (w : World) : Calls Try.prog 20 #[] w fun e w' => e = .returned (.pointer (some ⟨w.heap.size, 0, none⟩)) ∧ w' = w.alloc (.cells #[.slice none 0 0, .slice none 0 0] 70) := by
  go_enter Try.func20, Try.ntmps20
  go_wp2
  go_ret
  exact ⟨rfl, rfl⟩
namespace Sy
abbrev pM0 (s : ByteArray) : Mem := ⟨5, 0, [some (mrB s 0 (.ptr 3 0)), some bd0, some (rcE (int 0)), some (rcK (int 0)), some (rcL (.lit (.slice none 0 0)))]⟩
def pTau : Nat → Option Nat
  | 3 => some 1
  | 4 => some 0
  | 5 => some 2
  | 6 => some 3
  | _ => none
theorem pTau_some {x c : Nat} (h : pTau x = some c) : (x = 3 ∧ c = 1) ∨ (x = 4 ∧ c = 0) ∨ (x = 5 ∧ c = 2) ∨ (x = 6 ∧ c = 3) := by
  unfold pTau at h
  split at h <;> simp at h <;> omega
theorem pM0_ren (s : ByteArray) : RenM (nm [4, 3]) (pM0 s) (trM0 s) := .of rfl rfl (by decide) ⟨⟨3, _, rfl, rfl, rfl, ⟨rfl, rfl, trivial⟩, trivial⟩, ⟨4, _, rfl, rfl, rfl, ⟨rfl, rfl, ⟨rfl, rfl⟩, trivial⟩, trivial⟩, trivial⟩
theorem pM0_live (s : ByteArray) : Live (nm [4, 3]) (trM0 s) := fun z c hz => by
  rcases z with _ | _ | z
  · exact ⟨_, rfl⟩
  · exact ⟨_, rfl⟩
  · cases hz
theorem tree_ok (s : ByteArray) (hl : limM s.size) (h : (treeR s).isOk = true) : CallTo Try.prog 21 [.ptr 4 0] (pM0 s) fun v M' => v = .tup [] ∧ M' = pM2 s (treeR s).k (treeR s).ns := by
  refine CallTo.frameG (σ := nm [4, 3]) ((tre_t s hl).to fun k e hg => by rw [h] at hg; cases hg.1) ⟨⟨rfl, rfl⟩, trivial⟩ (pM0_ren s) (pM0_live s) ?_
  rintro v M2 ⟨_, rfl, rfl⟩
  refine ⟨pTau, _, _, ⟨rfl, rfl⟩, trivial, Nat.le_of_ble_eq_true rfl, fun x c hx => ?_, fun x c hlt hx => ?_, fun x x' c hx hx' => ?_, fun x B' hx => ?_⟩
  · show x < 7
    rcases pTau_some hx with h | h | h | h <;> omega
  · have hlt : x < 5 := hlt
    rcases pTau_some hx with ⟨rfl, rfl⟩ | ⟨rfl, rfl⟩ | ⟨rfl, rfl⟩ | ⟨rfl, rfl⟩
    · exact ⟨Nat.le_of_ble_eq_true rfl, rfl⟩
    · exact ⟨Nat.le_of_ble_eq_true rfl, rfl⟩
    · omega
    · omega
  · rcases pTau_some hx with h | h | h | h <;> rcases pTau_some hx' with h' | h' | h' | h' <;> omega
  · have nope : ∀ y : Nat, y < 3 → ∀ c, nm [4, 3] c ≠ some y := fun y hy c hc => by
      rcases c with _ | _ | c
      · have : some 4 = some y := hc
        simp at this; omega
      · have : some 3 = some y := hc
        simp at this; omega
      · cases hc
    rcases x with _ | _ | _ | _ | _ | _ | _ | x
    · exact .inl ⟨Nat.le_of_ble_eq_true rfl, nope 0 (by decide), hx⟩
    · exact .inl ⟨Nat.le_of_ble_eq_true rfl, nope 1 (by decide), hx⟩
    · exact .inl ⟨Nat.le_of_ble_eq_true rfl, nope 2 (by decide), hx⟩
    · have e : bdB 5 (treeR s).ns.length 6 0 = B' := by injection hx
      subst e
      exact .inr ⟨1, _, rfl, rfl, rfl, ⟨⟨rfl, rfl, rfl⟩, ⟨rfl, rfl, rfl⟩, trivial⟩, trivial⟩
    · have e : mrB s (treeR s).k (.ptr 3 0) = B' := by injection hx
      subst e
      exact .inr ⟨0, _, rfl, rfl, rfl, ⟨rfl, rfl, ⟨rfl, rfl⟩, trivial⟩, trivial⟩
    · have e : nrowB (treeR s).ns = B' := by injection hx
      subst e
      exact .inr ⟨2, _, rfl, rfl, rfl, trivial, rfl, rfl, fun i j hi hj => RenV.free _ (ndA_free _ _)⟩
    · have e : irowB [] = B' := by injection hx
      subst e
      exact .inr ⟨3, _, rfl, rfl, rfl, trivial, rfl, rfl, fun i j hi hj => RenV.free _ trivial⟩
    · exfalso
      rw [Mem.get_def, if_neg (by show ¬ x + 1 + 1 + 1 + 1 + 1 + 1 + 1 < 7; omega)] at hx
      cases hx
theorem tree_bad (s : ByteArray) (hl : limM s.size) (h : (treeR s).isOk = false) : ∀ w0 ρ us w, rels ρ [.ptr 4 0] us → WR w0 ρ (pM0 s) w →
    Calls Try.prog 21 us.toArray w fun x w' => ∃ ρ', x = .panicked [pent (treeR s).k (treeR s).e] ∧ Ext ρ ρ' ∧ WR w0 ρ' ⟨5, 0, [none, none, some (rcE (int 0)), some (rcK (int 0)), some (rcL (.lit (.slice none 0 0)))]⟩ w' := by
  refine PanTo.frameG (σ := nm [4, 3]) ((tre_t s hl).pan (fun v M' hg => by rw [h] at hg; cases hg.1) fun k e hg => hg.2) ⟨⟨rfl, rfl⟩, trivial⟩ (pM0_ren s) (pM0_live s) (Nat.le_refl 5) fun x B hx => ?_
  have nope : ∀ y : Nat, y < 3 → ∀ c, nm [4, 3] c ≠ some y := fun y hy c hc => by
    rcases c with _ | _ | c
    · have : some 4 = some y := hc
      simp at this; omega
    · have : some 3 = some y := hc
      simp at this; omega
    · cases hc
  rcases x with _ | _ | _ | _ | _ | x
  · exact ⟨Nat.le_of_ble_eq_true rfl, nope 0 (by decide), hx⟩
  · exact ⟨Nat.le_of_ble_eq_true rfl, nope 1 (by decide), hx⟩
  · exact ⟨Nat.le_of_ble_eq_true rfl, nope 2 (by decide), hx⟩
  · cases hx
  · cases hx
  · exfalso
    rw [Mem.get_def, if_neg (by show ¬ x + 1 + 1 + 1 + 1 + 1 < 5; omega)] at hx
    cases hx
end Sy
noncomputable def paV (s : ByteArray) : AV := match leI s.size 32768 with
  | false => .tup [.lit (.slice none 0 0), int 0, int 2]
  | true => match (treeR s).isOk with
    | true => .tup [nview (treeR s).ns, int 0, int 0]
    | false => .tup [.lit (.slice none 0 0), int (treeR s).k, int (treeR s).e]
namespace Sy
abbrev pW (s : ByteArray) (w : World) : World := ((((w.alloc (.cells #[.slice none 0 0] 22)).alloc (.cells #[.int .i64 0] 3)).alloc (.cells #[.int .i64 0] 23)).alloc (.cells #[.slice none 0 0, .slice none 0 0] 70)).alloc (.cells #[.string s, .int .i64 0, .pointer (some ⟨w.heap.size + 1 + 1 + 1, 0, none⟩)] 52)
theorem alloc_sz (w : World) (o : Obj) : (w.alloc o).heap.size = w.heap.size + 1 := Array.size_push ..
theorem par_start {w0 : World} {ρ : Rho} {w : World} (hW : WR w0 ρ M0 w) (s : ByteArray) : ∃ ρ5, Ext ρ ρ5 ∧ WR w0 ρ5 (pM0 s) (pW s w) ∧ ρ5 0 = some (w.heap.size, 1) ∧ ρ5 1 = some (w.heap.size + 1, 1) ∧ ρ5 2 = some (w.heap.size + 1 + 1, 1) ∧ ρ5 4 = some (w.heap.size + 1 + 1 + 1 + 1, 3) := by
  have lit1 : ∀ (ρ : Rho) (v : Value) (i : Nat) (a : AV), [AV.lit v][i]? = some a → ∃ u, #[v][i]? = some u ∧ rel ρ a u := fun ρ v i a h => by
    rcases i with _ | i
    · simp at h; subst h; exact ⟨v, rfl, by simp only [rel]⟩
    · simp at h
  have e1 := hW.fresh (w.heap.size, 1)
  have h1 := hW.new 22 (lit1 ρ (.slice none 0 0))
  have e2 := h1.fresh (w.heap.size + 1, 1)
  have h2 := h1.new 3 (lit1 _ (.int .i64 0))
  rw [alloc_sz] at h2
  have e3 := h2.fresh (w.heap.size + 1 + 1, 1)
  have h3 := h2.new 23 (lit1 _ (.int .i64 0))
  rw [alloc_sz, alloc_sz] at h3
  have e4 := h3.fresh (w.heap.size + 1 + 1 + 1, 2)
  have h4 := h3.new (cs := [.lit (.slice none 0 0), .lit (.slice none 0 0)]) (us := #[.slice none 0 0, .slice none 0 0]) 70 (fun i v hv => by
    rcases i with _ | _ | i
    · simp at hv; subst hv; exact ⟨_, rfl, by simp only [rel]; rfl⟩
    · simp at hv; subst hv; exact ⟨_, rfl, by simp only [rel]; rfl⟩
    · simp at hv)
  rw [alloc_sz, alloc_sz, alloc_sz] at h4
  have e5 := h4.fresh (w.heap.size + 1 + 1 + 1 + 1, 3)
  have h5 := h4.new (cs := [.lit (.string s), int 0, .ptr 3 0]) (us := #[.string s, .int .i64 0, .pointer (some ⟨w.heap.size + 1 + 1 + 1, 0, none⟩)]) 52 (fun i v hv => by
    rcases i with _ | _ | _ | i
    · simp at hv; subst hv; exact ⟨_, rfl, by simp only [rel]; rfl⟩
    · simp at hv; subst hv; exact ⟨_, rfl, by simp only [rel]; rfl⟩
    · simp at hv; subst hv
      refine ⟨_, rfl, ?_⟩
      simp only [rel]
      exact ⟨w.heap.size + 1 + 1 + 1, 2, rfl, rfl⟩
    · simp at hv)
  rw [alloc_sz, alloc_sz, alloc_sz, alloc_sz] at h5
  exact ⟨_, (((e1.trans e2).trans e3).trans e4).trans e5, h5.restamp 0, rfl, rfl, rfl, rfl⟩
end Sy
namespace Sy
theorem par_three {w0 : World} {ρ : Rho} {w : World} (hW : WR w0 ρ M0 w) (e : Int) : ∃ ρ3, Ext ρ ρ3 ∧ WR w0 ρ3 ⟨3, 0, [some (rcE (int e)), some (rcK (int 0)), some (rcL (.lit (.slice none 0 0)))]⟩ (((w.alloc (.cells #[.slice none 0 0] 22)).alloc (.cells #[.int .i64 0] 3)).alloc (.cells #[.int .i64 e] 23)) ∧ ρ3 0 = some (w.heap.size, 1) ∧ ρ3 1 = some (w.heap.size + 1, 1) ∧ ρ3 2 = some (w.heap.size + 1 + 1, 1) := by
  have lit1 : ∀ (ρ : Rho) (v : Value) (i : Nat) (a : AV), [AV.lit v][i]? = some a → ∃ u, #[v][i]? = some u ∧ rel ρ a u := fun ρ v i a h => by
    rcases i with _ | i
    · simp at h; subst h; exact ⟨v, rfl, by simp only [rel]⟩
    · simp at h
  have e1 := hW.fresh (w.heap.size, 1)
  have h1 := hW.new 22 (lit1 ρ (.slice none 0 0))
  have e2 := h1.fresh (w.heap.size + 1, 1)
  have h2 := h1.new 3 (lit1 _ (.int .i64 0))
  rw [alloc_sz] at h2
  have e3 := h2.fresh (w.heap.size + 1 + 1, 1)
  have h3 := h2.new 23 (lit1 _ (.int .i64 e))
  rw [alloc_sz, alloc_sz] at h3
  exact ⟨_, (e1.trans e2).trans e3, h3.restamp 0, rfl, rfl, rfl⟩
abbrev pF3 : Fr := (none :: none :: some (.ptr 0 0) :: some (.ptr 1 0) :: some (.ptr 2 0) :: (nn21 []))
theorem fr3 [Dfs] {ρ : Rho} {tm : Array Value} (hsz : tm.size = 26) (hp : rel ρ (.ptr 0 0) (tm.getD 2 undef)) (hq : rel ρ (.ptr 1 0) (tm.getD 3 undef)) (hr : rel ρ (.ptr 2 0) (tm.getD 4 undef)) : FR ρ pF3 ⟨tm, Dfs.ds⟩ := ⟨by rw [hsz]; rfl, fun t v hv => by
  rcases t with _ | _ | _ | _ | _ | t
  · simp at hv
  · simp at hv
  · simp at hv; subst hv; exact hp
  · simp at hv; subst hv; exact hq
  · simp at hv; subst hv; exact hr
  · exfalso
    rcases t with _ | _ | _ | _ | _ | _ | _ | _ | _ | _ | _ | _ | _ | _ | _ | _ | _ | _ | _ | _ | _ | t <;> simp at hv, rfl⟩
theorem leaves_res {w0 : World} {ρ : Rho} {M : Mem} {w : World} {tm : Array Value} {R : Ending → World → Prop} {v : AV} (hsz : tm.size = 26) (hp : rel ρ (.ptr 0 0) (tm.getD 2 undef)) (hq : rel ρ (.ptr 1 0) (tm.getD 3 undef)) (hr : rel ρ (.ptr 2 0) (tm.getD 4 undef)) (hW : WR w0 ρ M w) (hres : resultsA Try.prog pF3 M Try.f11 = some v) (hR : ∀ u, rel ρ v u → R (.returned u) w) : Leaves Try.prog Try.f11 tm R [] .returning w := by
  obtain ⟨u, r1, r2⟩ := resultsA_sound (fr3 hsz hp hq hr) hW hres
  exact ⟨u, r2, hR u r1⟩
end Sy
open Sy in
set_option maxRecDepth 20000 in
theorem Sy.par_t (s : ByteArray) (hD : limM s.size → (treeR s).isOk = true → DonC (treeR s).ns) : CallTo Try.prog 11 [.lit (.string s)] M0 fun v _ => v = paV s := fun w0 ρ us w hr hW => by
  simp only [rels, rel] at hr
  obtain ⟨u, us1, rfl, rfl, rfl⟩ := hr
  cases hlen : leI s.size 32768 with
  | false =>
    have hlen2 := hlen
    rw [leI_f] at hlen
    have hmf : ∀ (fn : Fn) (first cap : Array Value) (w : World), (Instr.makeFunc fn first cap).run Try.prog w = .ok (.func fn first cap) w := fun _ _ _ _ => rfl
    have hc : decide ((32768 : Int) < (s.size : Int)) = true := by simp; omega
    go_enter_defers Try.func11, Try.ntmps11
    generalize hR6 : Code.seq (Code.region 6 _ false) _ = RR
    go_wp2
    obtain ⟨ρ3, hE3, hW3, b0, b1, b2⟩ := par_three hW 2
    have hp : ∀ b g tot, ρ3 b = some (g, tot) → rel ρ3 (.ptr b 0) (.pointer (some ⟨g, 0, none⟩)) := fun b g tot h => by
      simp only [rel]
      exact ⟨g, tot, h, rfl⟩
    simp only [bodyPostD]
    exact leaves_res rfl (hp _ _ _ b0) (hp _ _ _ b1) (hp _ _ _ b2) hW3 (v := .tup [.lit (.slice none 0 0), int 0, int 2]) (by kernel_rfl) fun u r1 => ⟨ρ3, u, rfl, hE3, by unfold paV; rw [hlen2]; exact r1, _, hW3⟩
  | true =>
    have hlen2 := hlen
    rw [leI_t] at hlen
    have hlim : limM s.size := by unfold limM; omega
    have hmf : ∀ (fn : Fn) (first cap : Array Value) (w : World), (Instr.makeFunc fn first cap).run Try.prog w = .ok (.func fn first cap) w := fun _ _ _ _ => rfl
    have hc : decide ((32768 : Int) < (s.size : Int)) = false := by simp; omega
    obtain ⟨ρ5, hE5, hW5, b0, b1, b2, b4⟩ := par_start hW s
    have hargs : rels ρ5 [.ptr 4 0] [.pointer (some ⟨w.heap.size + 1 + 1 + 1 + 1, 0, none⟩)] := by
      simp only [rels, rel]
      exact ⟨_, _, rfl, ⟨_, _, b4, rfl⟩, rfl⟩
    cases hok : (treeR s).isOk with
    | true =>
      have key := tree_ok s hlim hok w0 ρ5 _ _ hargs hW5
      go_enter_defers Try.func11, Try.ntmps11
      generalize hR6 : Code.seq (Code.region 6 _ false) _ = RR
      go_wp2_with (first
        | (go_at_call 20; refine (new_w _).mono ?_; rintro e w' ⟨rfl, rfl⟩)
        | (go_at_call 21; refine key.mono ?_; rintro e w' ⟨ρ6, u6, v6, M6, rfl, hE6, hv6, hW6, rfl, rfl⟩))
      have hRR : RR = cSnd (cSnd (cSnd (cSnd (cSnd (bodyOf 11))))) := by rw [← hR6]; kernel_rfl
      clear hR6
      subst hRR
      letI : Dfs := ⟨[⟨.fn (.func 19) #[.pointer (some ⟨w.heap.size, 0, none⟩), .pointer (some ⟨w.heap.size + 1, 0, none⟩), .pointer (some ⟨w.heap.size + 1 + 1, 0, none⟩)], #[]⟩]⟩
      refine codeC [cDon (treeR s).ns] [] [] 400 30 _ (by kernel_rfl) (false :: false :: true :: true :: true :: (ff21 [])) (F := pF2) (M := pM2 s (treeR s).k (treeR s).ns) (ρ := ρ6) (w0 := w0) ⟨rfl, fun t v hv => ?_, rfl⟩ hW6 (.yes .done) (let k := (treeR s).k; let ns := (treeR s).ns; (let e1 := (some (@Blk.mk [(@AV.own 5 (ns).length 6), (@AV.own 6 0 1)] 70 none)); let e2 := (some (@Blk.mk [] 40 (some (@Rw.mk (ns).length 6 (@ndcell ns))))); let e3 := (some (@Blk.mk [] 3 (some (@Rw.mk 0 1 (@zcell []))))); let e4 := (int (0 : Int)); let e5 := (@AV.view (ns).length 6 (@ndcell ns)); (.need (@isSo (@And (e1 = e1) (@And (e2 = e2) (@And (e3 = e3) (@And (([] : List AV) = []) (@And (0 < (ns).length) (@And ((ns).length ≤ 1024) (∀ (x : NdV), x ∈ ns → x.cls.length ≤ 1024 ∧ x.atts.length ≤ 1024)))))))) (.leaf (ExP.ret, ((none :: none :: (some (@AV.ptr 0 0)) :: (some (@AV.ptr 1 0)) :: (some (@AV.ptr 2 0)) :: (nn21 [])), (@Mem.mk ((7 + 1) + 1) ((((((((0 + 1) + 1) + 1) + 1) + 1) + 1) + 1) + 1) (e3 :: e2 :: [none, none, (some (@Blk.mk [(@AV.lit (@Value.string s)), (int k), (@AV.ptr 3 0)] 52 none)), (some (@Blk.mk [(@AV.own 7 (ns).length 6), (@AV.own (7 + 1) 0 1)] 70 none)), (some (@Blk.mk (e4 :: (@List.drop _ (0 + ([e4]).length) [e4])) 23 none)), (some (@Blk.mk [e4] 3 none)), (some (@Blk.mk (e5 :: (@List.drop _ (0 + ([e5]).length) [e5])) 22 none))])))))))) (by kernel_rfl) ?_
      · have hp : ∀ b g tot, ρ5 b = some (g, tot) → rel ρ6 (.ptr b 0) (.pointer (some ⟨g, 0, none⟩)) := fun b g tot h => by
          simp only [rel]
          exact ⟨g, tot, hE6.blk _ _ h, rfl⟩
        rcases t with _ | _ | _ | _ | _ | _ | t
        · simp at hv
        · simp at hv
        · simp at hv; subst hv; exact hp _ _ _ b0
        · simp at hv; subst hv; exact hp _ _ _ b1
        · simp at hv; subst hv; exact hp _ _ _ b2
        · simp at hv; subst hv; exact hp _ _ _ b4
        · exfalso
          rcases t with _ | _ | _ | _ | _ | _ | _ | _ | _ | _ | _ | _ | _ | _ | _ | _ | _ | _ | _ | _ | t <;> simp at hv
      · refine need_so ⟨rfl, rfl, rfl, rfl, hD hlim hok⟩ ?_
        intro ρ7 a7 w7 q1 q2
        show Leaves _ _ _ _ a7.defers .returning w7
        rw [show a7.defers = _ from q2.1.defers]
        refine leaves_cons (f := 19) (args := #[.pointer (some ⟨w.heap.size, 0, none⟩), .pointer (some ⟨w.heap.size + 1, 0, none⟩), .pointer (some ⟨w.heap.size + 1 + 1, 0, none⟩)]) (by simp) (by simp [go_sem]) ?_
        refine (catch_idle _ _ _ _).mono ?_
        rintro e u' w8 ⟨rfl, rfl, cur, rfl⟩
        have hW8 := q2.2.extra (.cells cur 46)
        obtain ⟨u, r1, r2⟩ := resultsA_sound (fn := Try.f11) (v := .tup [nview (treeR s).ns, int 0, int 0]) q2.1 hW8 (by kernel_rfl)
        exact ⟨u, r2, ρ7, u, _, _, rfl, (hE5.trans hE6).trans q1, r1, hW8, by unfold paV; rw [hlen2, hok]⟩
    | false =>
      have key := tree_bad s hlim hok w0 ρ5 _ _ hargs hW5
      go_enter_defers Try.func11, Try.ntmps11
      generalize hR6 : Code.seq (Code.region 6 _ false) _ = RR
      go_wp2_with (first
        | (go_at_call 20; refine (new_w _).mono ?_; rintro e w' ⟨rfl, rfl⟩)
        | (go_at_call 21; refine key.mono ?_; rintro e w' ⟨ρ6, rfl, hE6, hW6⟩))
      clear hR6
      letI : Dfs := ⟨[⟨.fn (.func 19) #[.pointer (some ⟨w.heap.size, 0, none⟩), .pointer (some ⟨w.heap.size + 1, 0, none⟩), .pointer (some ⟨w.heap.size + 1 + 1, 0, none⟩)], #[]⟩]⟩
      have hp : ∀ b g tot, ρ5 b = some (g, tot) → rel ρ6 (.ptr b 0) (.pointer (some ⟨g, 0, none⟩)) := fun b g tot h => by
        simp only [rel]
        exact ⟨g, tot, hE6.blk _ _ h, rfl⟩
      show Leaves _ _ _ _ _ (.panicking [pent (treeR s).k (treeR s).e]) w'
      refine leaves_cons (f := 19) (args := #[.pointer (some ⟨w.heap.size, 0, none⟩), .pointer (some ⟨w.heap.size + 1, 0, none⟩), .pointer (some ⟨w.heap.size + 1 + 1, 0, none⟩)]) (by simp) (by simp [go_sem]) ?_
      refine (catch_fault hW6 (hp _ _ _ b0) (hp _ _ _ b1) (hp _ _ _ b2)).mono ?_
      rintro x u' w3 ⟨rfl, hs, ρ7, hE7, hW7⟩
      show Leaves _ _ _ _ [] (settle u') w3
      rw [hs]
      have hp7 : ∀ b g tot, ρ5 b = some (g, tot) → rel ρ7 (.ptr b 0) (.pointer (some ⟨g, 0, none⟩)) := fun b g tot h => (hp b g tot h).ext hE7
      exact leaves_res rfl (hp7 _ _ _ b0) (hp7 _ _ _ b1) (hp7 _ _ _ b2) hW7 (v := .tup [.lit (.slice none 0 0), int (treeR s).k, int (treeR s).e]) (by kernel_rfl) fun u r1 => ⟨ρ7, u, _, _, rfl, (hE5.trans hE6).trans hE7, r1, hW7, by unfold paV; rw [hlen2, hok]⟩
end Go.Proofs.Ytglkdhmikpejnaa
namespace Go.Proofs.Ytglkdhmikpejnaa
open Go Go.RowKit Pl Sy
structure BS (ns : List NdV) (os : List Int) : Prop where
  st : BSt ns.length ns os
  le : ns.length ≤ 1024
  pos : os.length ≠ 0 → 0 < ns.length
theorem BSt.norm {k : Nat} {ns : List NdV} {os : List Int} (h : BSt k ns os) : BSt ns.length ns os := ⟨h.bi, h.right, Nat.le_refl _, h.deep⟩
theorem BS.start : BS [] [] := ⟨BSt.start 0, by decide, fun h => absurd rfl h⟩
theorem tag_some {x : ByteArray} (h : nameL x.data.toList = true) : (!bytesEq x.data.toList []) = true := by
  rw [bytesEq_eq]
  cases hx : x.data.toList with
  | nil => rw [hx] at h; revert h; decide
  | cons c l => rfl
theorem elem_tag {n : NdV} (h : elemB n = true) : (!bytesEq n.tag.data.toList []) = true := by
  unfold elemB at h
  rw [Bool.and_eq_true] at h
  exact tag_some h.1
theorem elem_ndB {n : NdV} (h : elemB n = true) : ndB n = true := by
  rw [elem_nd, Bool.and_eq_true] at h
  exact h.2
theorem BS.opn {s : ByteArray} {b : Int} {ns : List NdV} {os : List Int} (h : BS ns os) (hb : InM s b) (hok : (hedR s b).bad = false) (hf : eqI (fulE ns.length os.length) 0 = true) (hno : ns.length = 0 ∨ os.length ≠ 0) : BS (ns ++ [putN (hedN s b) os]) os ∧ BS (ns ++ [putN (hedN s b) os]) (os ++ [(ns.length : Int)]) := by
  obtain ⟨f1, f2⟩ := ful_ok hf
  obtain ⟨h1, h2⟩ := hed_elem hb hok
  have hl : (ns ++ [putN (hedN s b) os]).length = ns.length + 1 := by simp
  have hp := h.st.push (putN (hedN s b) os) (putN_right os (elem_ndB h1) h2) rfl (by omega) (fun e => ⟨by subst e; rcases hno with q | q; exact q; exact absurd rfl q, elem_tag h1⟩)
  exact ⟨⟨hp.1.norm, by omega, fun _ => by omega⟩, ⟨(hp.2 (elem_tag h1)).norm, by omega, fun _ => by omega⟩⟩
theorem BS.wrd {s : ByteArray} {b : Int} {ns : List NdV} {os : List Int} (h : BS ns os) (hb : InM s b) (hok : wdBad s b = false) (hf : eqI (fulE ns.length os.length) 0 = true) (hno : os.length ≠ 0) : BS (ns ++ [wrdN (wdX s b) os]) os := by
  obtain ⟨f1, f2⟩ := ful_ok hf
  have ht := wd_text hb hok
  have hl : (ns ++ [wrdN (wdX s b) os]).length = ns.length + 1 := by simp
  have hx := wordN_right (n := ⟨0, ⟨#[]⟩, ⟨#[]⟩, [], [], wdX s b⟩) os ht ⟨Nat.zero_le _, Nat.zero_le _, ⟨Nat.zero_le _, fun _ hs => (by cases hs)⟩, ⟨Nat.zero_le _, fun _ hs => (by cases hs)⟩, by have := textL_size ht; show (wdX s b).size ≤ _; unfold maxLen; omega⟩
  have hp := h.st.push (wrdN (wdX s b) os) hx rfl (by omega) (fun e => by subst e; exact absurd rfl hno)
  exact ⟨hp.1.norm, by omega, fun _ => by omega⟩
theorem BS.clo {ns : List NdV} {os : List Int} (h : BS ns os) : BS ns os.dropLast := ⟨h.st.pop.norm, h.le, fun hl => h.pos fun e => hl (by rw [List.length_dropLast, e])⟩
def EndB (r : TrR) : Prop := ∀ a ns, r = .ok a ns → BS ns [] ∧ 0 < ns.length
theorem nxT_ok {s : ByteArray} {go : Int → List NdV → List Int → TrR} {a : Int} {ns : List NdV} {os : List Int} (h : BS ns os) (hp : 0 < ns.length) (hgo : os.length ≠ 0 → EndB (go a ns os)) : EndB (nxT s go a ns os) := fun a' ns' hr => by
  unfold nxT at hr
  split at hr
  · rename_i q
    rw [leI_f] at q
    exact hgo (by omega) a' ns' hr
  · rename_i q
    rw [leI_t] at q
    split at hr
    · simp at hr
      obtain ⟨rfl, rfl⟩ := hr
      have e : os = [] := List.eq_nil_of_length_eq_zero (by omega)
      rw [e] at h
      exact ⟨h, hp⟩
    · cases hr
theorem elT_ok {s : ByteArray} {go : Int → List NdV → List Int → TrR} {b : Int} {ns : List NdV} {os : List Int} (h : BS ns os) (hb : InM s b) (hno : ns.length = 0 ∨ os.length ≠ 0) (hgo : ∀ a ns os, InM s a → b < a → BS ns os → os.length ≠ 0 → EndB (go a ns os)) : EndB (elT s go b ns os) := fun a' ns' hr => by
  unfold elT at hr
  split at hr
  · cases hr
  · split at hr
    · cases hr
    · rename_i hf
      split at hr
      · cases hr
      · rename_i hok
        obtain ⟨o1, o2⟩ := h.opn hb hok hf hno
        have hi := hed_in hb hok
        have hg := hed_gt hb hok
        have hs := scI_le mblB s (hedR s b).pl hi.1.1.1 hi.1.1.2
        split at hr
        · rename_i q
          have hlt := pk_lt (by decide) q
          exact hgo _ _ _ ⟨by have := hb.1; omega, hb.2⟩ (by omega) o2 (by simp) a' ns' hr
        · exact nxT_ok o1 (by simp) (fun ho => hgo _ _ _ hi.1 hg o1 ho) a' ns' hr
theorem tN_ok (s : ByteArray) : ∀ (n : Nat) (a : Int) (ns : List NdV) (os : List Int), InM s a → BS ns os → (ns.length = 0 ∨ os.length ≠ 0) → EndB (tN s n a ns os) := by
  intro n
  induction n with
  | zero => intro a ns os ha h hno a' ns' hr; cases hr
  | succ n ih =>
    intro a ns os ha h hno
    have hb : InM s (scI mblB s a) := scI_in ha
    have hel : EndB (elT s (tN s n) (scI mblB s a) ns os) := elT_ok h hb hno fun a ns os ha _ h ho => ih a ns os ha h (.inr ho)
    unfold tN ndT'
    split
    · exact hel
    · rename_i q
      rw [leI_f] at q
      split
      · rename_i q1
        have hlt := pk_lt (by decide) q1
        exact nxT_ok h.clo (h.pos (by omega)) fun ho => ih _ _ _ ⟨by have := hb.1; omega, hb.2⟩ h.clo (.inr ho)
      · split
        · intro a' ns' hr
          unfold wrT at hr
          split at hr
          · cases hr
          · rename_i hf
            split at hr
            · cases hr
            · rename_i hok
              have hw := h.wrd hb hok hf (by omega)
              exact nxT_ok hw (by simp) (fun ho => ih _ _ _ (wdX_in hb hok).1 hw (.inr ho)) a' ns' hr
        · exact hel
theorem treeR_tree {s : ByteArray} (hl : limM s.size) (h : (treeR s).isOk = true) : TreeOk (treeR s).ns ∧ 0 < (treeR s).ns.length := by
  have h1 := tN_ok s (s.size + 2) 0 [] [] ⟨⟨Int.le_refl 0, by omega⟩, hl⟩ BS.start (.inl rfl)
  cases hr : treeR s with
  | bad k e => rw [hr] at h; cases h
  | ok a ns =>
    obtain ⟨h2, h3⟩ := h1 a ns hr
    exact ⟨h2.st.tree h2.le, h3⟩
theorem treeR_don {s : ByteArray} (hl : limM s.size) (h : (treeR s).isOk = true) : DonC (treeR s).ns := by
  obtain ⟨h1, h2⟩ := treeR_tree hl h
  exact ⟨h2, h1.1.1, fun x hx => by
    obtain ⟨k, hk, rfl⟩ := List.getElem_of_mem hx
    have := (h1.2 k hk).1
    have e : ndN (treeR s).ns k = (treeR s).ns[k] := by
      unfold ndN
      rw [Int.toNat_natCast, List.getD_eq_getElem?_getD, List.getElem?_eq_getElem hk]
      rfl
    rw [e] at this
    exact ndB_lens this⟩
end Go.Proofs.Ytglkdhmikpejnaa
namespace Go.Proofs.Ytglkdhmikpejnaa
open Go Go.RowKit Pl Sy
noncomputable def pNs (s : ByteArray) : List NdV := match leI s.size 32768 with
  | false => []
  | true => (treeR s).ns
noncomputable def pK (s : ByteArray) : Int := match leI s.size 32768 with
  | false => 0
  | true => match (treeR s).isOk with | true => 0 | false => (treeR s).k
noncomputable def pE (s : ByteArray) : Int := match leI s.size 32768 with
  | false => 2
  | true => (treeR s).e
theorem TrR.ns_bad {r : TrR} (h : r.isOk = false) : r.ns = [] := by
  cases r with
  | bad k e => rfl
  | ok a ns => cases h
theorem TrR.e_ok {r : TrR} (h : r.isOk = true) : r.e = 0 := by
  cases r with
  | bad k e => cases h
  | ok a ns => rfl
theorem Sy.nil_sub {x y : AV} : Sub (.tup [.lit (.slice none 0 0), x, y]) (.tup [nview [], x, y]) := fun ρ u hr => by
  simp only [rel, rels] at hr ⊢
  obtain ⟨l, rfl, a, l1, rfl, rfl, b, l2, rfl, h1, c, l3, rfl, h2, rfl⟩ := hr
  exact ⟨_, rfl, _, _, rfl, ⟨none, 0, rfl, Nat.le_refl _, Nat.zero_le _, fun _ => rfl, fun h => absurd h (by simp)⟩, _, _, rfl, h1, _, _, rfl, h2, rfl⟩
theorem Sy.par_v (s : ByteArray) : CallTo Try.prog 11 [.lit (.string s)] M0 fun v _ => v = .tup [nview (pNs s), int (pK s), int (pE s)] :=
  CallTo.as ((par_t s fun hl h => treeR_don hl h).mono fun v M' hv => by
    subst hv
    unfold paV pNs pK pE
    cases leI s.size 32768 with
    | false => exact nil_sub
    | true =>
      cases h : (treeR s).isOk with
      | true =>
        simp only [TrR.e_ok h]
        exact fun ρ u hr => hr
      | false =>
        simp only [TrR.ns_bad h]
        exact nil_sub)
noncomputable abbrev Sy.cPar : Con Try.prog := atX 11 (fun args => match args with | [.lit (.string s)] => some s | _ => none) (fun s => [.lit (.string s)]) (fun s => .tup [nview (pNs s), int (pK s), int (pE s)]) (fun _ => True) fun s _ => ⟨⟨⟨trivial, trivial⟩, ⟨nview_free _, trivial, trivial, trivial⟩⟩, par_v s⟩
theorem Sy.kno_t : CallTo Try.prog 9 [] M0 fun v _ => v = boo true :=
  toV [cPar] [] 400 30 (.yes (.yes (.yes (.auto 22 .done)))) (let e1 := (@AV.lit (@Value.string (@ByteArray.mk (@Array.mk _ [(97 : UInt8), (35 : UInt8), (98 : UInt8), (46 : UInt8), (99 : UInt8), (123 : UInt8), (100 : UInt8), (32 : UInt8), (34 : UInt8), (120 : UInt8), (32 : UInt8), (121 : UInt8), (34 : UInt8), (125 : UInt8)])))); let e2 := (@AV.lit (@Value.string (@ByteArray.mk (@Array.mk _ [(97 : UInt8), (123 : UInt8)])))); let e3 := (@AV.lit (@Value.string (@ByteArray.mk (@Array.mk _ [(97 : UInt8), (46 : UInt8), (98 : UInt8), (46 : UInt8), (123 : UInt8), (125 : UInt8)])))); (.need (@isSo (@And ((@HAppend.hAppend _ _ _ _ (@HAppend.hAppend _ _ _ _ [] [e1]) []) = [e1]) True)) (.need (@isSo (@And ((@HAppend.hAppend _ _ _ _ (@HAppend.hAppend _ _ _ _ [] [e2]) []) = [e2]) True)) (.need (@isSo (@And ((@HAppend.hAppend _ _ _ _ (@HAppend.hAppend _ _ _ _ [] [e3]) []) = [e3]) True)) (.leaf (boo true)))))) (by kernel_rfl) (need_so ⟨rfl, trivial⟩ (need_so ⟨rfl, trivial⟩ (need_so ⟨rfl, trivial⟩ rfl)))
noncomputable abbrev Sy.cKno : Con Try.prog := at1 9 [] (boo true) True fun _ => ⟨⟨trivial, trivial⟩, kno_t⟩
end Go.Proofs.Ytglkdhmikpejnaa
namespace Go.Proofs.Ytglkdhmikpejnaa
open Go Go.RowKit Pl Sy
namespace Sy
abbrev deF (m i : Int) (s : ByteArray) : Fr := (some (int m) :: none :: none :: some (.lit (.string s)) :: some (int i) :: (nn6 (nn48 [])))
end Sy
end Go.Proofs.Ytglkdhmikpejnaa
namespace Go.Proofs.Ytglkdhmikpejnaa
open Go Go.RowKit Pl Sy
def Stop (g : Int → Bool) (r : List UInt8) : Prop := ∀ c r', r = c :: r' → g c.toNat = false
theorem Stop.nil (g : Int → Bool) : Stop g [] := fun c r' h => by cases h
theorem Stop.of {g : Int → Bool} {c : UInt8} (r : List UInt8) (h : g c.toNat = false) : Stop g (c :: r) := fun d r' e => by
  simp only [List.cons.injEq] at e
  rw [← e.1]; exact h
theorem take_stop {g : Int → Bool} : ∀ {x r : List UInt8}, x.all (fun c => g c.toNat) = true → Stop g r → (x ++ r).takeWhile (fun c => g c.toNat) = x
  | [], r, _, hr => by
    cases r with
    | nil => rfl
    | cons c r => rw [List.nil_append, List.takeWhile_cons, if_neg (by rw [hr c r rfl]; decide)]
  | c :: x, r, h, hr => by
    rw [List.all_cons, Bool.and_eq_true] at h
    rw [List.cons_append, List.takeWhile_cons, if_pos h.1, take_stop h.2 hr]
theorem ba_ext {x y : ByteArray} (h : x.data.toList = y.data.toList) : x = y := by
  cases x with | mk x => cases y with | mk y => exact congrArg _ (Array.toList_inj.1 h)
theorem At.cast {s : ByteArray} {a b : Int} {l : List UInt8} (h : At s a l) (e : a = b) : At s b l := e ▸ h
theorem At.nx {s : ByteArray} {a : Int} {c : UInt8} {r : List UInt8} (h : At s a (c :: r)) {k : Int} (hk : (c.toNat : Int) = k) : nxB s a k = false := by
  obtain ⟨h1, h2⟩ := h.byte
  unfold nxB
  rw [h2, hk, show leI s.size a = false by rw [leI_f]; omega, show eqI k k = true by rw [eqI_t]]
  rfl
theorem startsL_45 {c : UInt8} {l : List UInt8} (h : startsL (c :: l) = true) (hc : (c.toNat : Int) = 45) : ∃ d l', l = d :: l' ∧ (begB d.toNat || eqI d.toNat 45) = true := by
  cases l with
  | nil =>
    unfold startsL at h
    simp only [Bool.and_eq_true] at h
    have := h.1
    rw [decide_eq_true hc] at this
    cases this
  | cons d l =>
    refine ⟨d, l, rfl, ?_⟩
    unfold startsL at h
    simp only [if_pos hc] at h
    rw [eqI_eq]
    simpa using h
theorem startsL_no {c : UInt8} {l : List UInt8} (h : startsL (c :: l) = true) (hc : ¬ (c.toNat : Int) = 45) : begB c.toNat = true := by
  cases l with
  | nil =>
    unfold startsL at h
    simp only [Bool.and_eq_true] at h
    exact h.2
  | cons d l =>
    unfold startsL at h
    simp only [if_neg hc] at h
    exact h
theorem nm_read {s : ByteArray} {a : Int} {x r : List UInt8} (h : At s a (x ++ r)) (hx : nameL x = true) (hr : Stop goesB r) : nmBad s a = false ∧ nmE s a = a + x.length ∧ (nmX s a).data.toList = x := by
  unfold nameL at hx
  rw [Bool.and_eq_true, Bool.and_eq_true, decide_eq_true_eq] at hx
  obtain ⟨⟨h1, h2⟩, h3⟩ := hx
  have hcut : (s.extract a.toNat (a + x.length).toNat).data.toList = x := h.cut
  have key : startM s a = true ∧ nmE s a = a + x.length := by
    cases x with
    | nil => cases h1
    | cons c x =>
      have hg : goesB c.toNat = true := by
        rw [List.all_cons, Bool.and_eq_true] at h2
        exact h2.1
      have h2' : x.all (fun c => goesB c.toNat) = true := by
        rw [List.all_cons, Bool.and_eq_true] at h2
        exact h2.2
      have hp : pkI s a = c.toNat := At.pk (r := x ++ r) h
      by_cases hc : (c.toNat : Int) = 45
      · obtain ⟨d, l', rfl, h5⟩ := startsL_45 h1 hc
        have ht : At s (a + 1) (d :: (l' ++ r)) := At.tail (r := d :: l' ++ r) h
        have e45 : eqI (pkI s a) 45 = true := by rw [hp, eqI_t]; exact hc
        constructor
        · unfold startM
          rw [if_pos e45, ht.pk]
          exact h5
        · unfold nmE nmZ
          have ht2 : At s (a + 1) ((d :: l') ++ r) := ht
          rw [if_pos e45, ht2.sc goesB, take_stop h2' hr]
          simp only [List.length_cons]
          omega
      · have e45 : ¬ eqI (pkI s a) 45 = true := by rw [hp, eqI_t]; exact hc
        constructor
        · unfold startM
          rw [if_neg e45, hp]
          exact startsL_no h1 hc
        · unfold nmE nmZ
          rw [if_neg e45, h.sc goesB, take_stop h2 hr]
  refine ⟨?_, key.2, ?_⟩
  · unfold nmBad
    rw [key.1, key.2, show leI (a + (x.length : Int) - a) 32 = true by rw [leI_t]; omega]
    rfl
  · unfold nmX
    rw [key.2]
    exact hcut
theorem wd_read {s : ByteArray} {a : Int} {x r : List UInt8} (h : At s a (34 :: (x ++ 34 :: r))) (hx : textL x = true) : wdBad s a = false ∧ wdE s a = a + 1 + x.length ∧ (wdX s a).data.toList = x := by
  unfold textL at hx
  rw [Bool.and_eq_true, decide_eq_true_eq] at hx
  have h1 := h.tail
  have e : wdE s a = a + 1 + x.length := by
    unfold wdE
    rw [h1.sc wdG, take_stop (g := wdG) (by
      have e2 : (fun c : UInt8 => wdG c.toNat) = fun c : UInt8 => wordB c.toNat := funext fun c => wdG_word _
      rw [e2]; exact hx.1) (Stop.of r rfl)]
  have h2 : At s (a + 1 + x.length) (34 :: r) := h1.skip
  refine ⟨?_, e, ?_⟩
  · unfold wdBad
    rw [h.nx (k := 34) rfl, e, h2.nx (k := 34) rfl, show leI (a + 1 + (x.length : Int) - (a + 1)) 256 = true by rw [leI_t]; omega]
    rfl
  · unfold wdX
    rw [e]
    exact h1.cut
def clL (c : ByteArray) : List UInt8 := 46 :: c.data.toList
def atL (t : AttrV) : List UInt8 := 91 :: (t.name.data.toList ++ (61 :: 34 :: (t.value.data.toList ++ [34, 93])))
def clsL (cs : List ByteArray) : List UInt8 := (cs.map clL).flatten
def atsL (ats : List AttrV) : List UInt8 := (ats.map atL).flatten
def idL (i : ByteArray) : List UInt8 := if i.data.toList = [] then [] else 35 :: i.data.toList
theorem clsL_cons (c : ByteArray) (cs : List ByteArray) : clsL (c :: cs) = clL c ++ clsL cs := by unfold clsL; rw [List.map_cons, List.flatten_cons]
theorem atsL_cons (t : AttrV) (ats : List AttrV) : atsL (t :: ats) = atL t ++ atsL ats := by unfold atsL; rw [List.map_cons, List.flatten_cons]
theorem atsL_len : ∀ ats : List AttrV, ats.length ≤ (atsL ats).length
  | [] => Nat.le_refl _
  | t :: ats => by
    have := atsL_len ats
    rw [atsL_cons, List.length_append]
    unfold atL
    simp only [List.length_cons]
    omega
theorem clsL_len : ∀ cs : List ByteArray, cs.length ≤ (clsL cs).length
  | [] => Nat.le_refl _
  | t :: ats => by
    have := clsL_len ats
    rw [clsL_cons, List.length_append]
    unfold clL
    simp only [List.length_cons]
    omega
theorem atsL_stop {ats : List AttrV} {r : List UInt8} (h : Stop goesB r) : Stop goesB (atsL ats ++ r) := by
  cases ats with
  | nil => exact h
  | cons t ats => rw [atsL_cons]; exact Stop.of _ rfl
theorem clsL_stop {cs : List ByteArray} {r : List UInt8} (h : Stop goesB r) : Stop goesB (clsL cs ++ r) := by
  cases cs with
  | nil => exact h
  | cons t ats => rw [clsL_cons]; exact Stop.of _ rfl
theorem hd_stop {s : ByteArray} {a : Int} {r : List UInt8} (h : At s a r) (hr : Stop mkB r) (n : Nat) (i : ByteArray) (cs : List ByteArray) (ats : List AttrV) : hdR s n a i cs ats = ⟨false, a, i, cs, ats⟩ := by
  have hk : mkB (pkI s a) = false := by
    cases r with
    | nil => rw [h.pk0]; rfl
    | cons c r => rw [h.pk]; exact hr c r rfl
  cases n with
  | zero => rfl
  | succ n =>
    unfold mkB at hk
    rw [Bool.or_eq_false_iff, Bool.or_eq_false_iff] at hk
    unfold hdR
    rw [hk.1, hk.2.1, hk.2.2]
theorem at_read {s : ByteArray} {a : Int} {t : AttrV} {r : List UInt8} (h : At s a (atL t ++ r)) (h1 : nameL t.name.data.toList = true) (h2 : textL t.value.data.toList = true) : atBad s a = false ∧ atW s a + 1 = a + (atL t).length ∧ atR s a = t := by
  have h : At s a (91 :: (t.name.data.toList ++ (61 :: 34 :: (t.value.data.toList ++ (34 :: 93 :: r))))) := by
    unfold atL at h
    simpa [List.append_assoc] using h
  obtain ⟨n1, n2, n3⟩ := nm_read h.tail h1 (Stop.of _ rfl)
  have h3 : At s (atE s a) (61 :: 34 :: (t.value.data.toList ++ (34 :: 93 :: r))) := by
    unfold atE
    rw [n2]
    exact h.tail.skip
  obtain ⟨w1, w2, w3⟩ := wd_read h3.tail h2
  have h4 : At s (atW s a) (93 :: r) := by
    unfold atW
    rw [w2]
    exact h3.tail.tail.skip.tail
  have hL : (atL t).length = t.name.data.toList.length + t.value.data.toList.length + 5 := by
    unfold atL
    simp only [List.length_cons, List.length_append, List.length_nil]
    omega
  refine ⟨?_, ?_, ?_⟩
  · unfold atBad
    rw [h.nx (k := 91) rfl, n1, h3.nx (k := 61) rfl, w1, h4.nx (k := 93) rfl]
    rfl
  · unfold atW
    rw [w2]
    unfold atE
    rw [n2, hL]
    omega
  · unfold atR
    cases t with
    | mk x y => exact congr (congrArg AttrV.mk (ba_ext n3)) (ba_ext w3)
theorem hd_atts {s : ByteArray} : ∀ (us : List AttrV) (n : Nat) (a : Int) (i : ByteArray) (cs : List ByteArray) (ats : List AttrV) (r : List UInt8), At s a (atsL us ++ r) → Stop goesB r → Stop mkB r → us.length ≤ n → ats.length + us.length ≤ 8 → (∀ t ∈ us, nameL t.name.data.toList = true ∧ textL t.value.data.toList = true) →
    hdR s n a i cs ats = ⟨false, a + (atsL us).length, i, cs, ats ++ us⟩ := by
  intro us
  induction us with
  | nil =>
    intro n a i cs ats r h h1 h2 h3 h4 h5
    rw [hd_stop h h2, List.append_nil]
    show _ = HdR.mk false (a + ((0 : Nat) : Int)) i cs ats
    rw [show a + ((0 : Nat) : Int) = a by omega]
  | cons t us ih =>
    intro n a i cs ats r h h1 h2 h3 h4 h5
    simp only [List.length_cons] at h3 h4
    obtain ⟨n, rfl⟩ : ∃ m, n = m + 1 := ⟨n - 1, by omega⟩
    rw [atsL_cons, List.append_assoc] at h
    obtain ⟨t1, t2⟩ := h5 t (List.mem_cons_self ..)
    obtain ⟨a1, a2, a3⟩ := at_read h t1 t2
    have hp : pkI s a = 91 := At.pk (c := 91) h
    have e8 : leI 8 ats.length = false := by rw [leI_f]; omega
    have ih := ih n (atW s a + 1) i cs (ats ++ [atR s a]) r (h.skip.cast a2.symm) h1 h2 (by omega) (by rw [List.length_append, List.length_singleton]; omega) (fun t ht => h5 t (List.mem_cons_of_mem _ ht))
    unfold hdR
    rw [hp, e8, a1]
    show hdR s n (atW s a + 1) i cs (ats ++ [atR s a]) = _
    rw [ih, a2, a3, atsL_cons, List.length_append, List.append_assoc, List.singleton_append]
    congr 1
    omega
theorem hd_cls {s : ByteArray} (us : List AttrV) (has : us.length ≤ 8 ∧ ∀ t ∈ us, nameL t.name.data.toList = true ∧ textL t.value.data.toList = true) : ∀ (cl : List ByteArray) (n : Nat) (a : Int) (i : ByteArray) (cs : List ByteArray) (r : List UInt8), At s a (clsL cl ++ (atsL us ++ r)) → Stop goesB r → Stop mkB r → cl.length + us.length ≤ n → cs.length + cl.length ≤ 8 → (∀ c ∈ cl, nameL c.data.toList = true) →
    hdR s n a i cs [] = ⟨false, a + (clsL cl).length + (atsL us).length, i, cs ++ cl, us⟩ := by
  intro cl
  induction cl with
  | nil =>
    intro n a i cs r h h1 h2 h3 h4 h5
    rw [hd_atts us n a i cs [] r h h1 h2 (by simpa using h3) (by simpa using has.1) has.2, List.append_nil]
    show _ = HdR.mk false (a + ((0 : Nat) : Int) + _) i cs us
    rw [show a + ((0 : Nat) : Int) = a by omega]
    rfl
  | cons c cl ih =>
    intro n a i cs r h h1 h2 h3 h4 h5
    simp only [List.length_cons] at h3 h4
    obtain ⟨n, rfl⟩ : ∃ m, n = m + 1 := ⟨n - 1, by omega⟩
    rw [clsL_cons, List.append_assoc] at h
    have h : At s a (46 :: (c.data.toList ++ (clsL cl ++ (atsL us ++ r)))) := h
    obtain ⟨n1, n2, n3⟩ := nm_read h.tail (h5 c (List.mem_cons_self ..)) (clsL_stop (atsL_stop h1))
    have hp : pkI s a = 46 := At.pk (c := 46) h
    have e8 : leI 8 cs.length = false := by rw [leI_f]; omega
    have hX : nmX s (a + 1) = c := ba_ext n3
    have ih := ih n (nmE s (a + 1)) i (cs ++ [nmX s (a + 1)]) r (h.tail.skip.cast n2.symm) h1 h2 (by omega) (by rw [List.length_append, List.length_singleton]; omega) (fun t ht => h5 t (List.mem_cons_of_mem _ ht))
    unfold hdR
    rw [hp, e8, n1]
    show hdR s n (nmE s (a + 1)) i (cs ++ [nmX s (a + 1)]) [] = _
    rw [ih, n2, hX, clsL_cons, List.length_append, List.append_assoc, List.singleton_append]
    have : (clL c).length = c.data.toList.length + 1 := rfl
    congr 1
    omega
def headL (n : NdV) : List UInt8 := n.tag.data.toList ++ (idL n.id ++ (clsL n.cls ++ atsL n.atts))
theorem hed_read {s : ByteArray} {a : Int} {n : NdV} {r : List UInt8} (h : At s a (headL n ++ r)) (ht : nameL n.tag.data.toList = true) (hm : MkOk n.id n.cls n.atts) (h1 : Stop goesB r) (h2 : Stop mkB r) :
    hedR s a = ⟨false, a + (headL n).length, n.id, n.cls, n.atts⟩ ∧ nmX s a = n.tag := by
  have h : At s a (n.tag.data.toList ++ (idL n.id ++ (clsL n.cls ++ (atsL n.atts ++ r)))) := by
    unfold headL at h
    simpa [List.append_assoc] using h
  have hs : Stop goesB (idL n.id ++ (clsL n.cls ++ (atsL n.atts ++ r))) := by
    unfold idL
    split
    · exact clsL_stop (atsL_stop h1)
    · exact Stop.of _ rfl
  obtain ⟨n1, n2, n3⟩ := nm_read h ht hs
  have h3 : At s (nmE s a) (idL n.id ++ (clsL n.cls ++ (atsL n.atts ++ r))) := h.skip.cast n2.symm
  have c1 := clsL_len n.cls
  have c2 := atsL_len n.atts
  have hsz := h3.2.2
  have hp0 := h3.1
  simp only [List.length_append] at hsz
  have hlen : (headL n).length = n.tag.data.toList.length + ((idL n.id).length + ((clsL n.cls).length + (atsL n.atts).length)) := by
    unfold headL
    simp only [List.length_append]
  refine ⟨?_, ba_ext n3⟩
  unfold hedR
  rw [n1]
  show hdR s (s.size + 1) (nmE s a) ⟨⟨[]⟩⟩ [] [] = _
  by_cases hi : n.id.data.toList = []
  · have e : idL n.id = [] := by unfold idL; rw [if_pos hi]
    have ei : n.id = ⟨⟨[]⟩⟩ := ba_ext hi
    rw [e] at h3 hsz hlen
    rw [hd_cls n.atts hm.ats n.cls (s.size + 1) (nmE s a) ⟨⟨[]⟩⟩ [] r h3 h1 h2 (by simp only [List.length_nil] at hsz; omega) (by simpa using hm.cls.1) hm.cls.2, ← ei, n2, hlen]
    simp only [List.nil_append, List.length_nil]
    congr 1
    omega
  · have e : idL n.id = 35 :: n.id.data.toList := by unfold idL; rw [if_neg hi]
    have hni : nameL n.id.data.toList = true := by
      rcases hm.id with q | q
      · exact absurd q hi
      · exact q
    rw [e] at h3 hsz hlen
    have h3 : At s (nmE s a) (35 :: (n.id.data.toList ++ (clsL n.cls ++ (atsL n.atts ++ r)))) := h3
    obtain ⟨i1, i2, i3⟩ := nm_read h3.tail hni (clsL_stop (atsL_stop h1))
    have hX : nmX s (nmE s a + 1) = n.id := ba_ext i3
    have hp : pkI s (nmE s a) = 35 := At.pk (c := 35) h3
    unfold hdR
    rw [hp, i1]
    show hdR s s.size (nmE s (nmE s a + 1)) (nmX s (nmE s a + 1)) [] [] = _
    rw [hd_cls n.atts hm.ats n.cls s.size (nmE s (nmE s a + 1)) (nmX s (nmE s a + 1)) [] r (h3.tail.skip.cast i2.symm) h1 h2 (by simp only [List.length_cons] at hsz; omega) (by simpa using hm.cls.1) hm.cls.2, hX, i2, n2, hlen]
    simp only [List.nil_append, List.length_cons]
    congr 1
    omega
theorem elem_mk {n : NdV} (h : elemB n = true) : nameL n.tag.data.toList = true ∧ MkOk n.id n.cls n.atts ∧ n.text.data.toList = [] := by
  unfold elemB at h
  simp only [Bool.and_eq_true, Bool.or_eq_true, bytesEq_eq, decide_eq_true_eq, leI_t] at h
  obtain ⟨h1, h2, h3, h4, h5, h6, h7⟩ := h
  refine ⟨h1, ⟨h2, ⟨by omega, fun c hc => ?_⟩, ⟨by omega, fun t ht => ?_⟩⟩, h3⟩
  · unfold anyS at h6
    have h6 : n.cls.any lacksB = false := by simpa using h6
    have := List.any_eq_false.1 h6 c hc
    unfold lacksB at this
    simpa using this
  · unfold anyT at h7
    have h7 : n.atts.any oddB = false := by simpa using h7
    have := List.any_eq_false.1 h7 t ht
    unfold oddB at this
    simpa using this
end Go.Proofs.Ytglkdhmikpejnaa
namespace Go.Proofs.Ytglkdhmikpejnaa
open Go Go.RowKit Pl Sy
def prOne (b : List UInt8) (n : NdV) (k : Ft) (t : List UInt8) : List UInt8 := if n.tag.data.toList = [] then 34 :: (n.text.data.toList ++ [34]) else headL n ++ (if k.isN = true then [] else b ++ (123 :: (b ++ (t ++ (b ++ [125])))))
namespace Ft
def pr (b w : List UInt8) : Ft → List UInt8
  | nil => []
  | cons n k nx => prOne b n k (k.pr b w) ++ (if nx.isN = true then [] else w ++ nx.pr b w)
def kf (k : Ft) (u : Nat) : Nat := if k.isN = true then 0 else u + 1
def fu : Ft → Nat
  | nil => 0
  | cons n k nx => 1 + (kf k k.fu + nx.fu)
def ht : Ft → Nat
  | nil => 0
  | cons n k nx => max (1 + k.ht) nx.ht
def good : Ft → Prop
  | nil => True
  | cons n k nx => (ndB n = true ∧ (n.tag.data.toList = [] → k = nil)) ∧ k.good ∧ nx.good
end Ft
def Bl (b : List UInt8) : Prop := b.all (fun c => mblB c.toNat) = true
theorem sc_skip {s : ByteArray} {a : Int} {b r : List UInt8} (h : At s a (b ++ r)) (hb : Bl b) (hr : Stop mblB r) : scI mblB s a = a + b.length := by
  rw [h.sc mblB, take_stop hb hr]
def RestOk (rest : List UInt8) : Prop := Stop goesB rest ∧ Stop mkB rest ∧ ∃ bl r, rest = bl ++ r ∧ Bl bl ∧ Stop mblB r ∧ Stop (fun c => eqI c 123) r
theorem bl_goes {c : Int} (h : mblB c = true) : goesB c = false ∧ mkB c = false := by
  unfold mblB at h
  simp only [Bool.or_eq_true, eqI_t] at h
  rcases h with h | h | h | h <;> subst h <;> decide
theorem RestOk.blank {b r : List UInt8} (hb : Bl b) (h1 : Stop mblB r) (h2 : Stop (fun c => eqI c 123) r) (h3 : b = [] → Stop goesB r ∧ Stop mkB r) : RestOk (b ++ r) := by
  refine ⟨?_, ?_, b, r, rfl, hb, h1, h2⟩
  · cases b with
    | nil => exact (h3 rfl).1
    | cons c b =>
      unfold Bl at hb
      rw [List.all_cons, Bool.and_eq_true] at hb
      exact Stop.of _ (bl_goes hb.1).1
  · cases b with
    | nil => exact (h3 rfl).2
    | cons c b =>
      unfold Bl at hb
      rw [List.all_cons, Bool.and_eq_true] at hb
      exact Stop.of _ (bl_goes hb.1).2
def StartB (c : Int) : Prop := mblB c = false ∧ eqI c 123 = false ∧ eqI c 125 = false
theorem start_quote : StartB 34 := by unfold StartB; decide
theorem start_name {c : UInt8} {l : List UInt8} (h : startsL (c :: l) = true) : StartB c.toNat ∧ eqI c.toNat 34 = false ∧ (begB c.toNat || eqI c.toNat 45) = true := by
  by_cases hc : (c.toNat : Int) = 45
  · rw [hc]
    exact ⟨by unfold StartB; decide, by decide, by decide⟩
  · have hb := startsL_no h hc
    have hb' := hb
    unfold begB at hb'
    simp only [Bool.or_eq_true, Bool.and_eq_true, decide_eq_true_eq] at hb'
    refine ⟨⟨?_, ?_, ?_⟩, ?_, by rw [hb]; rfl⟩
    · unfold mblB
      simp only [Bool.or_eq_false_iff, eqI_f]
      omega
    · rw [eqI_f]; omega
    · rw [eqI_f]; omega
    · rw [eqI_f]; omega
theorem nd_elem {n : NdV} (h : ndB n = true) (ht : ¬ n.tag.data.toList = []) : elemB n = true := by
  rw [elem_nd, h, Bool.and_true, bytesEq_eq]
  simpa using ht
theorem nd_words {n : NdV} (h : ndB n = true) (ht : n.tag.data.toList = []) : n.id.data.toList = [] ∧ n.cls = [] ∧ n.atts = [] ∧ textL n.text.data.toList = true := by
  unfold ndB at h
  rw [if_pos (by rw [bytesEq_eq]; simpa using ht)] at h
  simp only [Bool.and_eq_true, eqI_t, bytesEq_eq, decide_eq_true_eq] at h
  obtain ⟨h1, h2, h3, h4⟩ := h
  exact ⟨h1, List.eq_nil_of_length_eq_zero (by omega), List.eq_nil_of_length_eq_zero (by omega), h4⟩
theorem name_cons {l : List UInt8} (h : nameL l = true) : ∃ c r, l = c :: r ∧ startsL (c :: r) = true := by
  unfold nameL at h
  rw [Bool.and_eq_true, Bool.and_eq_true] at h
  cases l with
  | nil => exact absurd h.1.1 (by decide)
  | cons c r => exact ⟨c, r, rfl, h.1.1⟩
theorem prOne_start {b : List UInt8} {n : NdV} {k : Ft} {t : List UInt8} (h : ndB n = true) : ∃ c r, prOne b n k t = c :: r ∧ StartB c.toNat ∧ (n.tag.data.toList = [] → c = 34) ∧ (¬ n.tag.data.toList = [] → eqI c.toNat 34 = false ∧ (begB c.toNat || eqI c.toNat 45) = true) := by
  unfold prOne
  by_cases ht : n.tag.data.toList = []
  · rw [if_pos ht]
    exact ⟨34, _, rfl, start_quote, fun _ => rfl, fun h => absurd ht h⟩
  · rw [if_neg ht]
    obtain ⟨h1, _, _⟩ := elem_mk (nd_elem h ht)
    obtain ⟨c, r, e, hs⟩ := name_cons h1
    obtain ⟨s1, s2, s3⟩ := start_name hs
    unfold headL
    rw [e]
    exact ⟨c, _, rfl, s1, fun h => (by cases h), fun _ => ⟨s2, s3⟩⟩
theorem Ft.pr_start {b w : List UInt8} {F : Ft} (hn : F.isN = false) (h : F.good) : ∃ c r, F.pr b w = c :: r ∧ StartB c.toNat := by
  cases F with
  | nil => cases hn
  | cons n k nx =>
    obtain ⟨c, r, e, hs, _⟩ := prOne_start (b := b) (k := k) (t := k.pr b w) h.1.1
    simp only [Ft.pr]
    rw [e]
    exact ⟨c, _, rfl, hs⟩
theorem lastI_app (os : List Int) (x : Int) : lastI (os ++ [x]) = x := by
  unfold lastI
  rw [if_neg (by rw [eqI_t, List.length_append, List.length_singleton]; omega), List.length_append, List.length_singleton, List.getD_eq_getElem?_getD, List.getElem?_append_right (by omega), show os.length + 1 - 1 - os.length = 0 by omega]
  rfl
def Rd (s : ByteArray) (b w : List UInt8) (F : Ft) : Prop := ∀ (m : Nat) (a : Int) (bl : List UInt8) (ns : List NdV) (os : List Int) (rest : List UInt8), Bl bl → At s a (bl ++ (F.pr b w ++ rest)) → RestOk rest → os.length ≠ 0 → ns.length + F.sz ≤ 1024 → os.length + F.ht ≤ 64 →
  tN s (F.fu + m) a ns os = tN s m (a + bl.length + (F.pr b w).length) (ns ++ F.fl ns.length (lastI os)) os
theorem setP_put {n : NdV} {s : ByteArray} {b : Int} (os : List Int) (h1 : nmX s b = n.tag) (h2 : (hedR s b).id = n.id) (h3 : (hedR s b).cls = n.cls) (h4 : (hedR s b).ats = n.atts) (h5 : n.text.data.toList = []) : putN (hedN s b) os = setP n (lastI os) := by
  have e : n.text = ⟨⟨[]⟩⟩ := ba_ext h5
  unfold putN hedN setP
  simp only
  rw [h1, h2, h3, h4, e]
theorem rd_one {s : ByteArray} {b w : List UInt8} (hb : Bl b) {n : NdV} {k : Ft} (h : ndB n = true) (hk : n.tag.data.toList = [] → k = .nil) (hgk : k.good) (hkid : k.isN = false → Rd s b w k) (m : Nat) (a : Int) (ns : List NdV) (os : List Int) (rest : List UInt8)
    (hA : At s a (prOne b n k (k.pr b w) ++ rest)) (hr : RestOk rest) (ho : os.length = 0 → ¬ n.tag.data.toList = []) (hns : ns.length + 1 + k.sz ≤ 1024) (hos : os.length + (1 + k.ht) ≤ 64) :
    ndT' s (tN s (k.kf k.fu + m)) a ns os = nxT s (tN s m) (a + (prOne b n k (k.pr b w)).length) (ns ++ setP n (lastI os) :: k.fl (ns.length + 1) (ns.length : Nat)) os := by
  obtain ⟨c, r, e, hs, hw1, hw2⟩ := prOne_start (b := b) (k := k) (t := k.pr b w) h
  have hp : pkI s a = c.toNat := by
    rw [e] at hA
    exact At.pk (r := r ++ rest) hA
  have hful : fulE ns.length os.length = 0 := by
    unfold fulE
    rw [if_neg (by rw [leI_t]; omega), if_neg (by rw [leI_t]; omega)]
  by_cases ht : n.tag.data.toList = []
  · obtain rfl := hk ht
    have hne : ¬ os.length = 0 := fun q => ho q ht
    have hc := hw1 ht
    subst hc
    obtain ⟨t1, t2, t3, t4⟩ := nd_words h ht
    have ep : prOne b n .nil ((Ft.nil).pr b w) = 34 :: (n.text.data.toList ++ [34]) := by unfold prOne; rw [if_pos ht]
    rw [ep] at hA ⊢
    have hA : At s a (34 :: (n.text.data.toList ++ 34 :: rest)) := by simpa [List.append_assoc] using hA
    obtain ⟨w1, w2, w3⟩ := wd_read hA t4
    unfold ndT'
    rw [show leI (os.length : Nat) 0 = false by rw [leI_f]; omega, hp]
    show wrT s (tN s (0 + m)) a ns os = _
    unfold wrT
    rw [hful, w1]
    show nxT s (tN s (0 + m)) (wdE s a + 1) (ns ++ [wrdN (wdX s a) os]) os = nxT s (tN s m) _ (ns ++ [setP n (lastI os)]) os
    have e2 : wrdN (wdX s a) os = setP n (lastI os) := by
      have e3 : n.tag = ⟨#[]⟩ := ba_ext ht
      have e4 : n.id = ⟨#[]⟩ := ba_ext t1
      unfold wrdN setP
      rw [e3, e4, t2, t3, ba_ext w3]
    rw [e2, Nat.zero_add]
    congr 1
    rw [w2, List.length_cons, List.length_append, List.length_singleton]
    omega
  · obtain ⟨s2, s3⟩ := hw2 ht
    obtain ⟨e1, e2, e3⟩ := elem_mk (nd_elem h ht)
    have hnm : nmdB s a = true := by
      unfold nmdB
      rw [hp]
      exact s3
    have hel : ∀ go, ndT' s go a ns os = elT s go a ns os := fun go => by
      unfold ndT'
      rw [hp, hs.2.2, s2]
      cases leI (os.length : Nat) 0 <;> rfl
    rw [hel]
    unfold elT
    rw [hnm, hful]
    cases hk0 : k.isN with
    | true =>
      obtain rfl := Ft.isN_t hk0
      have ep : prOne b n .nil ((Ft.nil).pr b w) = headL n := by unfold prOne; rw [if_neg ht, if_pos (show (Ft.nil).isN = true from rfl), List.append_nil]
      rw [ep] at hA ⊢
      obtain ⟨h1, h2⟩ := hed_read hA e1 e2 hr.1 hr.2.1
      obtain ⟨_, _, bl, r', rfl, hbl, hst, h123⟩ := hr
      have hsk : At s (a + (headL n).length) (bl ++ r') := hA.skip
      have h5 : At s (a + (headL n).length + bl.length) r' := hsk.skip
      have hsc := sc_skip hsk hbl hst
      have h6 : eqI (pkI s (a + (headL n).length + bl.length)) 123 = false := by
        cases r' with
        | nil => rw [h5.pk0]; rfl
        | cons c r' => rw [h5.pk]; exact h123 c r' rfl
      have hput := setP_put os h2 (by rw [h1]) (by rw [h1]) (by rw [h1]) e3
      rw [h1]
      simp only
      rw [hsc, h6, hput]
      show nxT s (tN s (0 + m)) _ _ os = _
      rw [Nat.zero_add]
      rfl
    | false =>
      have ep : prOne b n k (k.pr b w) = headL n ++ (b ++ (123 :: (b ++ (k.pr b w ++ (b ++ [125]))))) := by unfold prOne; rw [if_neg ht, if_neg (by rw [hk0]; decide)]
      rw [ep] at hA ⊢
      have hA : At s a (headL n ++ (b ++ (123 :: (b ++ (k.pr b w ++ (b ++ 125 :: rest)))))) := by simpa [List.append_assoc] using hA
      have hs1 : Stop goesB (b ++ (123 :: (b ++ (k.pr b w ++ (b ++ 125 :: rest))))) ∧ Stop mkB (b ++ (123 :: (b ++ (k.pr b w ++ (b ++ 125 :: rest))))) := by
        cases b with
        | nil => exact ⟨Stop.of _ rfl, Stop.of _ rfl⟩
        | cons x b =>
          unfold Bl at hb
          rw [List.all_cons, Bool.and_eq_true] at hb
          exact ⟨Stop.of _ (bl_goes hb.1).1, Stop.of _ (bl_goes hb.1).2⟩
      obtain ⟨h1, h2⟩ := hed_read hA e1 e2 hs1.1 hs1.2
      have hsk := hA.skip
      have hsc := sc_skip hsk hb (Stop.of _ rfl)
      have h5 := hsk.skip
      have hput := setP_put os h2 (by rw [h1]) (by rw [h1]) (by rw [h1]) e3
      have hl1 : (ns ++ [setP n (lastI os)]).length = ns.length + 1 := by simp
      have hl2 : (os ++ [(ns.length : Int)]).length = os.length + 1 := by simp
      obtain ⟨c2, r2, e5, hst2⟩ := Ft.pr_start (b := b) (w := w) hk0 hgk
      have hro : RestOk (b ++ 125 :: rest) := RestOk.blank hb (Stop.of _ rfl) (Stop.of _ rfl) (fun _ => ⟨Stop.of _ rfl, Stop.of _ rfl⟩)
      have key := hkid hk0 (1 + m) (a + (headL n).length + b.length + 1) b (ns ++ [setP n (lastI os)]) (os ++ [(ns.length : Int)]) (b ++ 125 :: rest) hb h5.tail hro (by rw [hl2]; omega) (by rw [hl1]; omega) (by rw [hl2]; omega)
      have h6 := h5.tail.skip.skip
      have hsc2 := sc_skip h6 hb (Stop.of _ rfl)
      have h7 := h6.skip
      rw [h1]
      simp only
      rw [hsc, h5.pk, hput]
      have ekf : k.kf k.fu + m = k.fu + (1 + m) := by unfold Ft.kf; rw [if_neg (by rw [hk0]; decide)]; omega
      rw [ekf]
      show tN s (k.fu + (1 + m)) (a + (headL n).length + b.length + 1) (ns ++ [setP n (lastI os)]) (os ++ [(ns.length : Int)]) = _
      rw [key, hl1, lastI_app, Nat.add_comm 1 m, tN]
      unfold ndT'
      rw [hsc2, hl2, show leI ((os.length + 1 : Nat) : Int) 0 = false by rw [leI_f]; omega, h7.pk]
      show nxT s (tN s m) _ _ (os ++ [(ns.length : Int)]).dropLast = _
      rw [List.dropLast_concat, List.append_assoc, List.singleton_append]
      congr 1
      simp only [List.length_append, List.length_cons, List.length_nil]
      omega
theorem nxT_open {s : ByteArray} {go : Int → List NdV → List Int → TrR} {a : Int} {ns : List NdV} {os : List Int} (h : os.length ≠ 0) : nxT s go a ns os = go a ns os := by
  unfold nxT
  rw [show leI (os.length : Nat) 0 = false by rw [leI_f]; omega]
theorem Ft.rd {s : ByteArray} {b w : List UInt8} (hb : Bl b) (hw : Bl w) (hw0 : w ≠ []) : ∀ F : Ft, F.isN = false → F.good → Rd s b w F := by
  intro F
  induction F with
  | nil => intro h; cases h
  | cons n k nx ihk ihn =>
    intro _ hg m a bl ns os rest hbl hA hr ho hns hos
    obtain ⟨⟨g1, g2⟩, g3, g4⟩ := hg
    simp only [Ft.sz] at hns
    simp only [Ft.ht] at hos
    obtain ⟨c, r, e, hs⟩ := Ft.pr_start (b := b) (w := w) (F := .cons n k nx) rfl ⟨⟨g1, g2⟩, g3, g4⟩
    have hsc : scI mblB s a = a + bl.length := sc_skip hA hbl (by rw [e]; exact Stop.of _ hs.1)
    have hA2 := hA.skip
    simp only [Ft.pr, List.append_assoc] at hA2 ⊢
    have hr2 : RestOk ((if nx.isN = true then [] else w ++ nx.pr b w) ++ rest) := by
      cases hx : nx.isN with
      | true => rw [if_pos rfl]; exact hr
      | false =>
        rw [if_neg (by decide), List.append_assoc]
        obtain ⟨c2, r2, e2, hs2⟩ := Ft.pr_start (b := b) (w := w) hx g4
        rw [e2]
        exact RestOk.blank hw (Stop.of _ hs2.1) (Stop.of _ hs2.2.1) (fun h => absurd h hw0)
    have one := rd_one hb g1 g2 g3 (fun h => ihk h g3) (nx.fu + m) (a + bl.length) ns os _ hA2 hr2 (fun h => absurd h ho) (by omega) (by omega)
    simp only [Ft.fu]
    rw [show 1 + (k.kf k.fu + nx.fu) + m = (k.kf k.fu + (nx.fu + m)) + 1 by omega, tN, hsc, one, nxT_open ho]
    have hA3 := hA2.skip
    cases hx : nx.isN with
    | true =>
      obtain rfl := Ft.isN_t hx
      rw [if_pos rfl]
      simp only [Ft.fl, Ft.fu, Nat.zero_add, List.append_nil]
    | false =>
      rw [hx, if_neg (by decide), List.append_assoc] at hA3
      rw [if_neg (by decide)]
      have hl : (ns ++ setP n (lastI os) :: k.fl (ns.length + 1) (ns.length : Nat)).length = ns.length + 1 + k.sz := by
        rw [List.length_append, List.length_cons, Ft.fl_len]
        omega
      have key := ihn hx g4 m _ w (ns ++ setP n (lastI os) :: k.fl (ns.length + 1) (ns.length : Nat)) os rest hw hA3 hr ho (by rw [hl]; omega) (by omega)
      rw [key, hl]
      simp only [Ft.fl, List.append_assoc, List.cons_append]
      congr 1
      simp only [List.length_append]
      omega
theorem prOne_len {b : List UInt8} {n : NdV} {k : Ft} {t : List UInt8} (h : ndB n = true) (hk : n.tag.data.toList = [] → k = .nil) (u : Nat) (hu : u ≤ t.length) : 1 + k.kf u ≤ (prOne b n k t).length := by
  unfold prOne Ft.kf
  by_cases ht : n.tag.data.toList = []
  · rw [if_pos ht, hk ht, if_pos (show (Ft.nil).isN = true from rfl)]
    simp only [List.length_cons]
    omega
  · rw [if_neg ht]
    obtain ⟨h1, _, _⟩ := elem_mk (nd_elem h ht)
    obtain ⟨c, r, e, hs⟩ := name_cons h1
    have hh : 1 ≤ (headL n).length := by
      unfold headL
      rw [e]
      simp only [List.cons_append, List.length_cons]
      omega
    split
    · simp only [List.length_append]; omega
    · simp only [List.length_append, List.length_cons]; omega
theorem Ft.fu_le (b w : List UInt8) : ∀ F : Ft, F.good → F.fu ≤ (F.pr b w).length := by
  intro F
  induction F with
  | nil => intro _; exact Nat.le_refl _
  | cons n k nx ihk ihn =>
    intro ⟨⟨g1, g2⟩, g3, g4⟩
    have h1 := ihk g3
    have h2 := ihn g4
    have h3 := prOne_len (b := b) g1 g2 k.fu h1
    simp only [Ft.fu, Ft.pr, List.length_append]
    split
    · rename_i hx
      obtain rfl := Ft.isN_t hx
      simp only [Ft.fu]
      omega
    · simp only [List.length_append]
      omega
theorem read_all {s : ByteArray} {b w bl br : List UInt8} (hb : Bl b) (hw : Bl w) (hw0 : w ≠ []) (hbl : Bl bl) (hbr : Bl br) {n : NdV} {k : Ft} (hg : (Ft.cons n k .nil).good) (ht : ¬ n.tag.data.toList = []) (hsz : (Ft.cons n k .nil).sz ≤ 1024) (hht : (Ft.cons n k .nil).ht ≤ 64)
    (hs : s.data.toList = bl ++ ((Ft.cons n k .nil).pr b w ++ br)) : treeR s = .ok s.size ((Ft.cons n k .nil).fl 0 (-1)) := by
  have hA : At s 0 (bl ++ ((Ft.cons n k .nil).pr b w ++ br)) := ⟨Int.le_refl 0, hs, by rw [size_toList, hs]; omega⟩
  obtain ⟨c, r, e, hst⟩ := Ft.pr_start (b := b) (w := w) rfl hg
  have hsc : scI mblB s 0 = 0 + bl.length := sc_skip hA hbl (by rw [e]; exact Stop.of _ hst.1)
  have hfu := Ft.fu_le b w _ hg
  have hlen := hA.2.2
  simp only [List.length_append] at hlen
  simp only [Ft.fu] at hfu
  obtain ⟨m, hm⟩ : ∃ m, s.size + 1 = k.kf k.fu + m := ⟨s.size + 1 - k.kf k.fu, by omega⟩
  obtain ⟨⟨g1, g2⟩, g3, g4⟩ := hg
  have hA2 := hA.skip
  simp only [Ft.pr, show (Ft.nil).isN = true from rfl, if_true, List.append_nil] at hA2
  simp only [Ft.sz] at hsz
  simp only [Ft.ht] at hht
  have hro : RestOk br := by
    have := RestOk.blank (b := br) (r := []) hbr (Stop.nil _) (Stop.nil _) (fun _ => ⟨Stop.nil _, Stop.nil _⟩)
    rwa [List.append_nil] at this
  have one := rd_one hb g1 g2 g3 (fun h => Ft.rd hb hw hw0 k h g3) m (0 + bl.length) [] [] br hA2 hro (fun _ => ht) (by simp only [List.length_nil]; omega) (by simp only [List.length_nil]; omega)
  unfold treeR
  rw [show s.size + 2 = s.size + 1 + 1 from rfl, tN, hm, hsc, one]
  unfold nxT
  have hA3 := hA2.skip
  have hsc3 : scI mblB s (0 + bl.length + (prOne b n k (k.pr b w)).length) = s.size := by
    have hA3 : At s (0 + bl.length + (prOne b n k (k.pr b w)).length) (br ++ []) := by rw [List.append_nil]; exact hA3
    rw [sc_skip hA3 hbr (Stop.nil _)]
    have := hA3.2.2
    rw [List.append_nil] at this
    exact this
  rw [hsc3, show leI (([] : List Int).length : Nat) 0 = true from rfl, show leI s.size s.size = true by rw [leI_t]; omega]
  show TrR.ok _ _ = TrR.ok _ _
  congr 1
  simp only [Ft.fl, List.nil_append, List.append_nil, List.length_nil]
  rfl
end Go.Proofs.Ytglkdhmikpejnaa
namespace Go.Proofs.Ytglkdhmikpejnaa
open Go Go.RowKit Pl Sy
theorem drop_get {α : Type} (l : List α) (d : α) (k : Int) (h0 : 0 ≤ k) (h : k < l.length) : l.drop k.toNat = l.getD k.toNat d :: l.drop (k + 1).toNat := by
  rw [show (k + 1).toNat = k.toNat + 1 by omega, List.drop_eq_getElem_cons (by omega), List.getD_eq_getElem?_getD, List.getElem?_eq_getElem (by omega)]
  rfl
namespace Sy
end Sy
namespace Sy
end Sy
namespace Sy
end Sy
namespace Sy
end Sy
end Go.Proofs.Ytglkdhmikpejnaa
namespace Go.Proofs.Ytglkdhmikpejnaa
open Go Go.RowKit Pl Sy
theorem mk_size (l : List UInt8) : (ByteArray.mk (Array.mk l)).size = l.length := rfl
namespace Sy
end Sy
end Go.Proofs.Ytglkdhmikpejnaa
namespace Go.Proofs.Ytglkdhmikpejnaa
open Go Go.RowKit Pl Sy
def InL (L : List NdV) : Ft → Nat → Int → Prop
  | .nil, _, _ => True
  | .cons n k nx, i, p => (i < L.length ∧ L.getD i ndNone = setP n p) ∧ InL L k (i + 1) (i : Nat) ∧ InL L nx (i + 1 + k.sz) p
theorem InL.of : ∀ (F : Ft) (A B : List NdV) (p : Int), InL (A ++ (F.fl A.length p ++ B)) F A.length p := by
  intro F
  induction F with
  | nil => intro A B p; trivial
  | cons n k nx ihk ihn =>
    intro A B p
    refine ⟨⟨?_, ?_⟩, ?_, ?_⟩
    · simp only [Ft.fl, List.length_append, List.length_cons]
      omega
    · simp [Ft.fl, List.getD_eq_getElem?_getD]
    · have h := ihk (A ++ [setP n p]) (nx.fl (A.length + 1 + k.sz) p ++ B) (A.length : Nat)
      have e : A ++ ((Ft.cons n k nx).fl A.length p ++ B) = (A ++ [setP n p]) ++ (k.fl (A.length + 1) (A.length : Nat) ++ (nx.fl (A.length + 1 + k.sz) p ++ B)) := by simp [Ft.fl]
      rw [List.length_append, List.length_singleton] at h
      rw [e]
      exact h
    · have h := ihn (A ++ setP n p :: k.fl (A.length + 1) (A.length : Nat)) B p
      have e : A ++ ((Ft.cons n k nx).fl A.length p ++ B) = (A ++ setP n p :: k.fl (A.length + 1) (A.length : Nat)) ++ (nx.fl (A.length + 1 + k.sz) p ++ B) := by simp [Ft.fl]
      have el : (A ++ setP n p :: k.fl (A.length + 1) (A.length : Nat)).length = A.length + 1 + k.sz := by
        rw [List.length_append, List.length_cons, Ft.fl_len]
        omega
      rw [el] at h
      rw [e]
      exact h
theorem InL.root (F : Ft) : InL (F.fl 0 (-1)) F 0 (-1) := by
  have := InL.of F [] [] (-1)
  simpa using this
theorem InL.par {L : List NdV} : ∀ {F : Ft} {i : Nat} {p : Int}, InL L F i p → -1 ≤ p → p < i → ∀ y, i ≤ y → y < i + F.sz → y < L.length ∧ (pN L y = p ∨ (i : Int) ≤ pN L y) ∧ pN L y < y := by
  intro F
  induction F with
  | nil => intro i p h h0 h1 y h2 h3; simp only [Ft.sz] at h3; omega
  | cons n k nx ihk ihn =>
    intro i p h h0 h1 y h2 h3
    obtain ⟨⟨g1, g2⟩, g3, g4⟩ := h
    simp only [Ft.sz] at h3
    have hp : pN L i = p := by unfold pN; rw [g2]; rfl
    by_cases c1 : y = i
    · subst c1
      exact ⟨g1, .inl hp, by omega⟩
    · by_cases c2 : y < i + 1 + k.sz
      · obtain ⟨q1, q2, q3⟩ := ihk g3 (by omega) (by omega) y (by omega) c2
        exact ⟨q1, .inr (by rcases q2 with q2 | q2 <;> omega), q3⟩
      · obtain ⟨q1, q2, q3⟩ := ihn g4 h0 (by omega) y (by omega) (by omega)
        exact ⟨q1, by rcases q2 with q2 | q2; exact .inl q2; exact .inr (by omega), q3⟩
def OutL (L : List NdV) (F : Ft) (i : Nat) : Prop := ∀ y, y < L.length → (y < i ∨ i + F.sz ≤ y) → ¬ ((i : Int) ≤ pN L y ∧ pN L y < i + F.sz)
theorem OutL.kid {L : List NdV} {n : NdV} {k nx : Ft} {i : Nat} {p : Int} (h : InL L (.cons n k nx) i p) (h0 : -1 ≤ p) (h1 : p < i) (ho : OutL L (.cons n k nx) i) : OutL L k (i + 1) := fun y hy hc => by
  obtain ⟨⟨g1, g2⟩, g3, g4⟩ := h
  have hp : pN L i = p := by unfold pN; rw [g2]; rfl
  have ho := ho y hy
  simp only [Ft.sz] at ho
  by_cases c1 : y = i
  · subst c1; omega
  · by_cases c2 : y < i ∨ i + (1 + k.sz + nx.sz) ≤ y
    · have := ho c2; omega
    · obtain ⟨q1, q2, q3⟩ := InL.par g4 h0 (by omega) y (by omega) (by omega)
      rcases q2 with q2 | q2 <;> omega
theorem OutL.next {L : List NdV} {n : NdV} {k nx : Ft} {i : Nat} {p : Int} (h : InL L (.cons n k nx) i p) (h0 : -1 ≤ p) (h1 : p < i) (ho : OutL L (.cons n k nx) i) : OutL L nx (i + 1 + k.sz) := fun y hy hc => by
  obtain ⟨⟨g1, g2⟩, g3, g4⟩ := h
  have hp : pN L i = p := by unfold pN; rw [g2]; rfl
  have ho := ho y hy
  simp only [Ft.sz] at ho
  by_cases c1 : y = i
  · subst c1; omega
  · by_cases c2 : y < i ∨ i + (1 + k.sz + nx.sz) ≤ y
    · have := ho c2; omega
    · obtain ⟨q1, q2, q3⟩ := InL.par g3 (by omega) (by omega) y (by omega) (by omega)
      rcases q2 with q2 | q2 <;> omega
theorem OutL.root (F : Ft) : OutL (F.fl 0 (-1)) F 0 := fun y hy hc => by
  rw [Ft.fl_len] at hy
  omega
theorem OutL.last {L : List NdV} {n : NdV} {k nx : Ft} {i : Nat} {p : Int} (h : InL L (.cons n k nx) i p) (h0 : -1 ≤ p) (h1 : p < i) (ho : OutL L (.cons n k nx) i) (hlt : i + 1 + k.sz < L.length) : pN L (i + 1 + k.sz) ≠ i := by
  obtain ⟨⟨g1, g2⟩, g3, g4⟩ := h
  have ho := ho (i + 1 + k.sz) hlt
  simp only [Ft.sz] at ho
  by_cases c2 : i + (1 + k.sz + nx.sz) ≤ i + 1 + k.sz
  · have := ho (.inr c2); omega
  · obtain ⟨q1, q2, q3⟩ := InL.par g4 h0 (by omega) (i + 1 + k.sz) (by omega) (by omega)
    rcases q2 with q2 | q2 <;> omega
theorem clsL_le : ∀ (cs : List ByteArray), (∀ c ∈ cs, nameL c.data.toList = true) → (clsL cs).length ≤ 33 * cs.length
  | [], _ => Nat.le_refl _
  | c :: cs, h => by
    have := clsL_le cs fun c hc => h c (List.mem_cons_of_mem _ hc)
    have h1 := h c (List.mem_cons_self ..)
    unfold nameL at h1
    rw [Bool.and_eq_true, decide_eq_true_eq] at h1
    rw [clsL_cons, List.length_append, List.length_cons]
    show c.data.toList.length + 1 + _ ≤ _
    omega
theorem atsL_le : ∀ (ats : List AttrV), (∀ t ∈ ats, nameL t.name.data.toList = true ∧ textL t.value.data.toList = true) → (atsL ats).length ≤ 293 * ats.length
  | [], _ => Nat.le_refl _
  | t :: ats, h => by
    have := atsL_le ats fun c hc => h c (List.mem_cons_of_mem _ hc)
    obtain ⟨h1, h2⟩ := h t (List.mem_cons_self ..)
    unfold nameL at h1
    unfold textL at h2
    rw [Bool.and_eq_true, decide_eq_true_eq] at h1 h2
    rw [atsL_cons, List.length_append, List.length_cons]
    unfold atL
    simp only [List.length_cons, List.length_append, List.length_nil]
    omega
theorem headL_le {n : NdV} (h : elemB n = true) : (headL n).length ≤ 2700 := by
  obtain ⟨h1, h2, h3⟩ := elem_mk h
  have c1 := clsL_le n.cls h2.cls.2
  have c2 := atsL_le n.atts h2.ats.2
  have c3 := h2.cls.1
  have c4 := h2.ats.1
  have hi : (idL n.id).length ≤ 33 := by
    unfold idL
    rcases h2.id with q | q
    · rw [if_pos q]; exact Nat.zero_le _
    · split
      · exact Nat.zero_le _
      · unfold nameL at q
        rw [Bool.and_eq_true, decide_eq_true_eq] at q
        simp only [List.length_cons]
        omega
  unfold nameL at h1
  rw [Bool.and_eq_true, decide_eq_true_eq] at h1
  unfold headL
  simp only [List.length_append]
  omega
theorem prOne_le {b : List UInt8} {n : NdV} {k : Ft} {t : List UInt8} (h : ndB n = true) : (prOne b n k t).length ≤ 2710 + 3 * b.length + t.length := by
  unfold prOne
  by_cases ht : n.tag.data.toList = []
  · rw [if_pos ht]
    obtain ⟨_, _, _, h4⟩ := nd_words h ht
    unfold textL at h4
    rw [Bool.and_eq_true, decide_eq_true_eq] at h4
    simp only [List.length_cons, List.length_append, List.length_nil]
    omega
  · rw [if_neg ht]
    have := headL_le (nd_elem h ht)
    split
    · simp only [List.length_append, List.length_nil]; omega
    · simp only [List.length_append, List.length_cons, List.length_nil]; omega
theorem Ft.pr_le (b w : List UInt8) : ∀ F : Ft, F.good → (F.pr b w).length ≤ F.sz * (2710 + 3 * b.length + w.length) := by
  intro F
  induction F with
  | nil => intro _; exact Nat.zero_le _
  | cons n k nx ihk ihn =>
    intro ⟨⟨g1, g2⟩, g3, g4⟩
    have h1 := ihk g3
    have h2 := ihn g4
    have h3 := prOne_le (b := b) (k := k) (t := k.pr b w) g1
    simp only [Ft.pr, Ft.sz, List.length_append]
    rw [Nat.add_mul, Nat.add_mul, Nat.one_mul]
    split
    · simp only [List.length_nil]; omega
    · simp only [List.length_append]; omega
end Go.Proofs.Ytglkdhmikpejnaa
namespace Go.Proofs.Ytglkdhmikpejnaa
open Go Go.RowKit Pl Sy
theorem good_of {L : List NdV} (hT : ∀ y : Nat, y < L.length → ndB (ndN L y) = true ∧ stdB L y = true) : ∀ {F : Ft} {i : Nat} {p : Int}, InL L F i p → F.good := by
  intro F
  induction F with
  | nil => intro i p h; trivial
  | cons n k nx ihk ihn =>
    intro i p h
    obtain ⟨⟨g1, g2⟩, g3, g4⟩ := h
    have h1 := (hT i g1).1
    have e : ndN L (i : Nat) = setP n p := g2
    rw [e] at h1
    refine ⟨⟨h1, fun ht => ?_⟩, ihk g3, ihn g4⟩
    cases k with
    | nil => rfl
    | cons n2 k2 nx2 =>
      exfalso
      obtain ⟨⟨q1, q2⟩, _, _⟩ := g3
      have h2 := (hT (i + 1) q1).2
      have hp : pN L (i + 1) = (i : Nat) := by unfold pN; rw [q2]; rfl
      have hu : up (pN L) (i + 1) = (i : Nat) := by
        unfold up
        rw [hp, if_pos ⟨by omega, by omega⟩]
      unfold stdB standsN at h2
      rw [Int.toNat_natCast, if_neg (by omega), hu, Bool.and_eq_true, Bool.and_eq_true, Int.toNat_natCast] at h2
      have h3 := h2.1.2
      unfold tgB at h3
      rw [g2, bytesEq_eq] at h3
      have h4 : (setP n p).tag.data.toList = [] := ht
      rw [h4] at h3
      cases h3
theorem dep_in {L : List NdV} {y : Nat} {p : Int} (hp : pN L y = p) (h0 : -1 ≤ p) (h1 : p < y) (d : Nat) (hd : p < 0 → d = 0) (hd2 : 0 ≤ p → dep (pN L) p.toNat = d) : dep (pN L) y = d + 1 := by
  have hu : up (pN L) y = p := by
    unfold up
    rw [hp]
    split
    · rfl
    · omega
  by_cases c : 0 ≤ p
  · rw [dep_up _ _ (by omega), hu, hd2 c]
  · rw [dep_root _ _ (by omega), hd (by omega)]
theorem ht_of {L : List NdV} (hT : ∀ y : Nat, y < L.length → depI L y ≤ 64) : ∀ {F : Ft} {i : Nat} {p : Int} (d : Nat), InL L F i p → -1 ≤ p → p < i → (p < 0 → d = 0) → (0 ≤ p → dep (pN L) p.toNat = d) → d ≤ 64 → d + F.ht ≤ 64 := by
  intro F
  induction F with
  | nil => intro i p d h h0 h1 h2 h3 h4; exact h4
  | cons n k nx ihk ihn =>
    intro i p d h h0 h1 h2 h3 h4
    obtain ⟨⟨g1, g2⟩, g3, g4⟩ := h
    have hp : pN L i = p := by unfold pN; rw [g2]; rfl
    have hdi := dep_in hp h0 h1 d h2 h3
    have h64 := hT i g1
    unfold depI at h64
    rw [Int.toNat_natCast, hdi] at h64
    have k1 := ihk (d + 1) g3 (by omega) (by omega) (by omega) (fun _ => by rw [Int.toNat_natCast]; exact hdi) (by omega)
    have k2 := ihn d g4 h0 (by omega) h2 h3 h4
    simp only [Ft.ht]
    omega
structure TreeF (L : List NdV) (n : NdV) (k : Ft) : Prop where
  fl : L = (Ft.cons n k .nil).fl 0 (-1)
  good : (Ft.cons n k .nil).good
  ht : (Ft.cons n k .nil).ht ≤ 64
  sz : (Ft.cons n k .nil).sz ≤ 1024
  tag : ¬ n.tag.data.toList = []
  len : L.length = (Ft.cons n k .nil).sz
  lies : InL L (Ft.cons n k .nil) 0 (-1)
  out : OutL L (Ft.cons n k .nil) 0
  up : ∀ y, y < L.length → pN L y < y
theorem treeF {L : List NdV} (h : TreeOk L) (h0 : 0 < L.length) : ∃ n k, TreeF L n k := by
  obtain ⟨n, k, e⟩ := tree_forest h h0
  have hlen : L.length = (Ft.cons n k .nil).sz := by
    conv => lhs; rw [e]
    rw [Ft.fl_len]
  have hin : InL L (Ft.cons n k .nil) 0 (-1) := by
    have := InL.root (Ft.cons n k .nil)
    rw [← e] at this
    exact this
  have hout : OutL L (Ft.cons n k .nil) 0 := by
    have := OutL.root (Ft.cons n k .nil)
    rw [← e] at this
    exact this
  have ht := ht_of (fun y hy => (h.2 y hy).2.2) 0 hin (Int.le_refl _) (by omega) (fun _ => rfl) (fun q => absurd q (by decide)) (by decide)
  refine ⟨n, k, e, good_of (fun y hy => ⟨(h.2 y hy).1, (h.2 y hy).2.1⟩) hin, by omega, by have := h.1.1; omega, fun q => ?_, hlen, hin, hout, fun y hy => ?_⟩
  · have h1 := (h.2 0 h0).2.1
    have h2 : (decide (pN L 0 = -1) && tgB L 0) = true := h1
    rw [Bool.and_eq_true] at h2
    have h3 := h2.2
    unfold tgB at h3
    rw [hin.1.2, bytesEq_eq] at h3
    have h4 : (setP n (-1)).tag.data.toList = [] := q
    rw [h4] at h3
    cases h3
  · exact (InL.par hin (Int.le_refl _) (by omega) y (Nat.zero_le _) (by omega)).2.2
end Go.Proofs.Ytglkdhmikpejnaa
namespace Go.Proofs.Ytglkdhmikpejnaa
open Go Go.RowKit Pl Sy
namespace Sy
noncomputable def tcell (s : ByteArray) (i _j : Nat) : AV := .lit (.int .u8 (byteAt s i))
end Sy
theorem tcell_str (s : ByteArray) (k : Nat) (u : Value) (h : (Lib.strCells s)[k]? = some u) (ρ : Rho) : rel ρ (tcell s (k / 1) (k % 1)) u := by
  have hk : k < s.size := by
    have := (List.getElem?_eq_some_iff.1 h).1
    rwa [Lib.strCells_length] at this
  unfold Lib.strCells at h
  rw [List.getElem?_map, List.getElem?_eq_getElem (by rw [← size_toList]; exact hk)] at h
  simp only [Option.map_some, Option.some.injEq] at h
  subst h
  unfold tcell
  rw [Nat.div_one, byteAt_eq hk]
  simp only [rel]
  rfl
theorem Sy.appStr_sound {P : Program} {w0 : World} {ρ : Rho} {M : Mem} {w : World} (hW : WR w0 ρ M w) {t u ty e : TypeId} {i : TypeInfo} (ht : P.underlying t = some (.slice e)) (hu : P.underlying u = some .string) (hi : P.info? e = some i) (hz : i.zero = some (.int .u8 0)) (hs1 : i.size = 1) (hb1 : i.bytes = 1)
    {b n : Nat} {ux : Value} (hx : rel ρ (.own b n 1) ux) {c : Nat → Nat → AV} {m : Nat} (hb : M.get b = some ⟨[], e, some ⟨m, 1, c⟩⟩) (hnm : n ≤ m) (s : ByteArray) (hl : n + s.size ≤ 17592186044416) :
    Does P w0 ρ ((M.put b none).push ⟨[], e, some ⟨n + s.size, 1, appc n c (tcell s)⟩⟩) (.own M.top (n + s.size) 1) w (Builtin.append_ #[t, u] ty #[ux, .string s]) := by
  have hlt := Mem.get_lt hb
  have hM : (M.put b none).top = M.top := rfl
  have hul : (Lib.strCells s).length = s.size * 1 := by rw [Lib.strCells_length, Nat.mul_one]
  have huc := Lib.strCells_oneCell s
  have hcells : ∀ ρ' : Rho, ∀ k u, (Lib.strCells s)[k]? = some u → rel ρ' (tcell s (k / 1) (k % 1)) u ∧ u.oneCell' = true := fun ρ' k u h => ⟨tcell_str s k u h ρ', huc u (List.mem_of_getElem? h)⟩
  simp only [rel] at hx
  rcases hx with ⟨hnil, rfl, rfl⟩ | ⟨g, tot, cap, hg, rfl, hn, hcm, hfit⟩
  · rcases Nat.eq_zero_or_pos s.size with h0 | h0
    · obtain ⟨q1, q2, q3⟩ := (hW.die hlt).virt e 1 (appc 0 c (tcell s))
      refine ⟨_, .slice none 0 0, w, q1, ?_, ?_, ?_⟩
      · simp only [rel]; exact .inl ⟨q2, by omega, trivial⟩
      · rw [h0]; exact q3
      · have hf := Lib.run_firstCells_string (P := P) w 1 s
        rw [h0] at hf
        simp [Builtin.append_, run_underlying ht, run_underlying hu, sizeOf, typeInfo, hi, hs1, Builtin.lenOf, h0, hf]
    · have hr := run_append_nil_string (P := P) w t u ty e i (.int .u8 0) ht hu hi hz s h0 (by omega) (by rw [hb1]; omega)
      have e1 : (s.data.map fun b => Value.int .u8 b.toNat) = (Lib.strCells s).toArray := by
        apply Array.ext'
        simp [Lib.strCells]
      rw [e1] at hr
      have hWd := hW.drew.die hlt
      refine ⟨_, _, _, hWd.fresh _, ?_, hWd.new' ⟨[], e, some ⟨0 + s.size, 1, appc 0 c (tcell s)⟩⟩ (us := (Lib.strCells s).toArray ++ Builtin.zeroCells (Value.int .u8 0).cells (grownCap w s.size 0 e - s.size)) (holds_rows fun k hk => ?_), hr⟩
      · simp only [rel]
        have hge := grownCap_ge w s.size 0 e
        refine .inr ⟨_, _, _, by rw [hM]; exact upd_same _ _ _, by rw [Nat.zero_add]; rfl, by omega, grownCap_le_maxLen w s.size 0 e (by unfold maxLen; omega), ?_⟩
        have hz1 : (Value.int IntKind.u8 0).cells.size = 1 := rfl
        simp only [Array.size_append, List.size_toArray, size_zeroCells, hz1, Lib.strCells_length]
        omega
      · have hk' : k < (Lib.strCells s).length := by rw [hul]; omega
        refine ⟨(Lib.strCells s)[k], by rw [Array.getElem?_append_left (by simpa using hk')]; simp [hk'], ?_⟩
        have happ : appc 0 c (tcell s) (k / 1) (k % 1) = tcell s (k / 1) (k % 1) := appc_ge (Nat.zero_le _)
        rw [happ]
        exact hcells ρ k _ (List.getElem?_eq_getElem hk')
  · obtain ⟨q2, cur, q3, q4, q5⟩ := hW.holds hb hg
    have hns : n * 1 ≤ cur.size := by
      rw [q4]; omega
    obtain ⟨p1, p2⟩ := own_cells q5 rfl hnm hns
    simp only at p1 p2
    by_cases hroom : n + s.size ≤ cap
    · have hr := Lib.run_append_room_string (P := P) w t u ty e i ht hu hi hs1 g n cap cur q3 s hroom (by omega)
      refine ⟨upd ρ M.top (g, tot), _, _, hW.fresh _, ?_, ?_, hr⟩
      · simp only [rel]
        exact .inr ⟨g, tot, cap, upd_same _ _ _, rfl, hroom, hcm, hfit⟩
      · have hkey := hW.renew' hb hg ⟨[], e, some ⟨n + s.size, 1, appc n c (tcell s)⟩⟩ rfl (us := (cur.toList.take (n * 1) ++ Lib.strCells s ++ cur.toList.drop (n + s.size)).toArray) (by
          simp only [List.size_toArray, List.length_append, List.length_take, List.length_drop, Array.length_toList, Lib.strCells_length]
          omega) (holds_app p1 hul (fun k u hk => (p2 k u hk).2) (fun k u hk => hcells ρ k u hk) (fun k u hk => ?_))
        · rw [Nat.mul_one] at hkey
          exact hkey
        · have hkl := (List.getElem?_eq_some_iff.1 hk).1
          rw [List.getElem?_toArray, List.getElem?_append_left hkl]
          exact hk
    · have hr := Lib.run_append_grow_string (P := P) w t u ty e i (.int .u8 0) ht hu hi hz ⟨g, 0, none⟩ n cap (cur.toList.take (n * 1)) (by rw [p1, hs1]) (fun j u hj => by rw [add_at, cell_at q3, Nat.zero_add]; exact (p2 j u hj).1) s (by omega) (by omega) (by rw [hb1]; exact growslice_fits (by omega) (by omega))
      have hWd := hW.drew.die hlt
      refine ⟨_, _, _, hWd.fresh _, ?_, hWd.new' ⟨[], e, some ⟨n + s.size, 1, appc n c (tcell s)⟩⟩ (us := (cur.toList.take (n * 1)).toArray ++ (Lib.strCells s).toArray ++ Builtin.zeroCells (Value.int .u8 0).cells (grownCap w (n + s.size) cap e - (n + s.size))) (holds_app p1 hul (fun k u hk => (p2 k u hk).2) (fun k u hk => hcells ρ k u hk) (fun k u hk => ?_)), hr⟩
      · simp only [rel]
        have hge := grownCap_ge w (n + s.size) cap e
        refine .inr ⟨_, _, _, by rw [hM]; exact upd_same _ _ _, rfl, hge, grownCap_le_maxLen w (n + s.size) cap e (by unfold maxLen; omega), ?_⟩
        have hz1 : (Value.int IntKind.u8 0).cells.size = 1 := rfl
        simp only [Array.size_append, List.size_toArray, size_zeroCells, hz1, p1, Lib.strCells_length]
        omega
      · have hkl := (List.getElem?_eq_some_iff.1 hk).1
        rw [Array.getElem?_append_left (by simpa using hkl)]
        simpa using hk
theorem setCell_row {w : World} {g : Nat} {cur : Array Value} {e : TypeId} {fr : Nat × Nat} (hg : w.heap[g]? = some (.cells cur e fr)) (i : Nat) (hi : i < cur.size) (v : Value) : w.setCell ⟨g, i, none⟩ v = w.setRow g (cur.setIfInBounds i v) := by
  unfold World.setCell World.setRow
  congr 1
  refine Array.ext_getElem? fun k => ?_
  rw [Array.getElem?_modify, Array.getElem?_modify]
  by_cases hk : g = k
  · subst hk
    simp [hg]
  · simp [hk]
theorem bdr_size : (Try.prog.info? 60).map (·.size) = some 2 := by kernel_rfl
theorem rowAt_more {P : Program} {fits : TypeId → Bool} {e : TypeId} {n count : Nat} (hc : 1 ≤ count) : ∀ d, rowAt P fits d e 1 0 1 = true → rowAt P fits d e count 0 1 = true
  | 0, h => by cases h
  | d + 1, h => by
    unfold rowAt at h ⊢
    simp only [Nat.zero_div, Nat.zero_mod, Nat.zero_add, Nat.le_refl, decide_true, Bool.and_true, Bool.true_and, Nat.lt_add_one, beq_self_eq_true] at h ⊢
    rw [show decide (1 ≤ count) = true from decide_eq_true hc, show decide (0 < count) = true from decide_eq_true hc]
    simpa using h
theorem lies_more {P : Program} {e u : TypeId} {fs : Array Field} {count : Nat} (hu : P.underlying u = some (.struct fs)) (hc : 1 ≤ count) : ∀ d, liesAt P d e 1 0 u 1 = true → liesAt P d e count 0 u 1 = true
  | 0, h => by cases h
  | d + 1, h => by
    unfold liesAt at h ⊢
    rw [hu] at h ⊢
    simp only [Bool.or_false] at h ⊢
    exact rowAt_more (n := 0) hc _ h
theorem bdr_lies1 : liesAt Try.prog Try.prog.depth 62 1 0 60 1 = true := by kernel_rfl
theorem wrt_cells : Try.prog.cellsOf 62 = 3 := by kernel_rfl
theorem bdr_lies (cells : Nat) (h : 3 ≤ cells) : liesAt Try.prog Try.prog.depth 62 (cells / Try.prog.cellsOf 62) 0 60 1 = true := by
  rw [wrt_cells]
  exact lies_more Try.underlying60 (by omega) _ bdr_lies1
set_option maxRecDepth 100000 in
theorem cc_used (b : Nat) (w : World) (h0 : w.cell? ⟨b, 0, none⟩ = some (.pointer (some ⟨b, 0, none⟩))) :
    Calls Try.prog 69 #[.pointer (some ⟨b, 0, none⟩)] w fun e w' => e = .returned (.tuple #[]) ∧ w' = w := by
  obtain ⟨j, hj, _⟩ := Option.map_eq_some_iff.1 bdr_size
  go_enter Try.func69, Try.ntmps69
  go_wp2
  rw [Lib.run_neq_ptr_same w _ Try.underlying57 hj]
  go_wp2
  go_end0
  exact ⟨rfl, rfl⟩
set_option maxRecDepth 100000 in
theorem cc_fresh (b cells : Nat) (h3 : 3 ≤ cells) (w : World) (h0 : w.cell? ⟨b, 0, none⟩ = some (.pointer none)) (hsh : w.shape? b = some (62, cells)) (hfz : w.frozen? ⟨b, 0, none⟩ = false) :
    Calls Try.prog 69 #[.pointer (some ⟨b, 0, none⟩)] w fun e w' => e = .returned (.tuple #[]) ∧ w' = w.setCell ⟨b, 0, none⟩ (.pointer (some ⟨b, 0, none⟩)) := by
  obtain ⟨j, hj, hjs⟩ := Option.map_eq_some_iff.1 bdr_size
  go_enter Try.func69, Try.ntmps69
  go_wp2
  rw [Lib.run_to_unsafe w ⟨b, 0, none⟩ Try.underlying57 Try.underlying102 hj (by rw [hjs]; decide) hsh (by show 0 < cells; omega)]
  simp only [Result.andThen]
  rw [Oper.upon_value]
  go_wp2
  rw [run_callFunc_extern Try.func77 (by kernel_rfl) (by kernel_rfl) (by kernel_rfl) (e := Extern.AbiNoEscape.same) (by kernel_rfl)]
  rw [Lib.run_noEscape]
  simp only [Result.andThen]
  rw [Oper.upon_value]
  go_wp2
  rw [Lib.run_from_unsafe w ⟨b, 0, none⟩ Try.underlying102 Try.underlying57 hj hsh (bdr_lies cells h3)]
  simp only [Result.andThen]
  rw [Oper.upon_value]
  go_wp2
  go_end0
  exact ⟨rfl, rfl⟩
end Go.Proofs.Ytglkdhmikpejnaa
