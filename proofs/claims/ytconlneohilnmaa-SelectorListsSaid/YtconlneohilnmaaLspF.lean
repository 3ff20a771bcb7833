/-
  Lemmas for SelectorLists, part 6; no conditions.
-/
import Derived.Test.YtconlneohilnmaaLspE
namespace Go.Proofs.Ytconlneohilnmaa
open Go Go.RowKit Pl Sy
set_option linter.unusedVariables false
set_option linter.unusedSimpArgs false
abbrev Sy.tokV (k : Int) (x : ByteArray) (n e : Int) : AV := .tup [.agg [int k, .lit (.string x), int n], int e]
noncomputable def quoZ (s : ByteArray) (a : Int) : Int := upI (quoB (byteAt s a.toNat)) s (a + 1)
noncomputable def quoK (s : ByteArray) (a : Int) : Int := if eqI (quoZ s a) s.size = true then 5 else if eqI (byteAt s (quoZ s a).toNat) 10 = true then 6 else 5
noncomputable def quoX (s : ByteArray) (a : Int) : ByteArray := s.extract (a + 1).toNat (quoZ s a).toNat
noncomputable def quoE (s : ByteArray) (a : Int) : Int := if eqI (quoZ s a) s.size = true then quoZ s a else if eqI (byteAt s (quoZ s a).toNat) 10 = true then quoZ s a else quoZ s a + 1
theorem Sy.quo_t (s : ByteArray) (hs : limT s.size) (a : Int) (h0 : 0 ≤ a) (h1 : a < s.size) : CallTo Try.prog 54 [.lit (.string s), int a] M0 fun v _ => v = tokV (quoK s a) (quoX s a) 0 (quoE s a) := by
  have hs' := hs
  unfold limT at hs
  refine toV [] [lp_quo s a] 400 30 (.yes (.br .done (.yes (.br .done .done)))) (.need (@isSo (@And (((some (@AV.lit (@Value.string s))) :: (some (int a)) :: [none, none, (some (@AV.ptr 0 0)), (some (int (0 : Int))), (some (int (w64 (a + (1 : Int))))), none, none, none, none, none, none, none, none, none, none, none, none, none, none, none, none, none, none, none, none, none, none, none, none, none, none, none, none, none, none, none, none, none, none, none, none, none, none, none, none, none, none, none, none, none, none]) = [(some (@AV.lit (@Value.string s))), (some (int a)), none, none, (some (@AV.ptr 0 0)), (some (int (0 : Int))), (some (int (w64 (a + (1 : Int))))), none, none, none, none, none, none, none, none, none, none, none, none, none, none, none, none, none, none, none, none, none, none, none, none, none, none, none, none, none, none, none, none, none, none, none, none, none, none, none, none, none, none, none, none, none, none]) ((@Mem.mk 1 0 [(some (@Blk.mk [(int (0 : Int)), (@AV.lit (@Value.string (@ByteArray.mk (@Array.mk _ [])))), (int (0 : Int))] 39 none))]) = quM))) (.need (@isSo (@And ((@ByteArray.size s) ≤ 1000000) (@And (@And ((0 : Int) ≤ a) (a < (((@ByteArray.size s) : Nat) : Int))) (@And ((0 : Int) ≤ (w64 (a + (1 : Int)))) ((w64 (a + (1 : Int))) ≤ (((@ByteArray.size s) : Nat) : Int)))))) (.need ((leI (0 : Int) (w64 (a + (1 : Int)))) && ((leI (w64 (a + (1 : Int))) (@upI (@quoB (@byteAt s (a).toNat)) s (w64 (a + (1 : Int))))) && (leI (@upI (@quoB (@byteAt s (a).toNat)) s (w64 (a + (1 : Int)))) (((@ByteArray.size s) : Nat) : Int)))) (.fork (eqI (@upI (@quoB (@byteAt s (a).toNat)) s (w64 (a + (1 : Int)))) (((@ByteArray.size s) : Nat) : Int)) (.leaf (@AV.tup [(@AV.agg (@List.take _ 3 ((int (5 : Int)) :: ((@AV.lit (@Value.string (@ByteArray.extract s ((w64 (a + (1 : Int)))).toNat ((@upI (@quoB (@byteAt s (a).toNat)) s (w64 (a + (1 : Int))))).toNat))) :: [(int (0 : Int))])))), (int (@upI (@quoB (@byteAt s (a).toNat)) s (w64 (a + (1 : Int)))))])) (.need (@inR (@upI (@quoB (@byteAt s (a).toNat)) s (w64 (a + (1 : Int)))) (@ByteArray.size s)) (.fork (eqI (@byteAt s ((@upI (@quoB (@byteAt s (a).toNat)) s (w64 (a + (1 : Int))))).toNat) (10 : Int)) (.leaf (@AV.tup [(@AV.agg (@List.take _ 3 ((int (6 : Int)) :: ((@AV.lit (@Value.string (@ByteArray.extract s ((w64 (a + (1 : Int)))).toNat ((@upI (@quoB (@byteAt s (a).toNat)) s (w64 (a + (1 : Int))))).toNat))) :: [(int (0 : Int))])))), (int (@upI (@quoB (@byteAt s (a).toNat)) s (w64 (a + (1 : Int)))))])) (.leaf (@AV.tup [(@AV.agg (@List.take _ 3 ((int (5 : Int)) :: ((@AV.lit (@Value.string (@ByteArray.extract s ((w64 (a + (1 : Int)))).toNat ((@upI (@quoB (@byteAt s (a).toNat)) s (w64 (a + (1 : Int))))).toNat))) :: [(int (0 : Int))])))), (int (w64 ((@upI (@quoB (@byteAt s (a).toNat)) s (w64 (a + (1 : Int)))) + (1 : Int))))])))))))) (by kernel_rfl) ?_
  rw [w64_in (r := a + 1) (by omega)]
  have hz := upI_le (quoB (byteAt s a.toNat)) s (a + 1) (by omega) (by omega)
  unfold quoK quoX quoE
  rw [show upI (quoB (byteAt s a.toNat)) s (a + 1) = quoZ s a from rfl] at hz ⊢
  generalize hzz : quoZ s a = z at *
  rw [w64_in (r := z + 1) (by omega)]
  refine need_so ⟨rfl, rfl⟩ (need_so ⟨hs', ⟨h0, h1⟩, by omega, by omega⟩ (need_t (by simp only [Bool.and_eq_true, leI_t]; omega) (fork_ok (fun q => ?_) (fun q => ?_))))
  · rw [q]; exact rfl
  · have q' := q
    simp only [Bool.not_eq_true', Bool.not_eq_false', leI_t, leI_f, eqI_t, eqI_f, inR_t, inR_f, isSo_t, isSo_f] at q'
    rw [q]
    refine need_t (by rw [inR_t]; omega) (fork_ok (fun u => ?_) (fun u => ?_))
    · rw [u]; exact rfl
    · rw [u]; exact rfl
noncomputable abbrev Sy.cQuo (s : ByteArray) : Con Try.prog := atX 54 (fun args => match args with | [_, .lit (.int _ a)] => some a | _ => none) (fun a => [.lit (.string s), int a]) (fun a => tokV (quoK s a) (quoX s a) 0 (quoE s a)) (fun a => limT s.size ∧ 0 ≤ a ∧ a < s.size) fun a h => ⟨⟨⟨trivial, trivial, trivial⟩, ⟨⟨trivial, trivial, trivial, trivial⟩, trivial, trivial⟩⟩, quo_t s h.1 a h.2.1 h.2.2⟩
noncomputable def meaN (s : ByteArray) (a n : Int) : Int := worthI (s.extract a.toNat (a + n).toNat)
noncomputable def pctB (s : ByteArray) (e : Int) : Bool := !leI s.size e && eqI (byteAt s e.toNat) 37
noncomputable def meaK (s : ByteArray) (a n : Int) : Int := if pctB s (a + n) = true then 8 else if startsI s (a + n) = true then 9 else 7
noncomputable def meaX (s : ByteArray) (a n : Int) : ByteArray := if pctB s (a + n) = true then ⟨#[]⟩ else if startsI s (a + n) = true then s.extract (a + n).toNat (a + n + spanI goesB s (a + n)).toNat else ⟨#[]⟩
noncomputable def meaE (s : ByteArray) (a n : Int) : Int := if pctB s (a + n) = true then a + n + 1 else if startsI s (a + n) = true then a + n + spanI goesB s (a + n) else a + n
theorem Sy.mea_t (s : ByteArray) (hs : limT s.size) (a n : Int) (h0 : 0 ≤ a) (h1 : 0 < n) (h2 : a + n ≤ s.size) : CallTo Try.prog 56 [.lit (.string s), int a, int n] M0 fun v _ => v = tokV (meaK s a n) (meaX s a n) (meaN s a n) (meaE s a n) := by
  have hs' := hs
  unfold limT at hs
  refine toV [cWor, cSta s, cRun s] [] 400 30 (.yes (.yes (.br (.auto 1 (.yes (.auto 1 (.br .done (.yes (.br (.yes (.yes .done)) .done)))))) (.auto 4 (.yes (.br (.yes (.yes .done)) .done)))))) (.need ((leI (0 : Int) a) && ((leI a (w64 (a + n))) && (leI (w64 (a + n)) (((@ByteArray.size s) : Nat) : Int)))) (.need (@isSo (@And ((@HAppend.hAppend _ _ _ _ (@HAppend.hAppend _ _ _ _ [] [(@AV.lit (@Value.string (@ByteArray.extract s (a).toNat ((w64 (a + n))).toNat)))]) []) = [(@AV.lit (@Value.string (@ByteArray.extract s (a).toNat ((w64 (a + n))).toNat)))]) (@And ((@ByteArray.size (@ByteArray.extract s (a).toNat ((w64 (a + n))).toNat)) ≤ 1000000) (0 < (@ByteArray.size (@ByteArray.extract s (a).toNat ((w64 (a + n))).toNat)))))) (.fork (!(leI (((@ByteArray.size s) : Nat) : Int) (w64 (a + n)))) (.need (@inR (w64 (a + n)) (@ByteArray.size s)) (.fork (eqI (@byteAt s ((w64 (a + n))).toNat) (37 : Int)) (.leaf (@AV.tup [(@AV.agg (@List.take _ 3 ((int (8 : Int)) :: ((@AV.lit (@Value.string (@ByteArray.mk (@Array.mk _ [])))) :: ((int (@worthI (@ByteArray.extract s (a).toNat ((w64 (a + n))).toNat))) :: (@List.drop _ (0 + (((int (8 : Int)) :: ((@AV.lit (@Value.string (@ByteArray.mk (@Array.mk _ [])))) :: [(int (@worthI (@ByteArray.extract s (a).toNat ((w64 (a + n))).toNat)))]))).length) [(int (0 : Int)), (@AV.lit (@Value.string (@ByteArray.mk (@Array.mk _ [])))), (int (0 : Int))])))))), (int (w64 ((w64 (a + n)) + (1 : Int))))])) (.need (@isSo (@And ((@HAppend.hAppend _ _ _ _ (@HAppend.hAppend _ _ _ _ [] [(@AV.lit (@Value.string s)), (int (w64 (a + n)))]) []) = [(@AV.lit (@Value.string s)), (int (w64 (a + n)))]) (@And ((@ByteArray.size s) ≤ 1000000) (@And ((0 : Int) ≤ (w64 (a + n))) ((w64 (a + n)) ≤ (((@ByteArray.size s) : Nat) : Int)))))) (.fork (@startsI s (w64 (a + n))) (.need (@isSo (@And ((@HAppend.hAppend _ _ _ _ (@HAppend.hAppend _ _ _ _ [] [(@AV.lit (@Value.string s)), (int (w64 (a + n)))]) []) = [(@AV.lit (@Value.string s)), (int (w64 (a + n)))]) (@And ((@ByteArray.size s) ≤ 1000000) (@And ((0 : Int) ≤ (w64 (a + n))) ((w64 (a + n)) ≤ (((@ByteArray.size s) : Nat) : Int)))))) (.need ((leI (0 : Int) (w64 (a + n))) && ((leI (w64 (a + n)) (w64 ((w64 (a + n)) + (@spanI Pl.goesB s (w64 (a + n)))))) && (leI (w64 ((w64 (a + n)) + (@spanI Pl.goesB s (w64 (a + n))))) (((@ByteArray.size s) : Nat) : Int)))) (.leaf (@AV.tup [(@AV.agg (@List.take _ 3 ((int (9 : Int)) :: ((@AV.lit (@Value.string (@ByteArray.extract s ((w64 (a + n))).toNat ((w64 ((w64 (a + n)) + (@spanI Pl.goesB s (w64 (a + n)))))).toNat))) :: ((int (@worthI (@ByteArray.extract s (a).toNat ((w64 (a + n))).toNat))) :: (@List.drop _ (0 + (((int (9 : Int)) :: ((@AV.lit (@Value.string (@ByteArray.extract s ((w64 (a + n))).toNat ((w64 ((w64 (a + n)) + (@spanI Pl.goesB s (w64 (a + n)))))).toNat))) :: [(int (@worthI (@ByteArray.extract s (a).toNat ((w64 (a + n))).toNat)))]))).length) [(int (0 : Int)), (@AV.lit (@Value.string (@ByteArray.mk (@Array.mk _ [])))), (int (0 : Int))])))))), (int (w64 ((w64 (a + n)) + (@spanI Pl.goesB s (w64 (a + n))))))])))) (.leaf (@AV.tup [(@AV.agg (@List.take _ 3 ((int (7 : Int)) :: (@AV.lit (@Value.string (@ByteArray.mk (@Array.mk _ [])))) :: ((int (@worthI (@ByteArray.extract s (a).toNat ((w64 (a + n))).toNat))) :: (@List.drop _ (0 + (((int (7 : Int)) :: (@AV.lit (@Value.string (@ByteArray.mk (@Array.mk _ [])))) :: [(int (@worthI (@ByteArray.extract s (a).toNat ((w64 (a + n))).toNat)))])).length) [(int (0 : Int)), (@AV.lit (@Value.string (@ByteArray.mk (@Array.mk _ [])))), (int (0 : Int))]))))), (int (w64 (a + n)))])))))) (.need (@isSo (@And ((@HAppend.hAppend _ _ _ _ (@HAppend.hAppend _ _ _ _ [] [(@AV.lit (@Value.string s)), (int (w64 (a + n)))]) []) = [(@AV.lit (@Value.string s)), (int (w64 (a + n)))]) (@And ((@ByteArray.size s) ≤ 1000000) (@And ((0 : Int) ≤ (w64 (a + n))) ((w64 (a + n)) ≤ (((@ByteArray.size s) : Nat) : Int)))))) (.fork (@startsI s (w64 (a + n))) (.need (@isSo (@And ((@HAppend.hAppend _ _ _ _ (@HAppend.hAppend _ _ _ _ [] [(@AV.lit (@Value.string s)), (int (w64 (a + n)))]) []) = [(@AV.lit (@Value.string s)), (int (w64 (a + n)))]) (@And ((@ByteArray.size s) ≤ 1000000) (@And ((0 : Int) ≤ (w64 (a + n))) ((w64 (a + n)) ≤ (((@ByteArray.size s) : Nat) : Int)))))) (.need ((leI (0 : Int) (w64 (a + n))) && ((leI (w64 (a + n)) (w64 ((w64 (a + n)) + (@spanI Pl.goesB s (w64 (a + n)))))) && (leI (w64 ((w64 (a + n)) + (@spanI Pl.goesB s (w64 (a + n))))) (((@ByteArray.size s) : Nat) : Int)))) (.leaf (@AV.tup [(@AV.agg (@List.take _ 3 ((int (9 : Int)) :: ((@AV.lit (@Value.string (@ByteArray.extract s ((w64 (a + n))).toNat ((w64 ((w64 (a + n)) + (@spanI Pl.goesB s (w64 (a + n)))))).toNat))) :: ((int (@worthI (@ByteArray.extract s (a).toNat ((w64 (a + n))).toNat))) :: (@List.drop _ (0 + (((int (9 : Int)) :: ((@AV.lit (@Value.string (@ByteArray.extract s ((w64 (a + n))).toNat ((w64 ((w64 (a + n)) + (@spanI Pl.goesB s (w64 (a + n)))))).toNat))) :: [(int (@worthI (@ByteArray.extract s (a).toNat ((w64 (a + n))).toNat)))]))).length) [(int (0 : Int)), (@AV.lit (@Value.string (@ByteArray.mk (@Array.mk _ [])))), (int (0 : Int))])))))), (int (w64 ((w64 (a + n)) + (@spanI Pl.goesB s (w64 (a + n))))))])))) (.leaf (@AV.tup [(@AV.agg (@List.take _ 3 ((int (7 : Int)) :: (@AV.lit (@Value.string (@ByteArray.mk (@Array.mk _ [])))) :: ((int (@worthI (@ByteArray.extract s (a).toNat ((w64 (a + n))).toNat))) :: (@List.drop _ (0 + (((int (7 : Int)) :: (@AV.lit (@Value.string (@ByteArray.mk (@Array.mk _ [])))) :: [(int (@worthI (@ByteArray.extract s (a).toNat ((w64 (a + n))).toNat)))])).length) [(int (0 : Int)), (@AV.lit (@Value.string (@ByteArray.mk (@Array.mk _ [])))), (int (0 : Int))]))))), (int (w64 (a + n)))]))))))) (by kernel_rfl) ?_
  have hb := spanI_bd goesB s (a + n) (by omega)
  rw [w64_in (r := a + n) (by omega), w64_in (r := a + n + spanI goesB s (a + n)) (by omega), w64_in (r := a + n + 1) (by omega)]
  have hx : (s.extract a.toNat (a + n).toNat).size = n.toNat := by rw [ByteArray.size_extract]; omega
  unfold meaK meaX meaN meaE pctB
  have last : ∀ (G : AV → Prop) (T : Tr AV), T.Ok G → T.Ok G := fun _ _ h => h
  refine need_t (by simp only [Bool.and_eq_true, leI_t]; omega) (need_so ⟨rfl, by show _ ≤ 1000000; omega, by omega⟩ (fork_ok (fun q => ?_) (fun q => ?_)))
  · have q' := q
    simp only [Bool.not_eq_true', leI_f] at q'
    rw [q]
    refine need_t (by rw [inR_t]; omega) (fork_ok (fun u => ?_) (fun u => ?_))
    · rw [u]; exact rfl
    · rw [u]
      refine need_so ⟨rfl, hs', by omega, by omega⟩ (fork_ok (fun v => need_so ⟨rfl, hs', by omega, by omega⟩ (need_t (by simp only [Bool.and_eq_true, leI_t]; omega) ?_)) (fun v => ?_))
      · rw [v]; exact rfl
      · rw [v]; exact rfl
  · rw [q]
    refine need_so ⟨rfl, hs', by omega, by omega⟩ (fork_ok (fun v => need_so ⟨rfl, hs', by omega, by omega⟩ (need_t (by simp only [Bool.and_eq_true, leI_t]; omega) ?_)) (fun v => ?_))
    · rw [v]; exact rfl
    · rw [v]; exact rfl
noncomputable abbrev Sy.cMea (s : ByteArray) : Con Try.prog := atX 56 (fun args => match args with | [_, .lit (.int _ a), .lit (.int _ n)] => some (a, n) | _ => none) (fun x => [.lit (.string s), int x.1, int x.2]) (fun x => tokV (meaK s x.1 x.2) (meaX s x.1 x.2) (meaN s x.1 x.2) (meaE s x.1 x.2)) (fun x => limT s.size ∧ 0 ≤ x.1 ∧ 0 < x.2 ∧ x.1 + x.2 ≤ s.size) fun x h => ⟨⟨⟨trivial, trivial, trivial, trivial⟩, ⟨⟨trivial, trivial, trivial, trivial⟩, trivial, trivial⟩⟩, mea_t s h.1 x.1 x.2 h.2.1 h.2.2.1 h.2.2.2⟩
def wSl : ByteArray := ⟨⟨[47, 42]⟩⟩
def wLs : ByteArray := ⟨⟨[42, 47]⟩⟩
def wOp : ByteArray := ⟨⟨[40]⟩⟩
noncomputable def nameT (s : ByteArray) (a : Int) : TokV × Int :=
  if startsI s a = true then
    if hasI s wOp (a + spanI goesB s a) = true then (⟨2, s.extract a.toNat (a + spanI goesB s a).toNat, 0⟩, a + spanI goesB s a + 1)
    else (⟨1, s.extract a.toNat (a + spanI goesB s a).toNat, 0⟩, a + spanI goesB s a)
  else if (!leI (sgnI (byteAt s a.toNat)) 0) = true then (⟨sgnI (byteAt s a.toNat), ⟨⟨[]⟩⟩, 0⟩, a + 1)
  else (⟨19, s.extract a.toNat (a + 1).toNat, 0⟩, a + 1)
noncomputable def atT (s : ByteArray) (a : Int) : TokV × Int :=
  if (eqI (byteAt s a.toNat) 64 && startsI s (a + 1)) = true then (⟨3, s.extract (a + 1).toNat (a + 1 + spanI goesB s (a + 1)).toNat, 0⟩, a + 1 + spanI goesB s (a + 1))
  else nameT s a
noncomputable def hashT (s : ByteArray) (a : Int) : TokV × Int :=
  if (eqI (byteAt s a.toNat) 35 && !leI (spanI goesB s (a + 1)) 0) = true then (⟨4, s.extract (a + 1).toNat (a + 1 + spanI goesB s (a + 1)).toNat, 0⟩, a + 1 + spanI goesB s (a + 1))
  else atT s a
noncomputable def oneT (s : ByteArray) (a : Int) : TokV × Int :=
  if hasI s wSl a = true then (⟨0, ⟨⟨[]⟩⟩, 0⟩, bhI s wLs (a + 2))
  else if blankB (byteAt s a.toNat) = true then (⟨20, ⟨⟨[]⟩⟩, 0⟩, a + spanI blankB s a)
  else if (eqI (byteAt s a.toNat) 34 || eqI (byteAt s a.toNat) 39) = true then (⟨quoK s a, quoX s a, 0⟩, quoE s a)
  else if (!leI (numI s a) 0) = true then (⟨meaK s a (numI s a), meaX s a (numI s a), meaN s a (numI s a)⟩, meaE s a (numI s a))
  else hashT s a
noncomputable def oneK (s : ByteArray) (a : Int) : Int := (oneT s a).1.kind
noncomputable def oneX (s : ByteArray) (a : Int) : ByteArray := (oneT s a).1.text
noncomputable def oneN (s : ByteArray) (a : Int) : Int := (oneT s a).1.n
noncomputable def oneE (s : ByteArray) (a : Int) : Int := (oneT s a).2
theorem hasI_le {s t : ByteArray} {a : Int} (h : hasI s t a = true) : a + t.size ≤ s.size := by
  unfold hasI at h
  rw [Bool.and_eq_true, leI_t] at h
  omega
theorem num_le (s : ByteArray) (a : Int) (h0 : 0 ≤ a) (h1 : a ≤ s.size) : a + numI s a ≤ s.size := by
  have hB : ∀ b : Int, 0 ≤ b → b ≤ s.size → a ≤ b → a + numB s b a ≤ s.size := fun b q0 q1 q2 => by
    have k1 := spanI_bd digB s b q0
    have k2 := spanI_bd digB s (b + spanI digB s b + 1) (by omega)
    unfold numB
    split
    · rename_i h
      simp only [Bool.and_eq_true, Bool.not_eq_true', leI_f] at h
      omega
    · split <;> omega
  unfold numI
  split
  · rename_i h
    simp only [Bool.and_eq_true, Bool.not_eq_true', leI_f] at h
    exact hB (a + 1) (by omega) (by omega) (by omega)
  · exact hB a h0 h1 (Int.le_refl _)
theorem leaf_tok {s : ByteArray} {a : Int} {t : TokV} {e : Int} (h : oneT s a = (t, e)) : tokV t.kind t.text t.n e = tokV (oneK s a) (oneX s a) (oneN s a) (oneE s a) := by
  unfold oneK oneX oneN oneE
  rw [h]
theorem Sy.one_t (s : ByteArray) (hs : limT s.size) (a : Int) (h0 : 0 ≤ a) (h1 : a < s.size) : CallTo Try.prog 30 [.lit (.string s), int a] M0 fun v _ => v = tokV (oneK s a) (oneX s a) (oneN s a) (oneE s a) := by
  have hs' := hs
  unfold limT at hs
  refine toV [cHst s, cBhi s, cBlank, cBls s, cQuo s, cNum s, cMea s, cRun s, cSta s, cSig] [] 400 30 (.yes (.yes (.br (.yes .done) (.yes (.br (.yes .done) (.br (.auto 1 (.br (.yes .done) (.yes (.br (.yes .done) (.yes (.br (.auto 1 (.br (.yes .done) (.br (.auto 2 (.yes (.auto 0 (.br (.yes (.yes .done)) (.yes (.br (.yes (.yes (.br (.yes .done) (.yes .done)))) (.yes (.br .done (.yes .done))))))))) (.auto 4 (.yes (.br (.yes (.yes (.br (.yes .done) (.yes .done)))) (.yes (.br .done (.yes .done))))))))) (.auto 2 (.br (.auto 2 (.yes (.auto 0 (.br (.yes (.yes .done)) (.yes (.br (.yes (.yes (.br (.yes .done) (.yes .done)))) (.yes (.br .done (.yes .done))))))))) (.auto 4 (.yes (.br (.yes (.yes (.br (.yes .done) (.yes .done)))) (.yes (.br .done (.yes .done)))))))))))))) (.auto 2 (.yes .done)))))))) (.need (@inR a (@ByteArray.size s)) (.need (@isSo (@And ((@HAppend.hAppend _ _ _ _ (@HAppend.hAppend _ _ _ _ [] [(@AV.lit (@Value.string s)), (int a), (@AV.lit (@Value.string (@ByteArray.mk (@Array.mk _ [(47 : UInt8), (42 : UInt8)]))))]) []) = [(@AV.lit (@Value.string s)), (int a), (@AV.lit (@Value.string (@ByteArray.mk (@Array.mk _ [(47 : UInt8), (42 : UInt8)]))))]) (@And (@And ((@ByteArray.size s) ≤ 1000000) ((@ByteArray.size (@ByteArray.mk (@Array.mk _ [(47 : UInt8), (42 : UInt8)]))) ≤ 1000000)) (@And ((0 : Int) ≤ a) (a ≤ (((@ByteArray.size s) : Nat) : Int)))))) (.fork (@hasI s (@ByteArray.mk (@Array.mk _ [(47 : UInt8), (42 : UInt8)])) a) (.need (@isSo (@And ((@HAppend.hAppend _ _ _ _ (@HAppend.hAppend _ _ _ _ [] [(@AV.lit (@Value.string s)), (int (w64 (a + (2 : Int)))), (@AV.lit (@Value.string (@ByteArray.mk (@Array.mk _ [(42 : UInt8), (47 : UInt8)]))))]) []) = [(@AV.lit (@Value.string s)), (int (w64 (a + (2 : Int)))), (@AV.lit (@Value.string (@ByteArray.mk (@Array.mk _ [(42 : UInt8), (47 : UInt8)]))))]) (@And (@And ((@ByteArray.size s) ≤ 1000000) ((@ByteArray.size (@ByteArray.mk (@Array.mk _ [(42 : UInt8), (47 : UInt8)]))) ≤ 1000000)) (@And ((0 : Int) ≤ (w64 (a + (2 : Int)))) ((w64 (a + (2 : Int))) ≤ (((@ByteArray.size s) : Nat) : Int)))))) (.leaf (@AV.tup [(@AV.agg (@List.take _ 3 ((int (0 : Int)) :: (@AV.lit (@Value.string (@ByteArray.mk (@Array.mk _ [])))) :: (int (0 : Int)) :: (@List.drop _ (0 + ([(int (0 : Int)), (@AV.lit (@Value.string (@ByteArray.mk (@Array.mk _ [])))), (int (0 : Int))]).length) [(int (0 : Int)), (@AV.lit (@Value.string (@ByteArray.mk (@Array.mk _ [])))), (int (0 : Int))])))), (int (@bhI s (@ByteArray.mk (@Array.mk _ [(42 : UInt8), (47 : UInt8)])) (w64 (a + (2 : Int)))))]))) (.need (@isSo (@And ((@HAppend.hAppend _ _ _ _ (@HAppend.hAppend _ _ _ _ [] [(@AV.lit (@Value.int IntKind.u8 (@byteAt s (a).toNat)))]) []) = [(@AV.lit (@Value.int IntKind.u8 (@byteAt s (a).toNat)))]) True)) (.fork (@blankB (@byteAt s (a).toNat)) (.need (@isSo (@And ((@HAppend.hAppend _ _ _ _ (@HAppend.hAppend _ _ _ _ [] [(@AV.lit (@Value.string s)), (int a)]) []) = [(@AV.lit (@Value.string s)), (int a)]) (@And ((@ByteArray.size s) ≤ 1000000) (@And ((0 : Int) ≤ a) (a ≤ (((@ByteArray.size s) : Nat) : Int)))))) (.leaf (@AV.tup [(@AV.agg (@List.take _ 3 ((int (20 : Int)) :: (@AV.lit (@Value.string (@ByteArray.mk (@Array.mk _ [])))) :: (int (0 : Int)) :: (@List.drop _ (0 + (((int (20 : Int)) :: (@List.drop _ 1 (@List.map _ _ AV.lit (@Array.toList _ (@Array.mk _ [(@Value.int IntKind.i64 (0 : Int)), (@Value.string (@ByteArray.mk (@Array.mk _ []))), (@Value.int IntKind.i64 (0 : Int))])))))).length) [(int (0 : Int)), (@AV.lit (@Value.string (@ByteArray.mk (@Array.mk _ [])))), (int (0 : Int))])))), (int (w64 (a + (@spanI blankB s a))))]))) (.fork (!(eqI (@byteAt s (a).toNat) (34 : Int))) (.fork (eqI (@byteAt s (a).toNat) (39 : Int)) (.need (@isSo (@And ((@HAppend.hAppend _ _ _ _ (@HAppend.hAppend _ _ _ _ [] [(@AV.lit (@Value.string s)), (int a)]) []) = [(@AV.lit (@Value.string s)), (int a)]) (@And ((@ByteArray.size s) ≤ 1000000) (@And ((0 : Int) ≤ a) (a < (((@ByteArray.size s) : Nat) : Int)))))) (.leaf (@AV.tup [(@AV.agg (@List.take _ 3 ((int (@quoK s a)) :: (@AV.lit (@Value.string (@quoX s a))) :: (int (0 : Int)) :: (@List.drop _ (0 + ([(int (@quoK s a)), (@AV.lit (@Value.string (@quoX s a))), (int (0 : Int))]).length) [(int (0 : Int)), (@AV.lit (@Value.string (@ByteArray.mk (@Array.mk _ [])))), (int (0 : Int))])))), (int (@quoE s a))]))) (.need (@isSo (@And ((@HAppend.hAppend _ _ _ _ (@HAppend.hAppend _ _ _ _ [] [(@AV.lit (@Value.string s)), (int a)]) []) = [(@AV.lit (@Value.string s)), (int a)]) (@And ((@ByteArray.size s) ≤ 1000000) (@And ((0 : Int) ≤ a) (a ≤ (((@ByteArray.size s) : Nat) : Int)))))) (.fork (!(leI (@numI s a) (0 : Int))) (.need (@isSo (@And ((@HAppend.hAppend _ _ _ _ (@HAppend.hAppend _ _ _ _ [] [(@AV.lit (@Value.string s)), (int a), (int (@numI s a))]) []) = [(@AV.lit (@Value.string s)), (int a), (int (@numI s a))]) (@And ((@ByteArray.size s) ≤ 1000000) (@And ((0 : Int) ≤ a) (@And ((0 : Int) < (@numI s a)) ((a + (@numI s a)) ≤ (((@ByteArray.size s) : Nat) : Int))))))) (.leaf (@AV.tup [(@AV.agg (@List.take _ 3 ((int (@meaK s a (@numI s a))) :: (@AV.lit (@Value.string (@meaX s a (@numI s a)))) :: (int (@meaN s a (@numI s a))) :: (@List.drop _ (0 + ([(int (@meaK s a (@numI s a))), (@AV.lit (@Value.string (@meaX s a (@numI s a)))), (int (@meaN s a (@numI s a)))]).length) [(int (0 : Int)), (@AV.lit (@Value.string (@ByteArray.mk (@Array.mk _ [])))), (int (0 : Int))])))), (int (@meaE s a (@numI s a)))]))) (.need (@isSo (@And ((@HAppend.hAppend _ _ _ _ (@HAppend.hAppend _ _ _ _ [] [(@AV.lit (@Value.string s)), (int (w64 (a + (1 : Int))))]) []) = [(@AV.lit (@Value.string s)), (int (w64 (a + (1 : Int))))]) (@And ((@ByteArray.size s) ≤ 1000000) (@And ((0 : Int) ≤ (w64 (a + (1 : Int)))) ((w64 (a + (1 : Int))) ≤ (((@ByteArray.size s) : Nat) : Int)))))) (.fork (eqI (@byteAt s (a).toNat) (35 : Int)) (.fork (!(leI (@spanI Pl.goesB s (w64 (a + (1 : Int)))) (0 : Int))) (.need ((leI (0 : Int) (w64 (a + (1 : Int)))) && ((leI (w64 (a + (1 : Int))) (w64 ((w64 (a + (1 : Int))) + (@spanI Pl.goesB s (w64 (a + (1 : Int))))))) && (leI (w64 ((w64 (a + (1 : Int))) + (@spanI Pl.goesB s (w64 (a + (1 : Int)))))) (((@ByteArray.size s) : Nat) : Int)))) (.leaf (@AV.tup [(@AV.agg (@List.take _ 3 ((int (4 : Int)) :: ((@AV.lit (@Value.string (@ByteArray.extract s ((w64 (a + (1 : Int)))).toNat ((w64 ((w64 (a + (1 : Int))) + (@spanI Pl.goesB s (w64 (a + (1 : Int))))))).toNat))) :: ((int (0 : Int)) :: (@List.drop _ (0 + (((int (4 : Int)) :: ((@AV.lit (@Value.string (@ByteArray.extract s ((w64 (a + (1 : Int)))).toNat ((w64 ((w64 (a + (1 : Int))) + (@spanI Pl.goesB s (w64 (a + (1 : Int))))))).toNat))) :: (@List.drop _ (1 + ([(@AV.lit (@Value.string (@ByteArray.extract s ((w64 (a + (1 : Int)))).toNat ((w64 ((w64 (a + (1 : Int))) + (@spanI Pl.goesB s (w64 (a + (1 : Int))))))).toNat)))]).length) ((int (4 : Int)) :: (@List.drop _ 1 (@List.map _ _ AV.lit (@Array.toList _ (@Array.mk _ [(@Value.int IntKind.i64 (0 : Int)), (@Value.string (@ByteArray.mk (@Array.mk _ []))), (@Value.int IntKind.i64 (0 : Int))]))))))))).length) [(int (0 : Int)), (@AV.lit (@Value.string (@ByteArray.mk (@Array.mk _ [])))), (int (0 : Int))])))))), (int (w64 ((w64 (a + (1 : Int))) + (@spanI Pl.goesB s (w64 (a + (1 : Int)))))))]))) (.fork (eqI (@byteAt s (a).toNat) (64 : Int)) (.need (@isSo (@And ((@HAppend.hAppend _ _ _ _ (@HAppend.hAppend _ _ _ _ [] [(@AV.lit (@Value.string s)), (int (w64 (a + (1 : Int))))]) []) = [(@AV.lit (@Value.string s)), (int (w64 (a + (1 : Int))))]) (@And ((@ByteArray.size s) ≤ 1000000) (@And ((0 : Int) ≤ (w64 (a + (1 : Int)))) ((w64 (a + (1 : Int))) ≤ (((@ByteArray.size s) : Nat) : Int)))))) (.fork (@startsI s (w64 (a + (1 : Int)))) (.need (@isSo (@And ((@HAppend.hAppend _ _ _ _ (@HAppend.hAppend _ _ _ _ [] [(@AV.lit (@Value.string s)), (int (w64 (a + (1 : Int))))]) []) = [(@AV.lit (@Value.string s)), (int (w64 (a + (1 : Int))))]) (@And ((@ByteArray.size s) ≤ 1000000) (@And ((0 : Int) ≤ (w64 (a + (1 : Int)))) ((w64 (a + (1 : Int))) ≤ (((@ByteArray.size s) : Nat) : Int)))))) (.need ((leI (0 : Int) (w64 (a + (1 : Int)))) && ((leI (w64 (a + (1 : Int))) (w64 ((w64 (a + (1 : Int))) + (@spanI Pl.goesB s (w64 (a + (1 : Int))))))) && (leI (w64 ((w64 (a + (1 : Int))) + (@spanI Pl.goesB s (w64 (a + (1 : Int)))))) (((@ByteArray.size s) : Nat) : Int)))) (.leaf (@AV.tup [(@AV.agg (@List.take _ 3 ((int (3 : Int)) :: ((@AV.lit (@Value.string (@ByteArray.extract s ((w64 (a + (1 : Int)))).toNat ((w64 ((w64 (a + (1 : Int))) + (@spanI Pl.goesB s (w64 (a + (1 : Int))))))).toNat))) :: ((int (0 : Int)) :: (@List.drop _ (0 + (((int (3 : Int)) :: ((@AV.lit (@Value.string (@ByteArray.extract s ((w64 (a + (1 : Int)))).toNat ((w64 ((w64 (a + (1 : Int))) + (@spanI Pl.goesB s (w64 (a + (1 : Int))))))).toNat))) :: (@List.drop _ (1 + ([(@AV.lit (@Value.string (@ByteArray.extract s ((w64 (a + (1 : Int)))).toNat ((w64 ((w64 (a + (1 : Int))) + (@spanI Pl.goesB s (w64 (a + (1 : Int))))))).toNat)))]).length) ((int (3 : Int)) :: (@List.drop _ 1 (@List.map _ _ AV.lit (@Array.toList _ (@Array.mk _ [(@Value.int IntKind.i64 (0 : Int)), (@Value.string (@ByteArray.mk (@Array.mk _ []))), (@Value.int IntKind.i64 (0 : Int))]))))))))).length) [(int (0 : Int)), (@AV.lit (@Value.string (@ByteArray.mk (@Array.mk _ [])))), (int (0 : Int))])))))), (int (w64 ((w64 (a + (1 : Int))) + (@spanI Pl.goesB s (w64 (a + (1 : Int)))))))])))) (.need (@isSo (@And ((@HAppend.hAppend _ _ _ _ (@HAppend.hAppend _ _ _ _ [] [(@AV.lit (@Value.string s)), (int a)]) []) = [(@AV.lit (@Value.string s)), (int a)]) (@And ((@ByteArray.size s) ≤ 1000000) (@And ((0 : Int) ≤ a) (a ≤ (((@ByteArray.size s) : Nat) : Int)))))) (.fork (@startsI s a) (.need (@isSo (@And ((@HAppend.hAppend _ _ _ _ (@HAppend.hAppend _ _ _ _ [] [(@AV.lit (@Value.string s)), (int a)]) []) = [(@AV.lit (@Value.string s)), (int a)]) (@And ((@ByteArray.size s) ≤ 1000000) (@And ((0 : Int) ≤ a) (a ≤ (((@ByteArray.size s) : Nat) : Int)))))) (.need (@isSo (@And ((@HAppend.hAppend _ _ _ _ (@HAppend.hAppend _ _ _ _ [] [(@AV.lit (@Value.string s)), (int (w64 (a + (@spanI Pl.goesB s a)))), (@AV.lit (@Value.string (@ByteArray.mk (@Array.mk _ [(40 : UInt8)]))))]) []) = [(@AV.lit (@Value.string s)), (int (w64 (a + (@spanI Pl.goesB s a)))), (@AV.lit (@Value.string (@ByteArray.mk (@Array.mk _ [(40 : UInt8)]))))]) (@And (@And ((@ByteArray.size s) ≤ 1000000) ((@ByteArray.size (@ByteArray.mk (@Array.mk _ [(40 : UInt8)]))) ≤ 1000000)) (@And ((0 : Int) ≤ (w64 (a + (@spanI Pl.goesB s a)))) ((w64 (a + (@spanI Pl.goesB s a))) ≤ (((@ByteArray.size s) : Nat) : Int)))))) (.fork (@hasI s (@ByteArray.mk (@Array.mk _ [(40 : UInt8)])) (w64 (a + (@spanI Pl.goesB s a)))) (.need ((leI (0 : Int) a) && ((leI a (w64 (a + (@spanI Pl.goesB s a)))) && (leI (w64 (a + (@spanI Pl.goesB s a))) (((@ByteArray.size s) : Nat) : Int)))) (.leaf (@AV.tup [(@AV.agg (@List.take _ 3 ((int (2 : Int)) :: ((@AV.lit (@Value.string (@ByteArray.extract s (a).toNat ((w64 (a + (@spanI Pl.goesB s a)))).toNat))) :: ((int (0 : Int)) :: (@List.drop _ (0 + (((int (2 : Int)) :: ((@AV.lit (@Value.string (@ByteArray.extract s (a).toNat ((w64 (a + (@spanI Pl.goesB s a)))).toNat))) :: (@List.drop _ (1 + ([(@AV.lit (@Value.string (@ByteArray.extract s (a).toNat ((w64 (a + (@spanI Pl.goesB s a)))).toNat)))]).length) ((int (2 : Int)) :: (@List.drop _ 1 (@List.map _ _ AV.lit (@Array.toList _ (@Array.mk _ [(@Value.int IntKind.i64 (0 : Int)), (@Value.string (@ByteArray.mk (@Array.mk _ []))), (@Value.int IntKind.i64 (0 : Int))]))))))))).length) [(int (0 : Int)), (@AV.lit (@Value.string (@ByteArray.mk (@Array.mk _ [])))), (int (0 : Int))])))))), (int (w64 ((w64 (a + (@spanI Pl.goesB s a))) + (1 : Int))))]))) (.need ((leI (0 : Int) a) && ((leI a (w64 (a + (@spanI Pl.goesB s a)))) && (leI (w64 (a + (@spanI Pl.goesB s a))) (((@ByteArray.size s) : Nat) : Int)))) (.leaf (@AV.tup [(@AV.agg (@List.take _ 3 ((int (1 : Int)) :: ((@AV.lit (@Value.string (@ByteArray.extract s (a).toNat ((w64 (a + (@spanI Pl.goesB s a)))).toNat))) :: ((int (0 : Int)) :: (@List.drop _ (0 + (((int (1 : Int)) :: ((@AV.lit (@Value.string (@ByteArray.extract s (a).toNat ((w64 (a + (@spanI Pl.goesB s a)))).toNat))) :: (@List.drop _ (1 + ([(@AV.lit (@Value.string (@ByteArray.extract s (a).toNat ((w64 (a + (@spanI Pl.goesB s a)))).toNat)))]).length) ((int (1 : Int)) :: (@List.drop _ 1 (@List.map _ _ AV.lit (@Array.toList _ (@Array.mk _ [(@Value.int IntKind.i64 (0 : Int)), (@Value.string (@ByteArray.mk (@Array.mk _ []))), (@Value.int IntKind.i64 (0 : Int))]))))))))).length) [(int (0 : Int)), (@AV.lit (@Value.string (@ByteArray.mk (@Array.mk _ [])))), (int (0 : Int))])))))), (int (w64 (a + (@spanI Pl.goesB s a))))])))))) (.need (@isSo (@And ((@HAppend.hAppend _ _ _ _ (@HAppend.hAppend _ _ _ _ [] [(@AV.lit (@Value.int IntKind.u8 (@byteAt s (a).toNat)))]) []) = [(@AV.lit (@Value.int IntKind.u8 (@byteAt s (a).toNat)))]) True)) (.fork (!(leI (@sgnI (@byteAt s (a).toNat)) (0 : Int))) (.leaf (@AV.tup [(@AV.agg (@List.take _ 3 ((int (@sgnI (@byteAt s (a).toNat))) :: ((@AV.lit (@Value.string (@ByteArray.mk (@Array.mk _ [])))) :: (int (0 : Int)) :: (@List.drop _ (0 + (((int (@sgnI (@byteAt s (a).toNat))) :: (@List.drop _ (0 + ([(int (@sgnI (@byteAt s (a).toNat)))]).length) (@List.map _ _ AV.lit (@Array.toList _ (@Array.mk _ [(@Value.int IntKind.i64 (0 : Int)), (@Value.string (@ByteArray.mk (@Array.mk _ []))), (@Value.int IntKind.i64 (0 : Int))])))))).length) [(int (0 : Int)), (@AV.lit (@Value.string (@ByteArray.mk (@Array.mk _ [])))), (int (0 : Int))]))))), (int (w64 (a + (1 : Int))))])) (.need ((leI (0 : Int) a) && ((leI a (w64 (a + (1 : Int)))) && (leI (w64 (a + (1 : Int))) (((@ByteArray.size s) : Nat) : Int)))) (.leaf (@AV.tup [(@AV.agg (@List.take _ 3 ((int (19 : Int)) :: ((@AV.lit (@Value.string (@ByteArray.extract s (a).toNat ((w64 (a + (1 : Int)))).toNat))) :: ((int (0 : Int)) :: (@List.drop _ (0 + (((int (19 : Int)) :: ((@AV.lit (@Value.string (@ByteArray.extract s (a).toNat ((w64 (a + (1 : Int)))).toNat))) :: (@List.drop _ (1 + ([(@AV.lit (@Value.string (@ByteArray.extract s (a).toNat ((w64 (a + (1 : Int)))).toNat)))]).length) ((int (19 : Int)) :: (@List.drop _ 1 (@List.map _ _ AV.lit (@Array.toList _ (@Array.mk _ [(@Value.int IntKind.i64 (0 : Int)), (@Value.string (@ByteArray.mk (@Array.mk _ []))), (@Value.int IntKind.i64 (0 : Int))]))))))))).length) [(int (0 : Int)), (@AV.lit (@Value.string (@ByteArray.mk (@Array.mk _ [])))), (int (0 : Int))])))))), (int (w64 (a + (1 : Int))))]))))))))) (.need (@isSo (@And ((@HAppend.hAppend _ _ _ _ (@HAppend.hAppend _ _ _ _ [] [(@AV.lit (@Value.string s)), (int a)]) []) = [(@AV.lit (@Value.string s)), (int a)]) (@And ((@ByteArray.size s) ≤ 1000000) (@And ((0 : Int) ≤ a) (a ≤ (((@ByteArray.size s) : Nat) : Int)))))) (.fork (@startsI s a) (.need (@isSo (@And ((@HAppend.hAppend _ _ _ _ (@HAppend.hAppend _ _ _ _ [] [(@AV.lit (@Value.string s)), (int a)]) []) = [(@AV.lit (@Value.string s)), (int a)]) (@And ((@ByteArray.size s) ≤ 1000000) (@And ((0 : Int) ≤ a) (a ≤ (((@ByteArray.size s) : Nat) : Int)))))) (.need (@isSo (@And ((@HAppend.hAppend _ _ _ _ (@HAppend.hAppend _ _ _ _ [] [(@AV.lit (@Value.string s)), (int (w64 (a + (@spanI Pl.goesB s a)))), (@AV.lit (@Value.string (@ByteArray.mk (@Array.mk _ [(40 : UInt8)]))))]) []) = [(@AV.lit (@Value.string s)), (int (w64 (a + (@spanI Pl.goesB s a)))), (@AV.lit (@Value.string (@ByteArray.mk (@Array.mk _ [(40 : UInt8)]))))]) (@And (@And ((@ByteArray.size s) ≤ 1000000) ((@ByteArray.size (@ByteArray.mk (@Array.mk _ [(40 : UInt8)]))) ≤ 1000000)) (@And ((0 : Int) ≤ (w64 (a + (@spanI Pl.goesB s a)))) ((w64 (a + (@spanI Pl.goesB s a))) ≤ (((@ByteArray.size s) : Nat) : Int)))))) (.fork (@hasI s (@ByteArray.mk (@Array.mk _ [(40 : UInt8)])) (w64 (a + (@spanI Pl.goesB s a)))) (.need ((leI (0 : Int) a) && ((leI a (w64 (a + (@spanI Pl.goesB s a)))) && (leI (w64 (a + (@spanI Pl.goesB s a))) (((@ByteArray.size s) : Nat) : Int)))) (.leaf (@AV.tup [(@AV.agg (@List.take _ 3 ((int (2 : Int)) :: ((@AV.lit (@Value.string (@ByteArray.extract s (a).toNat ((w64 (a + (@spanI Pl.goesB s a)))).toNat))) :: ((int (0 : Int)) :: (@List.drop _ (0 + (((int (2 : Int)) :: ((@AV.lit (@Value.string (@ByteArray.extract s (a).toNat ((w64 (a + (@spanI Pl.goesB s a)))).toNat))) :: (@List.drop _ (1 + ([(@AV.lit (@Value.string (@ByteArray.extract s (a).toNat ((w64 (a + (@spanI Pl.goesB s a)))).toNat)))]).length) ((int (2 : Int)) :: (@List.drop _ 1 (@List.map _ _ AV.lit (@Array.toList _ (@Array.mk _ [(@Value.int IntKind.i64 (0 : Int)), (@Value.string (@ByteArray.mk (@Array.mk _ []))), (@Value.int IntKind.i64 (0 : Int))]))))))))).length) [(int (0 : Int)), (@AV.lit (@Value.string (@ByteArray.mk (@Array.mk _ [])))), (int (0 : Int))])))))), (int (w64 ((w64 (a + (@spanI Pl.goesB s a))) + (1 : Int))))]))) (.need ((leI (0 : Int) a) && ((leI a (w64 (a + (@spanI Pl.goesB s a)))) && (leI (w64 (a + (@spanI Pl.goesB s a))) (((@ByteArray.size s) : Nat) : Int)))) (.leaf (@AV.tup [(@AV.agg (@List.take _ 3 ((int (1 : Int)) :: ((@AV.lit (@Value.string (@ByteArray.extract s (a).toNat ((w64 (a + (@spanI Pl.goesB s a)))).toNat))) :: ((int (0 : Int)) :: (@List.drop _ (0 + (((int (1 : Int)) :: ((@AV.lit (@Value.string (@ByteArray.extract s (a).toNat ((w64 (a + (@spanI Pl.goesB s a)))).toNat))) :: (@List.drop _ (1 + ([(@AV.lit (@Value.string (@ByteArray.extract s (a).toNat ((w64 (a + (@spanI Pl.goesB s a)))).toNat)))]).length) ((int (1 : Int)) :: (@List.drop _ 1 (@List.map _ _ AV.lit (@Array.toList _ (@Array.mk _ [(@Value.int IntKind.i64 (0 : Int)), (@Value.string (@ByteArray.mk (@Array.mk _ []))), (@Value.int IntKind.i64 (0 : Int))]))))))))).length) [(int (0 : Int)), (@AV.lit (@Value.string (@ByteArray.mk (@Array.mk _ [])))), (int (0 : Int))])))))), (int (w64 (a + (@spanI Pl.goesB s a))))])))))) (.need (@isSo (@And ((@HAppend.hAppend _ _ _ _ (@HAppend.hAppend _ _ _ _ [] [(@AV.lit (@Value.int IntKind.u8 (@byteAt s (a).toNat)))]) []) = [(@AV.lit (@Value.int IntKind.u8 (@byteAt s (a).toNat)))]) True)) (.fork (!(leI (@sgnI (@byteAt s (a).toNat)) (0 : Int))) (.leaf (@AV.tup [(@AV.agg (@List.take _ 3 ((int (@sgnI (@byteAt s (a).toNat))) :: ((@AV.lit (@Value.string (@ByteArray.mk (@Array.mk _ [])))) :: (int (0 : Int)) :: (@List.drop _ (0 + (((int (@sgnI (@byteAt s (a).toNat))) :: (@List.drop _ (0 + ([(int (@sgnI (@byteAt s (a).toNat)))]).length) (@List.map _ _ AV.lit (@Array.toList _ (@Array.mk _ [(@Value.int IntKind.i64 (0 : Int)), (@Value.string (@ByteArray.mk (@Array.mk _ []))), (@Value.int IntKind.i64 (0 : Int))])))))).length) [(int (0 : Int)), (@AV.lit (@Value.string (@ByteArray.mk (@Array.mk _ [])))), (int (0 : Int))]))))), (int (w64 (a + (1 : Int))))])) (.need ((leI (0 : Int) a) && ((leI a (w64 (a + (1 : Int)))) && (leI (w64 (a + (1 : Int))) (((@ByteArray.size s) : Nat) : Int)))) (.leaf (@AV.tup [(@AV.agg (@List.take _ 3 ((int (19 : Int)) :: ((@AV.lit (@Value.string (@ByteArray.extract s (a).toNat ((w64 (a + (1 : Int)))).toNat))) :: ((int (0 : Int)) :: (@List.drop _ (0 + (((int (19 : Int)) :: ((@AV.lit (@Value.string (@ByteArray.extract s (a).toNat ((w64 (a + (1 : Int)))).toNat))) :: (@List.drop _ (1 + ([(@AV.lit (@Value.string (@ByteArray.extract s (a).toNat ((w64 (a + (1 : Int)))).toNat)))]).length) ((int (19 : Int)) :: (@List.drop _ 1 (@List.map _ _ AV.lit (@Array.toList _ (@Array.mk _ [(@Value.int IntKind.i64 (0 : Int)), (@Value.string (@ByteArray.mk (@Array.mk _ []))), (@Value.int IntKind.i64 (0 : Int))]))))))))).length) [(int (0 : Int)), (@AV.lit (@Value.string (@ByteArray.mk (@Array.mk _ [])))), (int (0 : Int))])))))), (int (w64 (a + (1 : Int))))]))))))))) (.fork (eqI (@byteAt s (a).toNat) (64 : Int)) (.need (@isSo (@And ((@HAppend.hAppend _ _ _ _ (@HAppend.hAppend _ _ _ _ [] [(@AV.lit (@Value.string s)), (int (w64 (a + (1 : Int))))]) []) = [(@AV.lit (@Value.string s)), (int (w64 (a + (1 : Int))))]) (@And ((@ByteArray.size s) ≤ 1000000) (@And ((0 : Int) ≤ (w64 (a + (1 : Int)))) ((w64 (a + (1 : Int))) ≤ (((@ByteArray.size s) : Nat) : Int)))))) (.fork (@startsI s (w64 (a + (1 : Int)))) (.need (@isSo (@And ((@HAppend.hAppend _ _ _ _ (@HAppend.hAppend _ _ _ _ [] [(@AV.lit (@Value.string s)), (int (w64 (a + (1 : Int))))]) []) = [(@AV.lit (@Value.string s)), (int (w64 (a + (1 : Int))))]) (@And ((@ByteArray.size s) ≤ 1000000) (@And ((0 : Int) ≤ (w64 (a + (1 : Int)))) ((w64 (a + (1 : Int))) ≤ (((@ByteArray.size s) : Nat) : Int)))))) (.need ((leI (0 : Int) (w64 (a + (1 : Int)))) && ((leI (w64 (a + (1 : Int))) (w64 ((w64 (a + (1 : Int))) + (@spanI Pl.goesB s (w64 (a + (1 : Int))))))) && (leI (w64 ((w64 (a + (1 : Int))) + (@spanI Pl.goesB s (w64 (a + (1 : Int)))))) (((@ByteArray.size s) : Nat) : Int)))) (.leaf (@AV.tup [(@AV.agg (@List.take _ 3 ((int (3 : Int)) :: ((@AV.lit (@Value.string (@ByteArray.extract s ((w64 (a + (1 : Int)))).toNat ((w64 ((w64 (a + (1 : Int))) + (@spanI Pl.goesB s (w64 (a + (1 : Int))))))).toNat))) :: ((int (0 : Int)) :: (@List.drop _ (0 + (((int (3 : Int)) :: ((@AV.lit (@Value.string (@ByteArray.extract s ((w64 (a + (1 : Int)))).toNat ((w64 ((w64 (a + (1 : Int))) + (@spanI Pl.goesB s (w64 (a + (1 : Int))))))).toNat))) :: (@List.drop _ (1 + ([(@AV.lit (@Value.string (@ByteArray.extract s ((w64 (a + (1 : Int)))).toNat ((w64 ((w64 (a + (1 : Int))) + (@spanI Pl.goesB s (w64 (a + (1 : Int))))))).toNat)))]).length) ((int (3 : Int)) :: (@List.drop _ 1 (@List.map _ _ AV.lit (@Array.toList _ (@Array.mk _ [(@Value.int IntKind.i64 (0 : Int)), (@Value.string (@ByteArray.mk (@Array.mk _ []))), (@Value.int IntKind.i64 (0 : Int))]))))))))).length) [(int (0 : Int)), (@AV.lit (@Value.string (@ByteArray.mk (@Array.mk _ [])))), (int (0 : Int))])))))), (int (w64 ((w64 (a + (1 : Int))) + (@spanI Pl.goesB s (w64 (a + (1 : Int)))))))])))) (.need (@isSo (@And ((@HAppend.hAppend _ _ _ _ (@HAppend.hAppend _ _ _ _ [] [(@AV.lit (@Value.string s)), (int a)]) []) = [(@AV.lit (@Value.string s)), (int a)]) (@And ((@ByteArray.size s) ≤ 1000000) (@And ((0 : Int) ≤ a) (a ≤ (((@ByteArray.size s) : Nat) : Int)))))) (.fork (@startsI s a) (.need (@isSo (@And ((@HAppend.hAppend _ _ _ _ (@HAppend.hAppend _ _ _ _ [] [(@AV.lit (@Value.string s)), (int a)]) []) = [(@AV.lit (@Value.string s)), (int a)]) (@And ((@ByteArray.size s) ≤ 1000000) (@And ((0 : Int) ≤ a) (a ≤ (((@ByteArray.size s) : Nat) : Int)))))) (.need (@isSo (@And ((@HAppend.hAppend _ _ _ _ (@HAppend.hAppend _ _ _ _ [] [(@AV.lit (@Value.string s)), (int (w64 (a + (@spanI Pl.goesB s a)))), (@AV.lit (@Value.string (@ByteArray.mk (@Array.mk _ [(40 : UInt8)]))))]) []) = [(@AV.lit (@Value.string s)), (int (w64 (a + (@spanI Pl.goesB s a)))), (@AV.lit (@Value.string (@ByteArray.mk (@Array.mk _ [(40 : UInt8)]))))]) (@And (@And ((@ByteArray.size s) ≤ 1000000) ((@ByteArray.size (@ByteArray.mk (@Array.mk _ [(40 : UInt8)]))) ≤ 1000000)) (@And ((0 : Int) ≤ (w64 (a + (@spanI Pl.goesB s a)))) ((w64 (a + (@spanI Pl.goesB s a))) ≤ (((@ByteArray.size s) : Nat) : Int)))))) (.fork (@hasI s (@ByteArray.mk (@Array.mk _ [(40 : UInt8)])) (w64 (a + (@spanI Pl.goesB s a)))) (.need ((leI (0 : Int) a) && ((leI a (w64 (a + (@spanI Pl.goesB s a)))) && (leI (w64 (a + (@spanI Pl.goesB s a))) (((@ByteArray.size s) : Nat) : Int)))) (.leaf (@AV.tup [(@AV.agg (@List.take _ 3 ((int (2 : Int)) :: ((@AV.lit (@Value.string (@ByteArray.extract s (a).toNat ((w64 (a + (@spanI Pl.goesB s a)))).toNat))) :: ((int (0 : Int)) :: (@List.drop _ (0 + (((int (2 : Int)) :: ((@AV.lit (@Value.string (@ByteArray.extract s (a).toNat ((w64 (a + (@spanI Pl.goesB s a)))).toNat))) :: (@List.drop _ (1 + ([(@AV.lit (@Value.string (@ByteArray.extract s (a).toNat ((w64 (a + (@spanI Pl.goesB s a)))).toNat)))]).length) ((int (2 : Int)) :: (@List.drop _ 1 (@List.map _ _ AV.lit (@Array.toList _ (@Array.mk _ [(@Value.int IntKind.i64 (0 : Int)), (@Value.string (@ByteArray.mk (@Array.mk _ []))), (@Value.int IntKind.i64 (0 : Int))]))))))))).length) [(int (0 : Int)), (@AV.lit (@Value.string (@ByteArray.mk (@Array.mk _ [])))), (int (0 : Int))])))))), (int (w64 ((w64 (a + (@spanI Pl.goesB s a))) + (1 : Int))))]))) (.need ((leI (0 : Int) a) && ((leI a (w64 (a + (@spanI Pl.goesB s a)))) && (leI (w64 (a + (@spanI Pl.goesB s a))) (((@ByteArray.size s) : Nat) : Int)))) (.leaf (@AV.tup [(@AV.agg (@List.take _ 3 ((int (1 : Int)) :: ((@AV.lit (@Value.string (@ByteArray.extract s (a).toNat ((w64 (a + (@spanI Pl.goesB s a)))).toNat))) :: ((int (0 : Int)) :: (@List.drop _ (0 + (((int (1 : Int)) :: ((@AV.lit (@Value.string (@ByteArray.extract s (a).toNat ((w64 (a + (@spanI Pl.goesB s a)))).toNat))) :: (@List.drop _ (1 + ([(@AV.lit (@Value.string (@ByteArray.extract s (a).toNat ((w64 (a + (@spanI Pl.goesB s a)))).toNat)))]).length) ((int (1 : Int)) :: (@List.drop _ 1 (@List.map _ _ AV.lit (@Array.toList _ (@Array.mk _ [(@Value.int IntKind.i64 (0 : Int)), (@Value.string (@ByteArray.mk (@Array.mk _ []))), (@Value.int IntKind.i64 (0 : Int))]))))))))).length) [(int (0 : Int)), (@AV.lit (@Value.string (@ByteArray.mk (@Array.mk _ [])))), (int (0 : Int))])))))), (int (w64 (a + (@spanI Pl.goesB s a))))])))))) (.need (@isSo (@And ((@HAppend.hAppend _ _ _ _ (@HAppend.hAppend _ _ _ _ [] [(@AV.lit (@Value.int IntKind.u8 (@byteAt s (a).toNat)))]) []) = [(@AV.lit (@Value.int IntKind.u8 (@byteAt s (a).toNat)))]) True)) (.fork (!(leI (@sgnI (@byteAt s (a).toNat)) (0 : Int))) (.leaf (@AV.tup [(@AV.agg (@List.take _ 3 ((int (@sgnI (@byteAt s (a).toNat))) :: ((@AV.lit (@Value.string (@ByteArray.mk (@Array.mk _ [])))) :: (int (0 : Int)) :: (@List.drop _ (0 + (((int (@sgnI (@byteAt s (a).toNat))) :: (@List.drop _ (0 + ([(int (@sgnI (@byteAt s (a).toNat)))]).length) (@List.map _ _ AV.lit (@Array.toList _ (@Array.mk _ [(@Value.int IntKind.i64 (0 : Int)), (@Value.string (@ByteArray.mk (@Array.mk _ []))), (@Value.int IntKind.i64 (0 : Int))])))))).length) [(int (0 : Int)), (@AV.lit (@Value.string (@ByteArray.mk (@Array.mk _ [])))), (int (0 : Int))]))))), (int (w64 (a + (1 : Int))))])) (.need ((leI (0 : Int) a) && ((leI a (w64 (a + (1 : Int)))) && (leI (w64 (a + (1 : Int))) (((@ByteArray.size s) : Nat) : Int)))) (.leaf (@AV.tup [(@AV.agg (@List.take _ 3 ((int (19 : Int)) :: ((@AV.lit (@Value.string (@ByteArray.extract s (a).toNat ((w64 (a + (1 : Int)))).toNat))) :: ((int (0 : Int)) :: (@List.drop _ (0 + (((int (19 : Int)) :: ((@AV.lit (@Value.string (@ByteArray.extract s (a).toNat ((w64 (a + (1 : Int)))).toNat))) :: (@List.drop _ (1 + ([(@AV.lit (@Value.string (@ByteArray.extract s (a).toNat ((w64 (a + (1 : Int)))).toNat)))]).length) ((int (19 : Int)) :: (@List.drop _ 1 (@List.map _ _ AV.lit (@Array.toList _ (@Array.mk _ [(@Value.int IntKind.i64 (0 : Int)), (@Value.string (@ByteArray.mk (@Array.mk _ []))), (@Value.int IntKind.i64 (0 : Int))]))))))))).length) [(int (0 : Int)), (@AV.lit (@Value.string (@ByteArray.mk (@Array.mk _ [])))), (int (0 : Int))])))))), (int (w64 (a + (1 : Int))))]))))))))) (.need (@isSo (@And ((@HAppend.hAppend _ _ _ _ (@HAppend.hAppend _ _ _ _ [] [(@AV.lit (@Value.string s)), (int a)]) []) = [(@AV.lit (@Value.string s)), (int a)]) (@And ((@ByteArray.size s) ≤ 1000000) (@And ((0 : Int) ≤ a) (a ≤ (((@ByteArray.size s) : Nat) : Int)))))) (.fork (@startsI s a) (.need (@isSo (@And ((@HAppend.hAppend _ _ _ _ (@HAppend.hAppend _ _ _ _ [] [(@AV.lit (@Value.string s)), (int a)]) []) = [(@AV.lit (@Value.string s)), (int a)]) (@And ((@ByteArray.size s) ≤ 1000000) (@And ((0 : Int) ≤ a) (a ≤ (((@ByteArray.size s) : Nat) : Int)))))) (.need (@isSo (@And ((@HAppend.hAppend _ _ _ _ (@HAppend.hAppend _ _ _ _ [] [(@AV.lit (@Value.string s)), (int (w64 (a + (@spanI Pl.goesB s a)))), (@AV.lit (@Value.string (@ByteArray.mk (@Array.mk _ [(40 : UInt8)]))))]) []) = [(@AV.lit (@Value.string s)), (int (w64 (a + (@spanI Pl.goesB s a)))), (@AV.lit (@Value.string (@ByteArray.mk (@Array.mk _ [(40 : UInt8)]))))]) (@And (@And ((@ByteArray.size s) ≤ 1000000) ((@ByteArray.size (@ByteArray.mk (@Array.mk _ [(40 : UInt8)]))) ≤ 1000000)) (@And ((0 : Int) ≤ (w64 (a + (@spanI Pl.goesB s a)))) ((w64 (a + (@spanI Pl.goesB s a))) ≤ (((@ByteArray.size s) : Nat) : Int)))))) (.fork (@hasI s (@ByteArray.mk (@Array.mk _ [(40 : UInt8)])) (w64 (a + (@spanI Pl.goesB s a)))) (.need ((leI (0 : Int) a) && ((leI a (w64 (a + (@spanI Pl.goesB s a)))) && (leI (w64 (a + (@spanI Pl.goesB s a))) (((@ByteArray.size s) : Nat) : Int)))) (.leaf (@AV.tup [(@AV.agg (@List.take _ 3 ((int (2 : Int)) :: ((@AV.lit (@Value.string (@ByteArray.extract s (a).toNat ((w64 (a + (@spanI Pl.goesB s a)))).toNat))) :: ((int (0 : Int)) :: (@List.drop _ (0 + (((int (2 : Int)) :: ((@AV.lit (@Value.string (@ByteArray.extract s (a).toNat ((w64 (a + (@spanI Pl.goesB s a)))).toNat))) :: (@List.drop _ (1 + ([(@AV.lit (@Value.string (@ByteArray.extract s (a).toNat ((w64 (a + (@spanI Pl.goesB s a)))).toNat)))]).length) ((int (2 : Int)) :: (@List.drop _ 1 (@List.map _ _ AV.lit (@Array.toList _ (@Array.mk _ [(@Value.int IntKind.i64 (0 : Int)), (@Value.string (@ByteArray.mk (@Array.mk _ []))), (@Value.int IntKind.i64 (0 : Int))]))))))))).length) [(int (0 : Int)), (@AV.lit (@Value.string (@ByteArray.mk (@Array.mk _ [])))), (int (0 : Int))])))))), (int (w64 ((w64 (a + (@spanI Pl.goesB s a))) + (1 : Int))))]))) (.need ((leI (0 : Int) a) && ((leI a (w64 (a + (@spanI Pl.goesB s a)))) && (leI (w64 (a + (@spanI Pl.goesB s a))) (((@ByteArray.size s) : Nat) : Int)))) (.leaf (@AV.tup [(@AV.agg (@List.take _ 3 ((int (1 : Int)) :: ((@AV.lit (@Value.string (@ByteArray.extract s (a).toNat ((w64 (a + (@spanI Pl.goesB s a)))).toNat))) :: ((int (0 : Int)) :: (@List.drop _ (0 + (((int (1 : Int)) :: ((@AV.lit (@Value.string (@ByteArray.extract s (a).toNat ((w64 (a + (@spanI Pl.goesB s a)))).toNat))) :: (@List.drop _ (1 + ([(@AV.lit (@Value.string (@ByteArray.extract s (a).toNat ((w64 (a + (@spanI Pl.goesB s a)))).toNat)))]).length) ((int (1 : Int)) :: (@List.drop _ 1 (@List.map _ _ AV.lit (@Array.toList _ (@Array.mk _ [(@Value.int IntKind.i64 (0 : Int)), (@Value.string (@ByteArray.mk (@Array.mk _ []))), (@Value.int IntKind.i64 (0 : Int))]))))))))).length) [(int (0 : Int)), (@AV.lit (@Value.string (@ByteArray.mk (@Array.mk _ [])))), (int (0 : Int))])))))), (int (w64 (a + (@spanI Pl.goesB s a))))])))))) (.need (@isSo (@And ((@HAppend.hAppend _ _ _ _ (@HAppend.hAppend _ _ _ _ [] [(@AV.lit (@Value.int IntKind.u8 (@byteAt s (a).toNat)))]) []) = [(@AV.lit (@Value.int IntKind.u8 (@byteAt s (a).toNat)))]) True)) (.fork (!(leI (@sgnI (@byteAt s (a).toNat)) (0 : Int))) (.leaf (@AV.tup [(@AV.agg (@List.take _ 3 ((int (@sgnI (@byteAt s (a).toNat))) :: ((@AV.lit (@Value.string (@ByteArray.mk (@Array.mk _ [])))) :: (int (0 : Int)) :: (@List.drop _ (0 + (((int (@sgnI (@byteAt s (a).toNat))) :: (@List.drop _ (0 + ([(int (@sgnI (@byteAt s (a).toNat)))]).length) (@List.map _ _ AV.lit (@Array.toList _ (@Array.mk _ [(@Value.int IntKind.i64 (0 : Int)), (@Value.string (@ByteArray.mk (@Array.mk _ []))), (@Value.int IntKind.i64 (0 : Int))])))))).length) [(int (0 : Int)), (@AV.lit (@Value.string (@ByteArray.mk (@Array.mk _ [])))), (int (0 : Int))]))))), (int (w64 (a + (1 : Int))))])) (.need ((leI (0 : Int) a) && ((leI a (w64 (a + (1 : Int)))) && (leI (w64 (a + (1 : Int))) (((@ByteArray.size s) : Nat) : Int)))) (.leaf (@AV.tup [(@AV.agg (@List.take _ 3 ((int (19 : Int)) :: ((@AV.lit (@Value.string (@ByteArray.extract s (a).toNat ((w64 (a + (1 : Int)))).toNat))) :: ((int (0 : Int)) :: (@List.drop _ (0 + (((int (19 : Int)) :: ((@AV.lit (@Value.string (@ByteArray.extract s (a).toNat ((w64 (a + (1 : Int)))).toNat))) :: (@List.drop _ (1 + ([(@AV.lit (@Value.string (@ByteArray.extract s (a).toNat ((w64 (a + (1 : Int)))).toNat)))]).length) ((int (19 : Int)) :: (@List.drop _ 1 (@List.map _ _ AV.lit (@Array.toList _ (@Array.mk _ [(@Value.int IntKind.i64 (0 : Int)), (@Value.string (@ByteArray.mk (@Array.mk _ []))), (@Value.int IntKind.i64 (0 : Int))]))))))))).length) [(int (0 : Int)), (@AV.lit (@Value.string (@ByteArray.mk (@Array.mk _ [])))), (int (0 : Int))])))))), (int (w64 (a + (1 : Int))))]))))))))))))) (.need (@isSo (@And ((@HAppend.hAppend _ _ _ _ (@HAppend.hAppend _ _ _ _ [] [(@AV.lit (@Value.string s)), (int a)]) []) = [(@AV.lit (@Value.string s)), (int a)]) (@And ((@ByteArray.size s) ≤ 1000000) (@And ((0 : Int) ≤ a) (a < (((@ByteArray.size s) : Nat) : Int)))))) (.leaf (@AV.tup [(@AV.agg (@List.take _ 3 ((int (@quoK s a)) :: (@AV.lit (@Value.string (@quoX s a))) :: (int (0 : Int)) :: (@List.drop _ (0 + ([(int (@quoK s a)), (@AV.lit (@Value.string (@quoX s a))), (int (0 : Int))]).length) [(int (0 : Int)), (@AV.lit (@Value.string (@ByteArray.mk (@Array.mk _ [])))), (int (0 : Int))])))), (int (@quoE s a))]))))))))) (by kernel_rfl) ?_
  have b1 := spanI_bd goesB s a h0
  have b2 := spanI_bd goesB s (a + 1) (by omega)
  have b3 := spanI_bd blankB s a h0
  have b4 := num_le s a h0 (by omega)
  rw [w64_in (r := a + 1) (by omega), w64_in (r := a + 2) (by omega), w64_in (r := a + spanI goesB s a) (by omega), w64_in (r := a + 1 + spanI goesB s (a + 1)) (by omega), w64_in (r := a + spanI blankB s a) (by omega), w64_in (r := a + spanI goesB s a + 1) (by omega)]
  have hr : inR a s.size = true := by rw [inR_t]; omega
  have key : ∀ (t : TokV) (e : Int), oneT s a = (t, e) → (Tr.leaf (tokV t.kind t.text t.n e)).Ok (fun v => v = tokV (oneK s a) (oneX s a) (oneN s a) (oneE s a)) := fun t e h => leaf_tok h
  refine need_t hr (need_so ⟨rfl, ⟨hs', by decide⟩, h0, by omega⟩ (fork_ok (fun c1 => ?_) (fun c1 => need_so ⟨rfl, trivial⟩ (fork_ok (fun c2 => ?_) (fun c2 => ?_)))))
  · have := hasI_le c1
    have h2 : a + 2 ≤ s.size := this
    refine need_so ⟨rfl, ⟨hs', by decide⟩, by omega, by omega⟩ ?_
    exact key ⟨0, ⟨⟨[]⟩⟩, 0⟩ _ (by unfold oneT; exact if_pos c1)
  · refine need_so ⟨rfl, hs', h0, by omega⟩ ?_
    exact key ⟨20, ⟨⟨[]⟩⟩, 0⟩ _ (by unfold oneT; rw [if_neg (by rw [show hasI s wSl a = false from c1]; simp), if_pos c2])
  · have e0 : oneT s a = if (eqI (byteAt s a.toNat) 34 || eqI (byteAt s a.toNat) 39) = true then (⟨quoK s a, quoX s a, 0⟩, quoE s a) else if (!leI (numI s a) 0) = true then (⟨meaK s a (numI s a), meaX s a (numI s a), meaN s a (numI s a)⟩, meaE s a (numI s a)) else hashT s a := by
      unfold oneT
      rw [if_neg (by rw [show hasI s wSl a = false from c1]; simp), if_neg (by rw [c2]; simp)]
    rw [e0] at key
    clear e0 c1 c2
    refine fork_ok (fun c3 => ?_) (fun c3 => need_so ⟨rfl, hs', h0, h1⟩ ?_)
    · simp only [Bool.not_eq_true'] at c3
      rw [c3] at key
      refine fork_ok (fun c4 => need_so ⟨rfl, hs', h0, h1⟩ ?_) (fun c4 => ?_)
      · exact key _ _ (by rw [c4])
      · rw [c4] at key
        refine need_so ⟨rfl, hs', h0, by omega⟩ (fork_ok (fun c5 => ?_) (fun c5 => ?_))
        · have c5' := c5
          simp only [Bool.not_eq_true', leI_f] at c5'
          refine need_so ⟨rfl, hs', h0, by omega, b4⟩ ?_
          exact key _ _ (by rw [c5])
        · rw [c5] at key
          have key : ∀ (t : TokV) (e : Int), hashT s a = (t, e) → (Tr.leaf (tokV t.kind t.text t.n e)).Ok (fun v => v = tokV (oneK s a) (oneX s a) (oneN s a) (oneE s a)) := fun t e h => key t e (by rw [← h]; rfl)
          unfold hashT at key
          refine need_so ⟨rfl, hs', by omega, by omega⟩ (fork_ok (fun g1 => fork_ok (fun g2 => need_t (by simp only [Bool.and_eq_true, leI_t]; omega) ?_) (fun g2 => ?_)) (fun g1 => ?_))
          · rw [g1, g2] at key
            exact key ⟨4, s.extract (a + 1).toNat (a + 1 + spanI goesB s (a + 1)).toNat, 0⟩ _ rfl
          · rw [g1, g2] at key
            have key : ∀ (t : TokV) (e : Int), atT s a = (t, e) → (Tr.leaf (tokV t.kind t.text t.n e)).Ok (fun v => v = tokV (oneK s a) (oneX s a) (oneN s a) (oneE s a)) := fun t e h => key t e h
            unfold atT at key
            refine fork_ok (fun f1 => need_so ⟨rfl, hs', by omega, by omega⟩ (fork_ok (fun f2 => need_so ⟨rfl, hs', by omega, by omega⟩ (need_t (by simp only [Bool.and_eq_true, leI_t]; omega) ?_)) (fun f2 => ?_))) (fun f1 => ?_)
            · rw [f1, f2] at key
              exact key ⟨3, s.extract (a + 1).toNat (a + 1 + spanI goesB s (a + 1)).toNat, 0⟩ _ rfl
            · rw [f1, f2] at key
              have key : ∀ (t : TokV) (e : Int), nameT s a = (t, e) → (Tr.leaf (tokV t.kind t.text t.n e)).Ok (fun v => v = tokV (oneK s a) (oneX s a) (oneN s a) (oneE s a)) := fun t e h => key t e h
              unfold nameT at key
              refine need_so ⟨rfl, hs', h0, by omega⟩ (fork_ok (fun d1 => need_so ⟨rfl, hs', h0, by omega⟩ (need_so ⟨rfl, ⟨hs', by decide⟩, by omega, by omega⟩ (fork_ok (fun d2 => need_t (by simp only [Bool.and_eq_true, leI_t]; omega) ?_) (fun d2 => need_t (by simp only [Bool.and_eq_true, leI_t]; omega) ?_)))) (fun d1 => need_so ⟨rfl, trivial⟩ (fork_ok (fun d2 => ?_) (fun d2 => need_t (by simp only [Bool.and_eq_true, leI_t]; omega) ?_))))
              · rw [d1, show hasI s wOp (a + spanI goesB s a) = true from d2] at key
                exact key ⟨2, s.extract a.toNat (a + spanI goesB s a).toNat, 0⟩ _ rfl
              · rw [d1, show hasI s wOp (a + spanI goesB s a) = false from d2] at key
                exact key ⟨1, s.extract a.toNat (a + spanI goesB s a).toNat, 0⟩ _ rfl
              · rw [d1, d2] at key
                exact key ⟨sgnI (byteAt s a.toNat), ⟨⟨[]⟩⟩, 0⟩ _ rfl
              · rw [d1, d2] at key
                exact key ⟨19, s.extract a.toNat (a + 1).toNat, 0⟩ _ rfl
            · rw [f1] at key
              have key : ∀ (t : TokV) (e : Int), nameT s a = (t, e) → (Tr.leaf (tokV t.kind t.text t.n e)).Ok (fun v => v = tokV (oneK s a) (oneX s a) (oneN s a) (oneE s a)) := fun t e h => key t e h
              unfold nameT at key
              refine need_so ⟨rfl, hs', h0, by omega⟩ (fork_ok (fun d1 => need_so ⟨rfl, hs', h0, by omega⟩ (need_so ⟨rfl, ⟨hs', by decide⟩, by omega, by omega⟩ (fork_ok (fun d2 => need_t (by simp only [Bool.and_eq_true, leI_t]; omega) ?_) (fun d2 => need_t (by simp only [Bool.and_eq_true, leI_t]; omega) ?_)))) (fun d1 => need_so ⟨rfl, trivial⟩ (fork_ok (fun d2 => ?_) (fun d2 => need_t (by simp only [Bool.and_eq_true, leI_t]; omega) ?_))))
              · rw [d1, show hasI s wOp (a + spanI goesB s a) = true from d2] at key
                exact key ⟨2, s.extract a.toNat (a + spanI goesB s a).toNat, 0⟩ _ rfl
              · rw [d1, show hasI s wOp (a + spanI goesB s a) = false from d2] at key
                exact key ⟨1, s.extract a.toNat (a + spanI goesB s a).toNat, 0⟩ _ rfl
              · rw [d1, d2] at key
                exact key ⟨sgnI (byteAt s a.toNat), ⟨⟨[]⟩⟩, 0⟩ _ rfl
              · rw [d1, d2] at key
                exact key ⟨19, s.extract a.toNat (a + 1).toNat, 0⟩ _ rfl
          · rw [g1] at key
            have key : ∀ (t : TokV) (e : Int), atT s a = (t, e) → (Tr.leaf (tokV t.kind t.text t.n e)).Ok (fun v => v = tokV (oneK s a) (oneX s a) (oneN s a) (oneE s a)) := fun t e h => key t e h
            unfold atT at key
            refine fork_ok (fun f1 => need_so ⟨rfl, hs', by omega, by omega⟩ (fork_ok (fun f2 => need_so ⟨rfl, hs', by omega, by omega⟩ (need_t (by simp only [Bool.and_eq_true, leI_t]; omega) ?_)) (fun f2 => ?_))) (fun f1 => ?_)
            · rw [f1, f2] at key
              exact key ⟨3, s.extract (a + 1).toNat (a + 1 + spanI goesB s (a + 1)).toNat, 0⟩ _ rfl
            · rw [f1, f2] at key
              have key : ∀ (t : TokV) (e : Int), nameT s a = (t, e) → (Tr.leaf (tokV t.kind t.text t.n e)).Ok (fun v => v = tokV (oneK s a) (oneX s a) (oneN s a) (oneE s a)) := fun t e h => key t e h
              unfold nameT at key
              refine need_so ⟨rfl, hs', h0, by omega⟩ (fork_ok (fun d1 => need_so ⟨rfl, hs', h0, by omega⟩ (need_so ⟨rfl, ⟨hs', by decide⟩, by omega, by omega⟩ (fork_ok (fun d2 => need_t (by simp only [Bool.and_eq_true, leI_t]; omega) ?_) (fun d2 => need_t (by simp only [Bool.and_eq_true, leI_t]; omega) ?_)))) (fun d1 => need_so ⟨rfl, trivial⟩ (fork_ok (fun d2 => ?_) (fun d2 => need_t (by simp only [Bool.and_eq_true, leI_t]; omega) ?_))))
              · rw [d1, show hasI s wOp (a + spanI goesB s a) = true from d2] at key
                exact key ⟨2, s.extract a.toNat (a + spanI goesB s a).toNat, 0⟩ _ rfl
              · rw [d1, show hasI s wOp (a + spanI goesB s a) = false from d2] at key
                exact key ⟨1, s.extract a.toNat (a + spanI goesB s a).toNat, 0⟩ _ rfl
              · rw [d1, d2] at key
                exact key ⟨sgnI (byteAt s a.toNat), ⟨⟨[]⟩⟩, 0⟩ _ rfl
              · rw [d1, d2] at key
                exact key ⟨19, s.extract a.toNat (a + 1).toNat, 0⟩ _ rfl
            · rw [f1] at key
              have key : ∀ (t : TokV) (e : Int), nameT s a = (t, e) → (Tr.leaf (tokV t.kind t.text t.n e)).Ok (fun v => v = tokV (oneK s a) (oneX s a) (oneN s a) (oneE s a)) := fun t e h => key t e h
              unfold nameT at key
              refine need_so ⟨rfl, hs', h0, by omega⟩ (fork_ok (fun d1 => need_so ⟨rfl, hs', h0, by omega⟩ (need_so ⟨rfl, ⟨hs', by decide⟩, by omega, by omega⟩ (fork_ok (fun d2 => need_t (by simp only [Bool.and_eq_true, leI_t]; omega) ?_) (fun d2 => need_t (by simp only [Bool.and_eq_true, leI_t]; omega) ?_)))) (fun d1 => need_so ⟨rfl, trivial⟩ (fork_ok (fun d2 => ?_) (fun d2 => need_t (by simp only [Bool.and_eq_true, leI_t]; omega) ?_))))
              · rw [d1, show hasI s wOp (a + spanI goesB s a) = true from d2] at key
                exact key ⟨2, s.extract a.toNat (a + spanI goesB s a).toNat, 0⟩ _ rfl
              · rw [d1, show hasI s wOp (a + spanI goesB s a) = false from d2] at key
                exact key ⟨1, s.extract a.toNat (a + spanI goesB s a).toNat, 0⟩ _ rfl
              · rw [d1, d2] at key
                exact key ⟨sgnI (byteAt s a.toNat), ⟨⟨[]⟩⟩, 0⟩ _ rfl
              · rw [d1, d2] at key
                exact key ⟨19, s.extract a.toNat (a + 1).toNat, 0⟩ _ rfl
    · simp only [Bool.not_eq_false'] at c3
      exact key _ _ (by rw [c3])
end Go.Proofs.Ytconlneohilnmaa
namespace Go.Proofs.Ytconlneohilnmaa
open Go Go.RowKit Pl Sy
set_option linter.unusedVariables false
set_option linter.unusedSimpArgs false
theorem bhP_at (s t : ByteArray) : ∀ (n : Nat) (a : Int), s.size - a.toNat ≤ n → 0 ≤ a → bhP s t a < s.size → hasI s t (bhP s t a) = true
  | 0, a, h, h0, hl => by
    rw [bhP_step s t a h0] at hl ⊢
    split at hl
    · rename_i q; omega
    · omega
  | n + 1, a, h, h0, hl => by
    rw [bhP_step s t a h0] at hl ⊢
    split at hl
    · rename_i q
      rw [if_pos q]
      exact bhP_at s t n (a + 1) (by omega) (by omega) hl
    · rename_i q
      rw [if_neg q]
      cases hb : hasI s t a with
      | true => rfl
      | false => exact absurd ⟨by omega, hb⟩ q
theorem bhI_le (s t : ByteArray) (a : Int) (h0 : 0 ≤ a) (h : a ≤ s.size) : a ≤ bhI s t a ∧ bhI s t a ≤ s.size := by
  have h1 := bhP_le s t a h0 h
  unfold bhI
  split
  · omega
  · rename_i q
    rw [Bool.not_eq_true, leI_f] at q
    have := hasI_le (bhP_at s t _ a (Nat.le_refl _) h0 (by omega))
    omega
theorem spanI_pos (g : Int → Bool) (s : ByteArray) (a : Int) (h0 : 0 ≤ a) (h : a < s.size) (hg : g (byteAt s a.toNat) = true) : 1 ≤ spanI g s a := by
  unfold spanI
  rw [upI_step g s a h0, if_pos ⟨h, hg⟩]
  have := upI_le g s (a + 1) (by omega) (by omega)
  omega
theorem starts_lt {s : ByteArray} {a : Int} (h : startsI s a = true) : a < s.size ∧ goesB (byteAt s a.toNat) = true := by
  unfold startsI at h
  rw [Bool.and_eq_true, Bool.not_eq_true', leI_f] at h
  refine ⟨by omega, ?_⟩
  by_cases e : eqI (byteAt s a.toNat) 45 = true
  · rw [eqI_t] at e
    rw [e]; rfl
  · rw [if_neg e] at h
    unfold goesB
    rw [h.2]; rfl
theorem one_le (s : ByteArray) (a : Int) (h0 : 0 ≤ a) (h1 : a < s.size) : a < oneE s a ∧ oneE s a ≤ s.size := by
  have b1 := spanI_bd goesB s a h0
  have b2 := spanI_bd goesB s (a + 1) (by omega)
  have b3 := spanI_bd blankB s a h0
  have b4 := num_le s a h0 (by omega)
  unfold oneE oneT
  split
  · rename_i c
    have := hasI_le c
    have h2 : a + 2 ≤ s.size := this
    have := bhI_le s wLs (a + 2) (by omega) h2
    show a < bhI s wLs (a + 2) ∧ bhI s wLs (a + 2) ≤ s.size
    omega
  · split
    · rename_i _ c
      have := spanI_pos blankB s a h0 h1 c
      show a < a + spanI blankB s a ∧ a + spanI blankB s a ≤ s.size
      omega
    · split
      · show a < quoE s a ∧ quoE s a ≤ s.size
        have hz := upI_le (quoB (byteAt s a.toNat)) s (a + 1) (by omega) (by omega)
        rw [show upI (quoB (byteAt s a.toNat)) s (a + 1) = quoZ s a from rfl] at hz
        unfold quoE
        split
        · omega
        · rename_i q
          rw [Bool.not_eq_true, eqI_f] at q
          split <;> omega
      · split
        · rename_i c
          rw [Bool.not_eq_true', leI_f] at c
          show a < meaE s a (numI s a) ∧ meaE s a (numI s a) ≤ s.size
          have b5 := spanI_bd goesB s (a + numI s a) (by omega)
          unfold meaE pctB
          split
          · rename_i q
            rw [Bool.and_eq_true, Bool.not_eq_true', leI_f] at q
            omega
          · split <;> omega
        · unfold hashT
          split
          · show a < a + 1 + spanI goesB s (a + 1) ∧ a + 1 + spanI goesB s (a + 1) ≤ s.size
            omega
          · unfold atT
            split
            · show a < a + 1 + spanI goesB s (a + 1) ∧ a + 1 + spanI goesB s (a + 1) ≤ s.size
              omega
            · unfold nameT
              split
              · rename_i c
                have := spanI_pos goesB s a h0 h1 (starts_lt c).2
                split
                · rename_i q
                  have := hasI_le q
                  have h2 : a + spanI goesB s a + 1 ≤ s.size := this
                  show a < a + spanI goesB s a + 1 ∧ a + spanI goesB s a + 1 ≤ s.size
                  omega
                · show a < a + spanI goesB s a ∧ a + spanI goesB s a ≤ s.size
                  omega
              · split
                · show a < a + 1 ∧ a + 1 ≤ (s.size : Int)
                  omega
                · show a < a + 1 ∧ a + 1 ≤ (s.size : Int)
                  omega
theorem one_size (s : ByteArray) (a : Int) : (oneX s a).size ≤ s.size := by
  have hx : ∀ i j, (s.extract i j).size ≤ s.size := fun i j => by rw [ByteArray.size_extract]; omega
  have h0 : (⟨⟨[]⟩⟩ : ByteArray).size ≤ s.size := Nat.zero_le _
  unfold oneX oneT hashT atT nameT
  repeat' split
  all_goals first | exact h0 | exact hx _ _ | skip
  · show (meaX s a (numI s a)).size ≤ s.size
    unfold meaX
    repeat' split
    all_goals first | exact h0 | exact hx _ _
noncomputable abbrev Sy.cOne (s : ByteArray) : Con Try.prog := atX 30 (fun args => match args with | [_, .lit (.int _ a)] => some a | _ => none) (fun a => [.lit (.string s), int a]) (fun a => tokV (oneK s a) (oneX s a) (oneN s a) (oneE s a)) (fun a => limT s.size ∧ 0 ≤ a ∧ a < s.size) fun a h => ⟨⟨⟨trivial, trivial, trivial⟩, ⟨⟨trivial, trivial, trivial, trivial⟩, trivial, trivial⟩⟩, one_t s h.1 a h.2.1 h.2.2⟩
noncomputable def cutN (s : ByteArray) : Nat → Int → List TokV
  | 0, _ => []
  | n + 1, a => if a < s.size then (if leI (oneK s a) 0 = true then [] else [⟨oneK s a, oneX s a, oneN s a⟩]) ++ cutN s n (oneE s a) else []
noncomputable def cutT (s : ByteArray) : List TokV := cutN s s.size 0
theorem cutN_len (s : ByteArray) : ∀ (n : Nat) (a : Int), (cutN s n a).length ≤ n
  | 0, _ => Nat.le_refl _
  | n + 1, a => by
    have := cutN_len s n (oneE s a)
    unfold cutN
    split
    · rw [List.length_append]
      split
      · simp only [List.length_nil]; omega
      · simp only [List.length_cons, List.length_nil]; omega
    · exact Nat.zero_le _
theorem cutN_size (s : ByteArray) : ∀ (n : Nat) (a : Int) (t : TokV), t ∈ cutN s n a → t.text.size ≤ s.size
  | 0, _, _, h => by cases h
  | n + 1, a, t, h => by
    unfold cutN at h
    split at h
    · rcases List.mem_append.1 h with h | h
      · split at h
        · cases h
        · simp only [List.mem_cons, List.not_mem_nil, or_false] at h
          subst h
          exact one_size s a
      · exact cutN_size s n _ t h
    · cases h
theorem cutT_len (s : ByteArray) : (cutT s).length ≤ s.size := cutN_len s _ _
theorem cutT_ok {s : ByteArray} (h : limT s.size) : ToksOk (cutT s) := fun t ht => by
  have := cutN_size s _ _ t ht
  have hm : 1000000 ≤ maxLen := by decide
  unfold limT at h
  omega
namespace Sy
abbrev cuF (s : ByteArray) (b n : Nat) (a : Int) : Fr := [some ((@AV.lit (@Value.string s))), none, none, some (.own b n 3), some (int a), none, none, none, none, none, none, none, none, none, none, none, none, none, none, none, none, none, none, none, none, none]
end Sy
theorem Sy.cuF_ren (s : ByteArray) (b b' n n' : Nat) (a a' : Int) (σ : Nat → Option Nat) (h : a = a') (hn : n = n') (h1 : σ b' = some b) : RenF σ (cuF s b n a) (cuF s b' n' a') := by
  subst h hn
  simp only [RenF, and_true]
  exact ⟨rfl, ⟨h1, rfl, rfl⟩, rfl⟩
theorem Sy.cu_loop (s : ByteArray) (hs : limT s.size) : ∀ (n : Nat) (a : Int) (L : List TokV), s.size - a.toNat ≤ n → 0 ≤ a → a ≤ s.size → limT (L.length + n) →
    LoopToT 0 Try.prog (theBody Try.prog 13 4) (n + 1) (cuF s 0 L.length a) (qM L) fun ex F2 M2 => ex = .exit 0 ∧ F2 = cuF s 0 (L ++ cutN s n a).length s.size ∧ M2 = qM (L ++ cutN s n a) := by
  intro n
  induction n with
  | zero =>
    intro a L h1 h2 h3 h4
    refine roundT plain mixed 0 [cOne s] [] 400 30 13 4 Try.func13 rfl (by kernel_rfl) [true, false, false, true, true, false, false, false, false, false, false, false, false, false, false, false, false, false, false, false, false, false, false, false, false, false] (.br (.yes (.br (.yes .done) .done)) .done) (.fork (!(leI (((@ByteArray.size s) : Nat) : Int) a)) (.need (@isSo (@And ((@HAppend.hAppend _ _ _ _ (@HAppend.hAppend _ _ _ _ [] [(@AV.lit (@Value.string s)), (int a)]) []) = [(@AV.lit (@Value.string s)), (int a)]) (@And ((@ByteArray.size s) ≤ 1000000) (@And ((0 : Int) ≤ a) (a < (((@ByteArray.size s) : Nat) : Int)))))) (.fork (!(leI (@oneK s a) (0 : Int))) (.need (Bool.true && ((@Nat.ble (L).length (L).length) && ((@Nat.ble (((L).length + 1) * 32) 140737488355328) && (@Nat.ble ((L).length + 1) 17592186044416)))) (.leaf (Ex.norm, ([(some (@AV.lit (@Value.string s))), none, none, (some (@AV.own ((1 + 1) + 1) ((L).length + 1) 3)), (some (int (@oneE s a))), none, none, none, none, none, none, none, none, none, none, none, none, none, none, none, none, none, none, none, none, none], (@Mem.mk (((1 + 1) + 1) + 1) ((0 + 1) + 1) ((some (@Blk.mk [] 39 (some (@Rw.mk ((L).length + 1) 3 (@appc (L).length (@kcell L) (fun x261105 => (fun x37641 => (@getA (@List.take _ 3 ((int (@oneK s a)) :: (@AV.lit (@Value.string (@oneX s a))) :: (int (@oneN s a)) :: (@List.drop _ (0 + ([(int (@oneK s a)), (@AV.lit (@Value.string (@oneX s a))), (int (@oneN s a))]).length) (@List.map _ _ AV.lit (@Array.toList _ (@Array.mk _ [(@List.get _ (@Array.toList _ (@Array.mk _ [(@Value.int IntKind.i64 (0 : Int)), (@Value.string (@ByteArray.mk (@Array.mk _ []))), (@Value.int IntKind.i64 (0 : Int))])) (@Fin.mk _ 0 (@Nat.le_of_ble_eq_true _ _ (@Eq.refl _ true)))), (@List.get _ (@Array.toList _ (@Array.mk _ [(@Value.int IntKind.i64 (0 : Int)), (@Value.string (@ByteArray.mk (@Array.mk _ []))), (@Value.int IntKind.i64 (0 : Int))])) (@Fin.mk _ 1 (@Nat.le_of_ble_eq_true _ _ (@Eq.refl _ true)))), (@List.get _ (@Array.toList _ (@Array.mk _ [(@Value.int IntKind.i64 (0 : Int)), (@Value.string (@ByteArray.mk (@Array.mk _ []))), (@Value.int IntKind.i64 (0 : Int))])) (@Fin.mk _ 2 (@Nat.le_of_ble_eq_true _ _ (@Eq.refl _ true))))])))))) ((x261105 * 3) + x37641))))))))) :: ((some (@Blk.mk ((int (@oneK s a)) :: (@AV.lit (@Value.string (@oneX s a))) :: (int (@oneN s a)) :: (@List.drop _ (0 + ([(int (@oneK s a)), (@AV.lit (@Value.string (@oneX s a))), (int (@oneN s a))]).length) (@List.map _ _ AV.lit (@Array.toList _ (@Array.mk _ [(@List.get _ (@Array.toList _ (@Array.mk _ [(@Value.int IntKind.i64 (0 : Int)), (@Value.string (@ByteArray.mk (@Array.mk _ []))), (@Value.int IntKind.i64 (0 : Int))])) (@Fin.mk _ 0 (@Nat.le_of_ble_eq_true _ _ (@Eq.refl _ true)))), (@List.get _ (@Array.toList _ (@Array.mk _ [(@Value.int IntKind.i64 (0 : Int)), (@Value.string (@ByteArray.mk (@Array.mk _ []))), (@Value.int IntKind.i64 (0 : Int))])) (@Fin.mk _ 1 (@Nat.le_of_ble_eq_true _ _ (@Eq.refl _ true)))), (@List.get _ (@Array.toList _ (@Array.mk _ [(@Value.int IntKind.i64 (0 : Int)), (@Value.string (@ByteArray.mk (@Array.mk _ []))), (@Value.int IntKind.i64 (0 : Int))])) (@Fin.mk _ 2 (@Nat.le_of_ble_eq_true _ _ (@Eq.refl _ true))))]))))) 39 none)) :: [(some (@Blk.mk ((int (@oneK s a)) :: (@AV.lit (@Value.string (@oneX s a))) :: (int (@oneN s a)) :: (@List.drop _ (0 + ([(int (@oneK s a)), (@AV.lit (@Value.string (@oneX s a))), (int (@oneN s a))]).length) [(int (0 : Int)), (@AV.lit (@Value.string (@ByteArray.mk (@Array.mk _ [])))), (int (0 : Int))])) 39 none)), none]))))))) (.leaf (Ex.norm, ([(some (@AV.lit (@Value.string s))), none, none, (some (@AV.own 0 (L).length 3)), (some (int (@oneE s a))), none, none, none, none, none, none, none, none, none, none, none, none, none, none, none, none, none, none, none, none, none], (@Mem.mk (1 + 1) (0 + 1) [(some (@Blk.mk ((int (@oneK s a)) :: (@AV.lit (@Value.string (@oneX s a))) :: (int (@oneN s a)) :: (@List.drop _ (0 + ([(int (@oneK s a)), (@AV.lit (@Value.string (@oneX s a))), (int (@oneN s a))]).length) [(int (0 : Int)), (@AV.lit (@Value.string (@ByteArray.mk (@Array.mk _ [])))), (int (0 : Int))])) 39 none)), (some (@Blk.mk [] 39 (some (@Rw.mk (L).length 3 (@kcell L)))))])))))) (.leaf ((@Ex.exit 0), ([(some (@AV.lit (@Value.string s))), none, none, (some (@AV.own 0 (L).length 3)), (some (int a)), none, none, none, none, none, none, none, none, none, none, none, none, none, none, none, none, none, none, none, none, none], (@Mem.mk 1 0 [(some (@Blk.mk [] 39 (some (@Rw.mk (L).length 3 (@kcell L)))))]))))) (by kernel_rfl) ?_
    refine fork_ok (fun q => ?_) (fun q => ?_)
    · simp only [Bool.not_eq_true', Bool.not_eq_false', leI_t, leI_f, eqI_t, eqI_f, inR_t, inR_f, isSo_t, isSo_f] at q
      omega
    · simp only [Bool.not_eq_true', Bool.not_eq_false', leI_t, leI_f, eqI_t, eqI_f, inR_t, inR_f, isSo_t, isSo_f] at q
      rw [show L ++ cutN s 0 a = L by unfold cutN; simp]
      exact ⟨rfl, by rw [show a = s.size by omega], rfl⟩
  | succ n ih =>
    intro a L h1 h2 h3 h4
    unfold limT at h4
    refine roundT plain mixed 0 [cOne s] [] 400 30 13 4 Try.func13 rfl (by kernel_rfl) [true, false, false, true, true, false, false, false, false, false, false, false, false, false, false, false, false, false, false, false, false, false, false, false, false, false] (.br (.yes (.br (.yes .done) .done)) .done) (.fork (!(leI (((@ByteArray.size s) : Nat) : Int) a)) (.need (@isSo (@And ((@HAppend.hAppend _ _ _ _ (@HAppend.hAppend _ _ _ _ [] [(@AV.lit (@Value.string s)), (int a)]) []) = [(@AV.lit (@Value.string s)), (int a)]) (@And ((@ByteArray.size s) ≤ 1000000) (@And ((0 : Int) ≤ a) (a < (((@ByteArray.size s) : Nat) : Int)))))) (.fork (!(leI (@oneK s a) (0 : Int))) (.need (Bool.true && ((@Nat.ble (L).length (L).length) && ((@Nat.ble (((L).length + 1) * 32) 140737488355328) && (@Nat.ble ((L).length + 1) 17592186044416)))) (.leaf (Ex.norm, ([(some (@AV.lit (@Value.string s))), none, none, (some (@AV.own ((1 + 1) + 1) ((L).length + 1) 3)), (some (int (@oneE s a))), none, none, none, none, none, none, none, none, none, none, none, none, none, none, none, none, none, none, none, none, none], (@Mem.mk (((1 + 1) + 1) + 1) ((0 + 1) + 1) ((some (@Blk.mk [] 39 (some (@Rw.mk ((L).length + 1) 3 (@appc (L).length (@kcell L) (fun x261105 => (fun x37641 => (@getA (@List.take _ 3 ((int (@oneK s a)) :: (@AV.lit (@Value.string (@oneX s a))) :: (int (@oneN s a)) :: (@List.drop _ (0 + ([(int (@oneK s a)), (@AV.lit (@Value.string (@oneX s a))), (int (@oneN s a))]).length) (@List.map _ _ AV.lit (@Array.toList _ (@Array.mk _ [(@List.get _ (@Array.toList _ (@Array.mk _ [(@Value.int IntKind.i64 (0 : Int)), (@Value.string (@ByteArray.mk (@Array.mk _ []))), (@Value.int IntKind.i64 (0 : Int))])) (@Fin.mk _ 0 (@Nat.le_of_ble_eq_true _ _ (@Eq.refl _ true)))), (@List.get _ (@Array.toList _ (@Array.mk _ [(@Value.int IntKind.i64 (0 : Int)), (@Value.string (@ByteArray.mk (@Array.mk _ []))), (@Value.int IntKind.i64 (0 : Int))])) (@Fin.mk _ 1 (@Nat.le_of_ble_eq_true _ _ (@Eq.refl _ true)))), (@List.get _ (@Array.toList _ (@Array.mk _ [(@Value.int IntKind.i64 (0 : Int)), (@Value.string (@ByteArray.mk (@Array.mk _ []))), (@Value.int IntKind.i64 (0 : Int))])) (@Fin.mk _ 2 (@Nat.le_of_ble_eq_true _ _ (@Eq.refl _ true))))])))))) ((x261105 * 3) + x37641))))))))) :: ((some (@Blk.mk ((int (@oneK s a)) :: (@AV.lit (@Value.string (@oneX s a))) :: (int (@oneN s a)) :: (@List.drop _ (0 + ([(int (@oneK s a)), (@AV.lit (@Value.string (@oneX s a))), (int (@oneN s a))]).length) (@List.map _ _ AV.lit (@Array.toList _ (@Array.mk _ [(@List.get _ (@Array.toList _ (@Array.mk _ [(@Value.int IntKind.i64 (0 : Int)), (@Value.string (@ByteArray.mk (@Array.mk _ []))), (@Value.int IntKind.i64 (0 : Int))])) (@Fin.mk _ 0 (@Nat.le_of_ble_eq_true _ _ (@Eq.refl _ true)))), (@List.get _ (@Array.toList _ (@Array.mk _ [(@Value.int IntKind.i64 (0 : Int)), (@Value.string (@ByteArray.mk (@Array.mk _ []))), (@Value.int IntKind.i64 (0 : Int))])) (@Fin.mk _ 1 (@Nat.le_of_ble_eq_true _ _ (@Eq.refl _ true)))), (@List.get _ (@Array.toList _ (@Array.mk _ [(@Value.int IntKind.i64 (0 : Int)), (@Value.string (@ByteArray.mk (@Array.mk _ []))), (@Value.int IntKind.i64 (0 : Int))])) (@Fin.mk _ 2 (@Nat.le_of_ble_eq_true _ _ (@Eq.refl _ true))))]))))) 39 none)) :: [(some (@Blk.mk ((int (@oneK s a)) :: (@AV.lit (@Value.string (@oneX s a))) :: (int (@oneN s a)) :: (@List.drop _ (0 + ([(int (@oneK s a)), (@AV.lit (@Value.string (@oneX s a))), (int (@oneN s a))]).length) [(int (0 : Int)), (@AV.lit (@Value.string (@ByteArray.mk (@Array.mk _ [])))), (int (0 : Int))])) 39 none)), none]))))))) (.leaf (Ex.norm, ([(some (@AV.lit (@Value.string s))), none, none, (some (@AV.own 0 (L).length 3)), (some (int (@oneE s a))), none, none, none, none, none, none, none, none, none, none, none, none, none, none, none, none, none, none, none, none, none], (@Mem.mk (1 + 1) (0 + 1) [(some (@Blk.mk ((int (@oneK s a)) :: (@AV.lit (@Value.string (@oneX s a))) :: (int (@oneN s a)) :: (@List.drop _ (0 + ([(int (@oneK s a)), (@AV.lit (@Value.string (@oneX s a))), (int (@oneN s a))]).length) [(int (0 : Int)), (@AV.lit (@Value.string (@ByteArray.mk (@Array.mk _ [])))), (int (0 : Int))])) 39 none)), (some (@Blk.mk [] 39 (some (@Rw.mk (L).length 3 (@kcell L)))))])))))) (.leaf ((@Ex.exit 0), ([(some (@AV.lit (@Value.string s))), none, none, (some (@AV.own 0 (L).length 3)), (some (int a)), none, none, none, none, none, none, none, none, none, none, none, none, none, none, none, none, none, none, none, none, none], (@Mem.mk 1 0 [(some (@Blk.mk [] 39 (some (@Rw.mk (L).length 3 (@kcell L)))))]))))) (by kernel_rfl) ?_
    refine fork_ok (fun q => ?_) (fun q => ?_)
    · simp only [Bool.not_eq_true', Bool.not_eq_false', leI_t, leI_f, eqI_t, eqI_f, inR_t, inR_f, isSo_t, isSo_f] at q
      have hlt : a < s.size := by omega
      have ho := one_le s a h2 hlt
      refine need_so ⟨rfl, hs, h2, hlt⟩ (fork_ok (fun u => ?_) (fun u => ?_))
      · have e : cutN s (n + 1) a = [⟨oneK s a, oneX s a, oneN s a⟩] ++ cutN s n (oneE s a) := by
          rw [Bool.not_eq_true'] at u
          show (if _ then _ else _) = _
          rw [if_pos hlt, u]; rfl
        refine need_t (room_ok (by unfold limT; omega)) ?_
        have key := ih (oneE s a) (L ++ [⟨oneK s a, oneX s a, oneN s a⟩]) (by omega) (by omega) (by omega) (by unfold limT; simp only [List.length_append, List.length_cons, List.length_nil]; omega)
        rw [List.append_assoc, ← e] at key
        exact LoopToT.ren [3] rfl (cuF_ren s 3 0 _ _ _ _ _ rfl (by simp) rfl) (qM_ren (b := 3) rfl rfl (CellIs.app3 (X := [⟨oneK s a, oneX s a, oneN s a⟩]) (CellIs.kc L) rfl (fun i j hi hj => by
        rcases i with _ | i
        · rcases j with _ | _ | _ | j
          · exact rfl
          · exact rfl
          · exact rfl
          · omega
        · omega))) key
      · have e : cutN s (n + 1) a = cutN s n (oneE s a) := by
          rw [Bool.not_eq_false'] at u
          show (if _ then _ else _) = _
          rw [if_pos hlt, u]; rfl
        have key := ih (oneE s a) L (by omega) (by omega) (by omega) (by unfold limT; omega)
        rw [← e] at key
        exact LoopToT.ren [0] rfl (cuF_ren s 0 0 _ _ _ _ _ rfl rfl rfl) (qM_ren (b := 0) rfl rfl (CellIs.kc L)) key
    · simp only [Bool.not_eq_true', Bool.not_eq_false', leI_t, leI_f, eqI_t, eqI_f, inR_t, inR_f, isSo_t, isSo_f] at q
      rw [show L ++ cutN s (n + 1) a = L by unfold cutN; rw [if_neg (by omega)]; simp]
      exact ⟨rfl, by rw [show a = s.size by omega], rfl⟩
namespace Sy
abbrev cuG (s : ByteArray) : Fr := [some ((@AV.lit (@Value.string s))), none, none, some ((@AV.lit (@Value.slice none 0 0))), some ((int (0 : Int))), none, none, none, none, none, none, none, none, none, none, none, none, none, none, none, none, none, none, none, none, none]
noncomputable abbrev lpCu (s : ByteArray) : Lp Try.prog where
  f := 13
  key := 4
  S := formS (fun F M => some M.stamp) (fun _ => cuG s) (fun t => ⟨0, t, []⟩) (fun _ => limT s.size) (fun t => .leaf (.exit 0, cuF s 1 (0 + (cutT s).length) s.size, rRes ⟨1, t, [some (rowB 0 (kcell []))]⟩ 0 0 (kcell []) (cutT s))) [true, false, false, true, true, false, false, false, false, false, false, false, false, false, false, false, false, false, false, false, false, false, false, false, false, false]
  one := by kernel_rfl
  ok := formS_ok fun t h1 => by
    refine ⟨s.size + 1, ?_⟩
    have key := cu_loop s h1 s.size 0 [] (by omega) (Int.le_refl _) (by omega) (by unfold limT at *; simp only [List.length_nil]; omega)
    have k2 : LoopTo Try.prog (theBody Try.prog 13 4) (s.size + 1) (cuF s 0 0 0) ⟨1, t, [some (rowB 0 (kcell []))]⟩ _ := loopQ_frame key (b := 0) (F' := cuF s 1 (0 + (cutT s).length) s.size) (cuF_ren s 0 0 _ _ _ _ _ rfl rfl rfl) (fun τ t0 => cuF_ren s 0 1 _ _ _ _ τ rfl (by simp [cutT]) t0) rfl (CellIs.kc [])
    have k3 : LoopTo Try.prog (theBody Try.prog 13 4) (s.size + 1) (cuG s) ⟨0, t, []⟩ _ := LoopToT.to (T := 0) (LoopToT.nil 3 39 3 (kcell []) (Nat.le_refl _) rfl (k2.toT 0)) (Nat.le_refl _)
    refine k3.mono fun ex F M hg => ?_
    obtain ⟨rfl, rfl, hM⟩ := hg
    rw [hM]; rfl
end Sy
theorem Sy.cut_t (s : ByteArray) (h : limT s.size) : CallTo Try.prog 13 [.lit (.string s)] M0 fun v M' => OwnEnd v M' (cutT s) :=
  to (G := fun r => OwnEnd r.1 r.2 (cutT s)) [cOne s] [lpCu s] 400 30 .done (.need (@isSo (@And (((some (@AV.lit (@Value.string s))) :: [none, none, (some (@AV.lit (@Value.slice none 0 0))), (some (int (0 : Int))), none, none, none, none, none, none, none, none, none, none, none, none, none, none, none, none, none, none, none, none, none]) = [(some (@AV.lit (@Value.string s))), none, none, (some (@AV.lit (@Value.slice none 0 0))), (some (int (0 : Int))), none, none, none, none, none, none, none, none, none, none, none, none, none, none, none, none, none, none, none, none, none]) ((@Mem.mk 0 0 []) = (@Mem.mk 0 0 [])))) (.need (@isSo ((@ByteArray.size s) ≤ 1000000)) (.leaf ((@AV.own 1 (0 + ((@cutT s)).length) 3), (@Mem.mk 2 1 [(some (@Blk.mk [] 39 (some (@Rw.mk (0 + ((@cutT s)).length) 3 (@appc 0 (@kcell []) (@kcell (@cutT s))))))), none]))))) (by kernel_rfl) (need_so ⟨rfl, rfl⟩ (need_so h ⟨_, _, _, rfl, rfl, CellIs.cast (CellIs.app2 (CellIs.kc []) rfl) (by simp)⟩))
theorem Sy.cut_v (s : ByteArray) (h : limT s.size) : CallTo Try.prog 13 [.lit (.string s)] M0 fun v _ => v = kv (cutT s) :=
  CallTo.frz0 ((cut_t s h).mono fun v M' hv => OwnEnd.frz hv true) ⟨trivial, trivial⟩ (kv_free _)
end Go.Proofs.Ytconlneohilnmaa
namespace Go.Proofs.Ytconlneohilnmaa
open Go Go.RowKit Pl Sy
set_option linter.unusedVariables false
set_option linter.unusedSimpArgs false
namespace Sy
abbrev stF (xs ys : List ByteArray) (k : Int) : Fr := (some ((@AV.view (xs).length 1 (fun x988362 => (fun x824286 => (@AV.lit ([(@Value.string (xs.getD x988362 (@ByteArray.mk (@Array.mk _ []))))].getD x824286 (@Value.tuple (@Array.mk _ [])))))))) :: some ((@AV.view (ys).length 1 (fun x152863 => (fun x35083 => (@AV.lit ([(@Value.string (ys.getD x152863 (@ByteArray.mk (@Array.mk _ []))))].getD x35083 (@Value.tuple (@Array.mk _ [])))))))) :: none :: none :: some ((boo false)) :: some (int k) :: (nn20 []))
end Sy
def diffS (xs ys : List ByteArray) (i : Nat) : Bool := !bytesEq (xs.getD i ⟨#[]⟩).data.toList (ys.getD i ⟨#[]⟩).data.toList
def eqT (x y : TestV) : Bool := bytesEq x.name.data.toList y.name.data.toList && (decide (x.equal = y.equal) && (bytesEq x.value.data.toList y.value.data.toList && true))
def diffT (xs ys : List TestV) (i : Nat) : Bool := !eqT (xs.getD i testNone) (ys.getD i testNone)
def sameS (xs ys : List ByteArray) : Bool := eqI xs.length ys.length && !anyN (diffS xs ys) xs.length
def sameT (xs ys : List TestV) : Bool := eqI xs.length ys.length && !anyN (diffT xs ys) xs.length
theorem Sy.st_scan (xs ys : List ByteArray) (hl : eqI xs.length ys.length = true) (hx : xs.length ≤ 17592186044416) : LoopTo Try.prog (theBody Try.prog 77 5) (xs.length + 1) (stF xs ys 0) M0 fun ex F' M' => M' = M0 ∧ ((0 ≤ idxN (diffS xs ys) xs.length ∧ ex = .ret ∧ F' = stF xs ys (idxN (diffS xs ys) xs.length)) ∨ (idxN (diffS xs ys) xs.length = -1 ∧ ex = .exit 0 ∧ F' = stF xs ys xs.length)) :=
  scanN xs.length (diffS xs ys) (fun k => stF xs ys k) (fun k => stF xs ys k) M0 fun k n G h0 h1 c1 c2 c3 => by
    refine roundL [] [] 400 30 77 5 Try.func77 rfl (by kernel_rfl) (true :: true :: false :: false :: true :: true :: (ff20 [])) (.br (.yes (.yes (.br .done .done))) .done) (let e1 := (@ByteArray.mk (@Array.mk _ [])); let e2 := (@Value.tuple (@Array.mk _ [])); let e3 := (some (@AV.view (xs).length 1 (fun y0 => (fun y1 => (@AV.lit ([(@Value.string (xs.getD y0 e1))].getD y1 e2)))))); let e4 := (some (@AV.view (ys).length 1 (fun y0 => (fun y1 => (@AV.lit ([(@Value.string (ys.getD y0 e1))].getD y1 e2)))))); (.fork (!(leI (((xs).length : Nat) : Int) k)) (.need (@inR k (xs).length) (.need (@inR k (ys).length) (.fork (!(@bytesEq (@Array.toList _ (@ByteArray.data (xs.getD (k).toNat e1))) (@Array.toList _ (@ByteArray.data (ys.getD (k).toNat e1))))) (.leaf (Ex.ret, ((e3 :: e4 :: none :: none :: (some (boo false)) :: (some (int k)) :: (nn20 [])), (@Mem.mk 0 0 [])))) (.leaf (Ex.norm, ((e3 :: e4 :: none :: none :: (some (boo false)) :: (some (int (w64 (k + (1 : Int))))) :: (nn20 [])), (@Mem.mk 0 0 []))))))) (.leaf ((@Ex.exit 0), ((e3 :: e4 :: none :: none :: (some (boo false)) :: (some (int k)) :: (nn20 [])), (@Mem.mk 0 0 [])))))) (by kernel_rfl) ?_
    rw [eqI_t] at hl
    have hm : xs.length ≤ 17592186044416 := hx
    refine fork_ok (fun h => ?_) (fun h => ?_)
    · simp only [Bool.not_eq_true', Bool.not_eq_false', leI_t, leI_f, eqI_t, eqI_f, inR_t, inR_f, isSo_t, isSo_f] at h
      have hr : inR k xs.length = true := by rw [inR_t]; omega
      have hr2 : inR k ys.length = true := by rw [inR_t]; omega
      refine need_t hr (need_t hr2 ((fork_ok (fun h2 => c2 (by omega) h2) (fun h2 => ?_))))
      rw [w64_in (r := k + 1) (by omega)]
      exact c1 (by omega) h2
    · simp only [Bool.not_eq_true', Bool.not_eq_false', leI_t, leI_f, eqI_t, eqI_f, inR_t, inR_f, isSo_t, isSo_f] at h
      exact c3 (by omega)
namespace Sy
noncomputable abbrev lp_st (xs ys : List ByteArray) : Lp Try.prog where
  f := 77
  key := 5
  S := formS (fun F M => slotI F 5) (fun k => stF xs ys k) (fun _ => M0) (fun k => (eqI xs.length ys.length = true ∧ xs.length ≤ 17592186044416) ∧ k = 0) (fun k => .fork (anyN (diffS xs ys) xs.length) (.leaf (.ret, (some ((@AV.view (xs).length 1 (fun x988362 => (fun x824286 => (@AV.lit ([(@Value.string (xs.getD x988362 (@ByteArray.mk (@Array.mk _ []))))].getD x824286 (@Value.tuple (@Array.mk _ [])))))))) :: some ((@AV.view (ys).length 1 (fun x152863 => (fun x35083 => (@AV.lit ([(@Value.string (ys.getD x152863 (@ByteArray.mk (@Array.mk _ []))))].getD x35083 (@Value.tuple (@Array.mk _ [])))))))) :: none :: none :: some ((boo false)) :: (nn21 [])), M0)) (.leaf (.exit 0, (some ((@AV.view (xs).length 1 (fun x988362 => (fun x824286 => (@AV.lit ([(@Value.string (xs.getD x988362 (@ByteArray.mk (@Array.mk _ []))))].getD x824286 (@Value.tuple (@Array.mk _ [])))))))) :: some ((@AV.view (ys).length 1 (fun x152863 => (fun x35083 => (@AV.lit ([(@Value.string (ys.getD x152863 (@ByteArray.mk (@Array.mk _ []))))].getD x35083 (@Value.tuple (@Array.mk _ [])))))))) :: none :: none :: some ((boo false)) :: (nn21 [])), M0))) (true :: true :: false :: false :: true :: true :: (ff20 []))
  one := by kernel_rfl
  ok := formS_ok fun k ⟨h1, h2⟩ => by
    subst h2
    refine ⟨xs.length + 1, ?_⟩
    refine ((Sy.st_scan xs ys h1.1 h1.2).out (true :: true :: false :: false :: true :: (ff21 []))).mono fun ex F M hg => ?_
    obtain ⟨F0, ⟨hM, hg⟩, rfl⟩ := hg
    rcases hg with ⟨q1, rfl, rfl⟩ | ⟨q1, rfl, rfl⟩
    · exact .inl ⟨by rw [← anyN_idx, leI_t]; exact q1, by rw [hM]; rfl⟩
    · exact .inr ⟨by rw [← anyN_idx, leI_f, q1]; omega, by rw [hM]; rfl⟩
end Sy
theorem Sy.st_t (xs ys : List ByteArray) (hx : xs.length ≤ 17592186044416) : CallTo Try.prog 77 [cview xs, cview ys] M0 fun v _ => v = boo (sameS xs ys) :=
  toV [] [lp_st xs ys] 400 30 (.br .done (.br .done .done)) (let e1 := (eqI (((xs).length : Nat) : Int) (((ys).length : Nat) : Int)); let e2 := (@ByteArray.mk (@Array.mk _ [])); let e3 := (@Value.tuple (@Array.mk _ [])); let e4 := (some (@AV.view (xs).length 1 (fun y0 => (fun y1 => (@AV.lit ([(@Value.string (xs.getD y0 e2))].getD y1 e3)))))); let e5 := (some (@AV.view (ys).length 1 (fun y0 => (fun y1 => (@AV.lit ([(@Value.string (ys.getD y0 e2))].getD y1 e3)))))); (.fork (!e1) (.leaf (boo false)) (.need (@isSo (@And ((e4 :: e5 :: (none :: none :: (some (boo false)) :: (some (int (0 : Int))) :: (nn20 []))) = (e4 :: e5 :: none :: none :: (some (boo false)) :: (some (int (0 : Int))) :: (nn20 []))) ((@Mem.mk 0 0 []) = M0))) (.need (@isSo (@And (@And (e1 = true) ((xs).length ≤ 17592186044416)) ((0 : Int) = (0 : Int)))) (.fork (@anyN (@diffS xs ys) (xs).length) (.leaf (boo false)) (.leaf (boo true))))))) (by kernel_rfl) (by
    unfold sameS
    refine fork_ok (fun h => ?_) (fun h => need_so ⟨rfl, rfl⟩ (need_so ⟨⟨by simpa using h, hx⟩, rfl⟩ (fork_ok (fun h2 => ?_) (fun h2 => ?_))))
    · simp only [Bool.not_eq_true'] at h
      rw [h]; exact rfl
    · rw [h2]; refine leaf_boo ?_; simp
    · rw [h2]; refine leaf_boo ?_; simpa using h)
noncomputable abbrev Sy.c_st (xs ys : List ByteArray) : Con Try.prog := at1 77 [cview xs, cview ys] (boo (sameS xs ys)) (xs.length ≤ 17592186044416) fun h => ⟨⟨⟨viewOf_free strCells ⟨#[]⟩ 1 xs, viewOf_free strCells ⟨#[]⟩ 1 ys, trivial⟩, trivial⟩, st_t xs ys h⟩
def sameP (p q : PartV) : Bool := eqI p.comb q.comb && (bytesEq p.tag.data.toList q.tag.data.toList && (bytesEq p.id.data.toList q.id.data.toList && (eqI p.states q.states && (sameS p.cls q.cls && sameT p.tests q.tests))))
namespace Sy
abbrev smpF (k : Int) : Fr := (none :: none :: some ((@AV.ptr 0 0)) :: some ((@AV.ptr (0 + 1) 0)) :: some ((boo false)) :: some (int k) :: (nn13 (nn48 [])))
abbrev smpM (p q : PartV) : Mem := (@Mem.mk ((0 + 1) + 1) 0 [(some (@Blk.mk [(int (q).comb), (@AV.lit (@Value.string (q).tag)), (@AV.lit (@Value.string (q).id)), (@AV.view ((q).cls).length 1 (fun x205892 => (fun x819107 => (@AV.lit ([(@Value.string ((q).cls.getD x205892 (@ByteArray.mk (@Array.mk _ []))))].getD x819107 (@Value.tuple (@Array.mk _ []))))))), (@AV.view ((q).tests).length 3 (fun x748591 => (fun x729126 => (@AV.lit ([(@Value.string (((q).tests.getD x748591 testNone)).name), (@Value.bool (((q).tests.getD x748591 testNone)).equal), (@Value.string (((q).tests.getD x748591 testNone)).value)].getD x729126 (@Value.tuple (@Array.mk _ []))))))), (int (q).states)] 55 none)), (some (@Blk.mk [(int (p).comb), (@AV.lit (@Value.string (p).tag)), (@AV.lit (@Value.string (p).id)), (@AV.view ((p).cls).length 1 (fun x332885 => (fun x563501 => (@AV.lit ([(@Value.string ((p).cls.getD x332885 (@ByteArray.mk (@Array.mk _ []))))].getD x563501 (@Value.tuple (@Array.mk _ []))))))), (@AV.view ((p).tests).length 3 (fun x368000 => (fun x231719 => (@AV.lit ([(@Value.string (((p).tests.getD x368000 testNone)).name), (@Value.bool (((p).tests.getD x368000 testNone)).equal), (@Value.string (((p).tests.getD x368000 testNone)).value)].getD x231719 (@Value.tuple (@Array.mk _ []))))))), (int (p).states)] 55 none))])
end Sy
theorem Sy.sp_scan (p q : PartV) (hl : eqI p.tests.length q.tests.length = true) (hx : p.tests.length ≤ 17592186044416) : LoopTo Try.prog (theBody Try.prog 49 5) (p.tests.length + 1) (smpF 0) (smpM p q) fun ex F' M' => M' = smpM p q ∧ ((0 ≤ idxN (diffT p.tests q.tests) p.tests.length ∧ ex = .ret ∧ F' = smpF (idxN (diffT p.tests q.tests) p.tests.length)) ∨ (idxN (diffT p.tests q.tests) p.tests.length = -1 ∧ ex = .exit 0 ∧ F' = smpF p.tests.length)) :=
  scanN p.tests.length (diffT p.tests q.tests) (fun k => smpF k) (fun k => smpF k) (smpM p q) fun k n G h0 h1 c1 c2 c3 => by
    refine roundL [] [] 400 30 49 5 Try.func49 rfl (by kernel_rfl) (false :: false :: true :: true :: true :: true :: (ff13 (ff48 []))) (.br (.yes (.yes (.br .done .done))) .done) (let e1 := (@ByteArray.mk (@Array.mk _ [])); let e2 := (@Value.tuple (@Array.mk _ [])); let e3 := (@Mem.mk 2 0 [(some (@Blk.mk [(int (q).comb), (@AV.lit (@Value.string (q).tag)), (@AV.lit (@Value.string (q).id)), (@AV.view ((q).cls).length 1 (fun y0 => (fun y1 => (@AV.lit ([(@Value.string ((q).cls.getD y0 e1))].getD y1 e2))))), (@AV.view ((q).tests).length 3 (fun y0 => (fun y1 => (@AV.lit ([(@Value.string (((q).tests.getD y0 testNone)).name), (@Value.bool (((q).tests.getD y0 testNone)).equal), (@Value.string (((q).tests.getD y0 testNone)).value)].getD y1 e2))))), (int (q).states)] 55 none)), (some (@Blk.mk [(int (p).comb), (@AV.lit (@Value.string (p).tag)), (@AV.lit (@Value.string (p).id)), (@AV.view ((p).cls).length 1 (fun y0 => (fun y1 => (@AV.lit ([(@Value.string ((p).cls.getD y0 e1))].getD y1 e2))))), (@AV.view ((p).tests).length 3 (fun y0 => (fun y1 => (@AV.lit ([(@Value.string (((p).tests.getD y0 testNone)).name), (@Value.bool (((p).tests.getD y0 testNone)).equal), (@Value.string (((p).tests.getD y0 testNone)).value)].getD y1 e2))))), (int (p).states)] 55 none))]); (.fork (!(leI ((((p).tests).length : Nat) : Int) k)) (.need (@inR k ((p).tests).length) (.need (@inR k ((q).tests).length) (.fork (!((@bytesEq (@Array.toList _ (@ByteArray.data (((p).tests.getD (k).toNat testNone)).name)) (@Array.toList _ (@ByteArray.data (((q).tests.getD (k).toNat testNone)).name))) && ((@Decidable.decide ((((p).tests.getD (k).toNat testNone)).equal = (((q).tests.getD (k).toNat testNone)).equal) _) && ((@bytesEq (@Array.toList _ (@ByteArray.data (((p).tests.getD (k).toNat testNone)).value)) (@Array.toList _ (@ByteArray.data (((q).tests.getD (k).toNat testNone)).value))) && true)))) (.leaf (Ex.ret, ((none :: none :: (some (@AV.ptr 0 0)) :: (some (@AV.ptr 1 0)) :: (some (boo false)) :: (some (int k)) :: (nn13 (nn48 []))), e3))) (.leaf (Ex.norm, ((none :: none :: (some (@AV.ptr 0 0)) :: (some (@AV.ptr 1 0)) :: (some (boo false)) :: (some (int (w64 (k + (1 : Int))))) :: (nn13 (nn48 []))), e3)))))) (.leaf ((@Ex.exit 0), ((none :: none :: (some (@AV.ptr 0 0)) :: (some (@AV.ptr 1 0)) :: (some (boo false)) :: (some (int k)) :: (nn13 (nn48 []))), e3))))) (by kernel_rfl) ?_
    rw [eqI_t] at hl
    refine fork_ok (fun h => ?_) (fun h => ?_)
    · simp only [Bool.not_eq_true', Bool.not_eq_false', leI_t, leI_f, eqI_t, eqI_f, inR_t, inR_f, isSo_t, isSo_f] at h
      have hr : inR k p.tests.length = true := by rw [inR_t]; omega
      have hr2 : inR k q.tests.length = true := by rw [inR_t]; omega
      refine need_t hr (need_t hr2 (fork_ok (fun h2 => c2 (by omega) h2) (fun h2 => ?_)))
      rw [w64_in (r := k + 1) (by omega)]
      exact c1 (by omega) h2
    · simp only [Bool.not_eq_true', Bool.not_eq_false', leI_t, leI_f, eqI_t, eqI_f, inR_t, inR_f, isSo_t, isSo_f] at h
      exact c3 (by omega)
namespace Sy
noncomputable abbrev lpSp (p q : PartV) : Lp Try.prog where
  f := 49
  key := 5
  S := formS (fun F M => slotI F 5) (fun k => smpF k) (fun _ => smpM p q) (fun k => (eqI p.tests.length q.tests.length = true ∧ p.tests.length ≤ 17592186044416) ∧ k = 0) (fun k => .fork (anyN (diffT p.tests q.tests) p.tests.length) (.leaf (.ret, (none :: none :: some ((@AV.ptr 0 0)) :: some ((@AV.ptr (0 + 1) 0)) :: some ((boo false)) :: (nn14 (nn48 []))), smpM p q)) (.leaf (.exit 0, (none :: none :: some ((@AV.ptr 0 0)) :: some ((@AV.ptr (0 + 1) 0)) :: some ((boo false)) :: (nn14 (nn48 []))), smpM p q))) (false :: false :: true :: true :: true :: true :: (ff13 (ff48 [])))
  one := by kernel_rfl
  ok := formS_ok fun k ⟨h1, h2⟩ => by
    subst h2
    refine ⟨p.tests.length + 1, ?_⟩
    refine ((Sy.sp_scan p q h1.1 h1.2).out (false :: false :: true :: true :: true :: (ff14 (ff48 [])))).mono fun ex F M hg => ?_
    obtain ⟨F0, ⟨hM, hg⟩, rfl⟩ := hg
    rcases hg with ⟨q1, rfl, rfl⟩ | ⟨q1, rfl, rfl⟩
    · exact .inl ⟨by rw [← anyN_idx, leI_t]; exact q1, by rw [hM]; rfl⟩
    · exact .inr ⟨by rw [← anyN_idx, leI_f, q1]; omega, by rw [hM]; rfl⟩
end Sy
theorem Sy.sp_t (p q : PartV) (h : PartOk p) : CallTo Try.prog 49 [partG p, partG q] M0 fun v _ => v = boo (sameP p q) :=
  toV [c_st p.cls q.cls] [lpSp p q] 400 30 (.br (.auto 4 (.br (.auto 4 (.br (.auto 4 (.br (.auto 3 (.yes (.auto 1 (.br (.auto 6 (.br .done (.br .done .done))) (.auto 7 .done))))) (.auto 14 .done))) (.auto 20 .done))) (.auto 26 .done))) (.auto 32 .done)) (let e1 := (@ByteArray.mk (@Array.mk _ [])); let e2 := (@Value.tuple (@Array.mk _ [])); let e3 := (@AV.view ((p).cls).length 1 (fun y0 => (fun y1 => (@AV.lit ([(@Value.string ((p).cls.getD y0 e1))].getD y1 e2))))); let e4 := (@AV.view ((q).cls).length 1 (fun y0 => (fun y1 => (@AV.lit ([(@Value.string ((q).cls.getD y0 e1))].getD y1 e2))))); let e5 := (eqI ((((p).tests).length : Nat) : Int) ((((q).tests).length : Nat) : Int)); let e6 := (some (@Blk.mk [(int (q).comb), (@AV.lit (@Value.string (q).tag)), (@AV.lit (@Value.string (q).id)), e4, (@AV.view ((q).tests).length 3 (fun y0 => (fun y1 => (@AV.lit ([(@Value.string (((q).tests.getD y0 testNone)).name), (@Value.bool (((q).tests.getD y0 testNone)).equal), (@Value.string (((q).tests.getD y0 testNone)).value)].getD y1 e2))))), (int (q).states)] 55 none)); let e7 := (some (@Blk.mk [(int (p).comb), (@AV.lit (@Value.string (p).tag)), (@AV.lit (@Value.string (p).id)), e3, (@AV.view ((p).tests).length 3 (fun y0 => (fun y1 => (@AV.lit ([(@Value.string (((p).tests.getD y0 testNone)).name), (@Value.bool (((p).tests.getD y0 testNone)).equal), (@Value.string (((p).tests.getD y0 testNone)).value)].getD y1 e2))))), (int (p).states)] 55 none)); (.fork (!(!(eqI (p).comb (q).comb))) (.fork (!(!(@bytesEq (@Array.toList _ (@ByteArray.data (p).tag)) (@Array.toList _ (@ByteArray.data (q).tag))))) (.fork (!(!(@bytesEq (@Array.toList _ (@ByteArray.data (p).id)) (@Array.toList _ (@ByteArray.data (q).id))))) (.fork (!(!(eqI (p).states (q).states))) (.need (@isSo (@And ((@HAppend.hAppend _ _ _ _ (@HAppend.hAppend _ _ _ _ [] [e3, e4]) []) = [e3, e4]) (((p).cls).length ≤ 17592186044416))) (.fork (!(!(@sameS (p).cls (q).cls))) (.fork (!e5) (.leaf (boo false)) (.need (@isSo (@And ((none :: none :: ((some (@AV.ptr 0 0)) :: (some (@AV.ptr (0 + 1) 0)) :: (some (boo false)) :: (some (int (0 : Int))) :: (nn13 (nn48 [])))) = (none :: none :: (some (@AV.ptr 0 0)) :: (some (@AV.ptr 1 0)) :: (some (boo false)) :: (some (int (0 : Int))) :: (nn13 (nn48 [])))) ((@Mem.mk ((0 + 1) + 1) 0 [e6, e7]) = (@Mem.mk 2 0 [e6, e7])))) (.need (@isSo (@And (@And (e5 = true) (((p).tests).length ≤ 17592186044416)) ((0 : Int) = (0 : Int)))) (.fork (@anyN (@diffT (p).tests (q).tests) ((p).tests).length) (.leaf (boo false)) (.leaf (boo true)))))) (.leaf (boo false)))) (.leaf (boo false))) (.leaf (boo false))) (.leaf (boo false))) (.leaf (boo false)))) (by kernel_rfl) (by
    obtain ⟨h1, h2, h3, h4⟩ := h
    unfold sameP sameT
    repeat' (first
      | refine fork_ok (fun _ => ?_) (fun _ => ?_)
      | refine need_so ⟨rfl, h3.1⟩ ?_
      | refine need_so ⟨rfl, rfl⟩ ?_
      | refine need_so ⟨⟨by simp_all, h4.1⟩, rfl⟩ ?_)
    all_goals refine leaf_boo ?_
    all_goals simp only [Bool.not_eq_true', Bool.not_eq_false'] at *
    all_goals simp only [*, Bool.true_and, Bool.false_and, Bool.and_false, Bool.and_true, Bool.not_true, Bool.not_false])
noncomputable abbrev Sy.cSp (p q : PartV) : Con Try.prog := at1 49 [partG p, partG q] (boo (sameP p q)) (PartOk p) fun h => ⟨⟨⟨partG_free p, partG_free q, trivial⟩, trivial⟩, sp_t p q h⟩
namespace Sy
abbrev soF (xs ys : List PartV) (k : Int) : Fr := (none :: none :: some ((@AV.ptr 0 0)) :: some ((@AV.ptr (0 + 1) 0)) :: some ((boo false)) :: some (int k) :: (nn26 []))
abbrev soM (xs ys : List PartV) : Mem := (@Mem.mk ((0 + 1) + 1) 0 [(some (@Blk.mk [(@AV.view (ys).length 6 (@pcell ys))] 43 none)), (some (@Blk.mk [(@AV.view (xs).length 6 (@pcell xs))] 43 none))])
end Sy
def diffP (xs ys : List PartV) (i : Nat) : Bool := !sameP (xs.getD i partNone) (ys.getD i partNone)
def sameL (xs ys : List PartV) : Bool := eqI xs.length ys.length && !anyN (diffP xs ys) xs.length
theorem Sy.so_scan (xs ys : List PartV) (hl : eqI xs.length ys.length = true) (hx : PartsOk xs) : LoopTo Try.prog (theBody Try.prog 29 5) (xs.length + 1) (soF xs ys 0) (soM xs ys) fun ex F' M' => M' = (soM xs ys) ∧ ((0 ≤ idxN (diffP xs ys) xs.length ∧ ex = .ret ∧ F' = soF xs ys (idxN (diffP xs ys) xs.length)) ∨ (idxN (diffP xs ys) xs.length = -1 ∧ ex = .exit 0 ∧ F' = soF xs ys xs.length)) :=
  scanN xs.length (diffP xs ys) (fun k => soF xs ys k) (fun k => soF xs ys k) (soM xs ys) fun k n G h0 h1 c1 c2 c3 => by
    refine roundL [cSp (xs.getD k.toNat partNone) (ys.getD k.toNat partNone)] [] 400 30 29 5 Try.func29 rfl (by kernel_rfl) (false :: false :: true :: true :: true :: true :: (ff26 [])) (.br (.yes (.yes (.yes (.br .done .done)))) .done) (let e1 := (((xs.getD (k).toNat partNone)).cls); let e2 := (@ByteArray.mk (@Array.mk _ [])); let e3 := (@Value.tuple (@Array.mk _ [])); let e4 := (((xs.getD (k).toNat partNone)).tests); let e5 := (@Mem.mk 2 0 [(some (@Blk.mk [(@AV.view (ys).length 6 (@pcell ys))] 43 none)), (some (@Blk.mk [(@AV.view (xs).length 6 (@pcell xs))] 43 none))]); (.fork (!(leI (((xs).length : Nat) : Int) k)) (.need (@inR k (xs).length) (.need (@inR k (ys).length) (.need (@isSo (@And ((@HAppend.hAppend _ _ _ _ (@HAppend.hAppend _ _ _ _ [] [(@AV.agg [(@pcell xs (k).toNat 0), (@pcell xs (k).toNat 1), (@pcell xs (k).toNat 2), (@pcell xs (k).toNat 3), (@pcell xs (k).toNat 4), (@pcell xs (k).toNat 5)]), (@AV.agg [(@pcell ys (k).toNat 0), (@pcell ys (k).toNat 1), (@pcell ys (k).toNat 2), (@pcell ys (k).toNat 3), (@pcell ys (k).toNat 4), (@pcell ys (k).toNat 5)])]) []) = [(@AV.agg [(int ((xs.getD (k).toNat partNone)).comb), (@AV.lit (@Value.string ((xs.getD (k).toNat partNone)).tag)), (@AV.lit (@Value.string ((xs.getD (k).toNat partNone)).id)), (@AV.view e1.length 1 (fun y0 => (fun y1 => (@AV.lit ([(@Value.string (((xs.getD (k).toNat partNone)).cls.getD y0 e2))].getD y1 e3))))), (@AV.view e4.length 3 (fun y0 => (fun y1 => (@AV.lit ([(@Value.string ((((xs.getD (k).toNat partNone)).tests.getD y0 testNone)).name), (@Value.bool ((((xs.getD (k).toNat partNone)).tests.getD y0 testNone)).equal), (@Value.string ((((xs.getD (k).toNat partNone)).tests.getD y0 testNone)).value)].getD y1 e3))))), (int ((xs.getD (k).toNat partNone)).states)]), (@AV.agg [(int ((ys.getD (k).toNat partNone)).comb), (@AV.lit (@Value.string ((ys.getD (k).toNat partNone)).tag)), (@AV.lit (@Value.string ((ys.getD (k).toNat partNone)).id)), (@AV.view (((ys.getD (k).toNat partNone)).cls).length 1 (fun y0 => (fun y1 => (@AV.lit ([(@Value.string (((ys.getD (k).toNat partNone)).cls.getD y0 e2))].getD y1 e3))))), (@AV.view (((ys.getD (k).toNat partNone)).tests).length 3 (fun y0 => (fun y1 => (@AV.lit ([(@Value.string ((((ys.getD (k).toNat partNone)).tests.getD y0 testNone)).name), (@Value.bool ((((ys.getD (k).toNat partNone)).tests.getD y0 testNone)).equal), (@Value.string ((((ys.getD (k).toNat partNone)).tests.getD y0 testNone)).value)].getD y1 e3))))), (int ((ys.getD (k).toNat partNone)).states)])]) (@And ((@ByteArray.size ((xs.getD (k).toNat partNone)).tag) ≤ 9223372036854775807) (@And ((@ByteArray.size ((xs.getD (k).toNat partNone)).id) ≤ 9223372036854775807) (@And (@And (e1.length ≤ 17592186044416) (∀ (s : ByteArray), s ∈ (xs.getD k.toNat partNone).cls → s.size ≤ maxLen)) (@And (e4.length ≤ 17592186044416) (∀ (t : TestV), t ∈ (xs.getD k.toNat partNone).tests → t.Ok))))))) (.fork (!(@sameP (xs.getD (k).toNat partNone) (ys.getD (k).toNat partNone))) (.leaf (Ex.ret, ((none :: none :: (some (@AV.ptr 0 0)) :: (some (@AV.ptr 1 0)) :: (some (boo false)) :: (some (int k)) :: (nn26 [])), e5))) (.leaf (Ex.norm, ((none :: none :: (some (@AV.ptr 0 0)) :: (some (@AV.ptr 1 0)) :: (some (boo false)) :: (some (int (w64 (k + (1 : Int))))) :: (nn26 [])), e5))))))) (.leaf ((@Ex.exit 0), ((none :: none :: (some (@AV.ptr 0 0)) :: (some (@AV.ptr 1 0)) :: (some (boo false)) :: (some (int k)) :: (nn26 [])), e5))))) (by kernel_rfl) ?_
    rw [eqI_t] at hl
    have hm : xs.length ≤ 17592186044416 := hx.1
    refine fork_ok (fun h => ?_) (fun h => ?_)
    · simp only [Bool.not_eq_true', Bool.not_eq_false', leI_t, leI_f, eqI_t, eqI_f, inR_t, inR_f, isSo_t, isSo_f] at h
      have hr : inR k xs.length = true := by rw [inR_t]; omega
      have hr2 : inR k ys.length = true := by rw [inR_t]; omega
      refine need_t hr (need_t hr2 (need_so ⟨rfl, hx.2 _ (getD_mem xs k _ h0 (by omega))⟩ (fork_ok (fun h2 => c2 (by omega) h2) (fun h2 => ?_))))
      rw [w64_in (r := k + 1) (by omega)]
      exact c1 (by omega) h2
    · simp only [Bool.not_eq_true', Bool.not_eq_false', leI_t, leI_f, eqI_t, eqI_f, inR_t, inR_f, isSo_t, isSo_f] at h
      exact c3 (by omega)
namespace Sy
noncomputable abbrev lp_so (xs ys : List PartV) : Lp Try.prog where
  f := 29
  key := 5
  S := formS (fun F M => slotI F 5) (fun k => soF xs ys k) (fun _ => (soM xs ys)) (fun k => (eqI xs.length ys.length = true ∧ PartsOk xs) ∧ k = 0) (fun k => .fork (anyN (diffP xs ys) xs.length) (.leaf (.ret, (none :: none :: some ((@AV.ptr 0 0)) :: some ((@AV.ptr (0 + 1) 0)) :: some ((boo false)) :: (nn27 [])), (soM xs ys))) (.leaf (.exit 0, (none :: none :: some ((@AV.ptr 0 0)) :: some ((@AV.ptr (0 + 1) 0)) :: some ((boo false)) :: (nn27 [])), (soM xs ys)))) (false :: false :: true :: true :: true :: true :: (ff26 []))
  one := by kernel_rfl
  ok := formS_ok fun k ⟨h1, h2⟩ => by
    subst h2
    refine ⟨xs.length + 1, ?_⟩
    refine ((Sy.so_scan xs ys h1.1 h1.2).out (false :: false :: true :: true :: true :: (ff27 []))).mono fun ex F M hg => ?_
    obtain ⟨F0, ⟨hM, hg⟩, rfl⟩ := hg
    rcases hg with ⟨q1, rfl, rfl⟩ | ⟨q1, rfl, rfl⟩
    · exact .inl ⟨by rw [← anyN_idx, leI_t]; exact q1, by rw [hM]; rfl⟩
    · exact .inr ⟨by rw [← anyN_idx, leI_f, q1]; omega, by rw [hM]; rfl⟩
end Sy
theorem Sy.so_t (xs ys : List PartV) (hx : PartsOk xs) : CallTo Try.prog 29 [.agg [pview xs], .agg [pview ys]] M0 fun v _ => v = boo (sameL xs ys) :=
  toV [] [lp_so xs ys] 400 30 (.br .done (.br .done .done)) (let e1 := (eqI (((xs).length : Nat) : Int) (((ys).length : Nat) : Int)); let e2 := (some (@Blk.mk [(@AV.view (ys).length 6 (@pcell ys))] 43 none)); let e3 := (some (@Blk.mk [(@AV.view (xs).length 6 (@pcell xs))] 43 none)); (.fork (!e1) (.leaf (boo false)) (.need (@isSo (@And ((none :: none :: ((some (@AV.ptr 0 0)) :: (some (@AV.ptr (0 + 1) 0)) :: (some (boo false)) :: (some (int (0 : Int))) :: (nn26 []))) = (none :: none :: (some (@AV.ptr 0 0)) :: (some (@AV.ptr 1 0)) :: (some (boo false)) :: (some (int (0 : Int))) :: (nn26 []))) ((@Mem.mk ((0 + 1) + 1) 0 [e2, e3]) = (@Mem.mk 2 0 [e2, e3])))) (.need (@isSo (@And (@And (e1 = true) (@And ((xs).length ≤ 17592186044416) (∀ (p : PartV), p ∈ xs → PartOk p))) ((0 : Int) = (0 : Int)))) (.fork (@anyN (@diffP xs ys) (xs).length) (.leaf (boo false)) (.leaf (boo true))))))) (by kernel_rfl) (by
    unfold sameL
    refine fork_ok (fun h => ?_) (fun h => need_so ⟨rfl, rfl⟩ (need_so ⟨⟨by simpa using h, hx⟩, rfl⟩ (fork_ok (fun h2 => ?_) (fun h2 => ?_))))
    · simp only [Bool.not_eq_true'] at h
      rw [h]; exact rfl
    · rw [h2]; refine leaf_boo ?_; simp
    · rw [h2]; refine leaf_boo ?_; simpa using h)
noncomputable abbrev Sy.c_so (xs ys : List PartV) : Con Try.prog := at1 29 [.agg [pview xs], .agg [pview ys]] (boo (sameL xs ys)) (PartsOk xs) fun h => ⟨⟨⟨⟨pview_free xs, trivial⟩, ⟨pview_free ys, trivial⟩, trivial⟩, trivial⟩, so_t xs ys h⟩
end Go.Proofs.Ytconlneohilnmaa
namespace Go.Proofs.Ytconlneohilnmaa
open Go Go.RowKit Pl Sy
set_option linter.unusedVariables false
set_option linter.unusedSimpArgs false
theorem wrong_no {p : PartV} (h : wrongB p = false) : (0 ≤ p.states ∧ p.states ≤ 7) ∧ (p.cls.length ≤ 8 ∧ p.tests.length ≤ 8) := by
  unfold wrongB at h
  simp only [Bool.or_eq_false_iff, Bool.not_eq_false', leI_t] at h
  omega
theorem right_of {xs : List PartV} (h : rightB xs = true) : (xs.length ≠ 0 ∧ xs.length ≤ 8) ∧ (∀ p ∈ xs, wrongB p = false) ∧ ∀ k, k < xs.length → CombOk k (xs.getD k partNone).comb := by
  unfold rightB at h
  simp only [Bool.and_eq_true, Bool.not_eq_true', eqI_f, leI_t] at h
  obtain ⟨h1, h2, h3, h4⟩ := h
  refine ⟨⟨by omega, by omega⟩, fun p hp => ?_, fun k hk => ?_⟩
  · unfold anyP at h3
    rw [List.any_eq_false] at h3
    simpa using h3 p hp
  · have h5 : combs xs k = false := by
      unfold anyN at h4
      rw [List.any_eq_false] at h4
      simpa using h4 k (List.mem_range.2 hk)
    unfold combs combB at h5
    refine ⟨fun e => ?_, fun e => ?_⟩
    · rw [if_pos (by omega)] at h5
      simp only [Bool.not_eq_false', eqI_t] at h5
      exact h5
    · rw [if_neg (by omega)] at h5
      simp only [Bool.or_eq_false_iff, Bool.not_eq_false', leI_t] at h5
      exact h5
end Go.Proofs.Ytconlneohilnmaa
namespace Go.Proofs.Ytconlneohilnmaa
open Go Go.RowKit Pl Sy
set_option linter.unusedVariables false
set_option linter.unusedSimpArgs false
namespace Sy
abbrev slmF (xs ys : List (List PartV)) (k : Int) : Fr := (some ((@AV.view (xs).length 1 (fun x824286 => (fun x152863 => (@AV.view ((xs.getD x824286 [])).length 6 (@pcell (xs.getD x824286 []))))))) :: some ((@AV.view (ys).length 1 (fun x35083 => (fun x751408 => (@AV.view ((ys.getD x35083 [])).length 6 (@pcell (ys.getD x35083 []))))))) :: none :: none :: some ((boo false)) :: some (int k) :: (nn21 []))
end Sy
def diffQ (xs ys : List (List PartV)) (i : Nat) : Bool := !sameL (xs.getD i []) (ys.getD i [])
theorem Sy.rsl_scan (xs ys : List (List PartV)) (hl : eqI xs.length ys.length = true) (hx : SelsR xs) : LoopTo Try.prog (theBody Try.prog 12 5) (xs.length + 1) (slmF xs ys 0) M0 fun ex F' M' => M' = M0 ∧ ((0 ≤ idxN (diffQ xs ys) xs.length ∧ ex = .ret ∧ F' = slmF xs ys (idxN (diffQ xs ys) xs.length)) ∨ (idxN (diffQ xs ys) xs.length = -1 ∧ ex = .exit 0 ∧ F' = slmF xs ys xs.length)) :=
  scanN xs.length (diffQ xs ys) (fun k => slmF xs ys k) (fun k => slmF xs ys k) M0 fun k n G h0 h1 c1 c2 c3 => by
    refine roundL [c_so (xs.getD k.toNat []) (ys.getD k.toNat [])] [] 400 30 12 5 Try.func12 rfl (by kernel_rfl) (true :: true :: false :: false :: true :: true :: (ff21 [])) (.br (.yes (.yes (.yes (.br .done .done)))) .done) (let e1 := (xs.getD (k).toNat []); let e2 := (@AV.agg [(@AV.view (e1).length 6 (@pcell e1))]); let e3 := (ys.getD (k).toNat []); let e4 := (@AV.agg [(@AV.view (e3).length 6 (@pcell e3))]); let e5 := (some (@AV.view (xs).length 1 (fun y0 => (fun y1 => (@AV.view ((xs.getD y0 [])).length 6 (@pcell (xs.getD y0 []))))))); let e6 := (some (@AV.view (ys).length 1 (fun y0 => (fun y1 => (@AV.view ((ys.getD y0 [])).length 6 (@pcell (ys.getD y0 []))))))); (.fork (!(leI (((xs).length : Nat) : Int) k)) (.need (@inR k (xs).length) (.need (@inR k (ys).length) (.need (@isSo (@And ((@HAppend.hAppend _ _ _ _ (@HAppend.hAppend _ _ _ _ [] [e2, e4]) []) = [e2, e4]) (@And ((e1).length ≤ 17592186044416) (∀ (p : PartV), p ∈ xs.getD k.toNat [] → PartOk p)))) (.fork (!(@sameL e1 e3)) (.leaf (Ex.ret, ((e5 :: e6 :: none :: none :: (some (boo false)) :: (some (int k)) :: (nn21 [])), (@Mem.mk 0 0 [])))) (.leaf (Ex.norm, ((e5 :: e6 :: none :: none :: (some (boo false)) :: (some (int (w64 (k + (1 : Int))))) :: (nn21 [])), (@Mem.mk 0 0 [])))))))) (.leaf ((@Ex.exit 0), ((e5 :: e6 :: none :: none :: (some (boo false)) :: (some (int k)) :: (nn21 [])), (@Mem.mk 0 0 [])))))) (by kernel_rfl) ?_
    rw [eqI_t] at hl
    have hm : xs.length ≤ 17592186044416 := hx.1
    refine fork_ok (fun h => ?_) (fun h => ?_)
    · simp only [Bool.not_eq_true', Bool.not_eq_false', leI_t, leI_f, eqI_t, eqI_f, inR_t, inR_f, isSo_t, isSo_f] at h
      have hr : inR k xs.length = true := by rw [inR_t]; omega
      have hr2 : inR k ys.length = true := by rw [inR_t]; omega
      refine need_t hr (need_t hr2 (need_so ⟨rfl, hx.2 _ (getD_mem xs k _ h0 (by omega))⟩ (fork_ok (fun h2 => c2 (by omega) h2) (fun h2 => ?_))))
      rw [w64_in (r := k + 1) (by omega)]
      exact c1 (by omega) h2
    · simp only [Bool.not_eq_true', Bool.not_eq_false', leI_t, leI_f, eqI_t, eqI_f, inR_t, inR_f, isSo_t, isSo_f] at h
      exact c3 (by omega)
namespace Sy
noncomputable abbrev lp_rsl (xs ys : List (List PartV)) : Lp Try.prog where
  f := 12
  key := 5
  S := formS (fun F M => slotI F 5) (fun k => slmF xs ys k) (fun _ => M0) (fun k => (eqI xs.length ys.length = true ∧ SelsR xs) ∧ k = 0) (fun k => .fork (anyN (diffQ xs ys) xs.length) (.leaf (.ret, (some ((@AV.view (xs).length 1 (fun x824286 => (fun x152863 => (@AV.view ((xs.getD x824286 [])).length 6 (@pcell (xs.getD x824286 []))))))) :: some ((@AV.view (ys).length 1 (fun x35083 => (fun x751408 => (@AV.view ((ys.getD x35083 [])).length 6 (@pcell (ys.getD x35083 []))))))) :: none :: none :: some ((boo false)) :: (nn22 [])), M0)) (.leaf (.exit 0, (some ((@AV.view (xs).length 1 (fun x824286 => (fun x152863 => (@AV.view ((xs.getD x824286 [])).length 6 (@pcell (xs.getD x824286 []))))))) :: some ((@AV.view (ys).length 1 (fun x35083 => (fun x751408 => (@AV.view ((ys.getD x35083 [])).length 6 (@pcell (ys.getD x35083 []))))))) :: none :: none :: some ((boo false)) :: (nn22 [])), M0))) (true :: true :: false :: false :: true :: true :: (ff21 []))
  one := by kernel_rfl
  ok := formS_ok fun k ⟨h1, h2⟩ => by
    subst h2
    refine ⟨xs.length + 1, ?_⟩
    refine ((Sy.rsl_scan xs ys h1.1 h1.2).out (true :: true :: false :: false :: true :: (ff22 []))).mono fun ex F M hg => ?_
    obtain ⟨F0, ⟨hM, hg⟩, rfl⟩ := hg
    rcases hg with ⟨q1, rfl, rfl⟩ | ⟨q1, rfl, rfl⟩
    · exact .inl ⟨by rw [← anyN_idx, leI_t]; exact q1, by rw [hM]; rfl⟩
    · exact .inr ⟨by rw [← anyN_idx, leI_f, q1]; omega, by rw [hM]; rfl⟩
end Sy
theorem Sy.rsl_t (xs ys : List (List PartV)) (hx : SelsR xs) : CallTo Try.prog 12 [sview xs, sview ys] M0 fun v _ => v = boo (eqI xs.length ys.length && !anyN (diffQ xs ys) xs.length) :=
  toV [] [lp_rsl xs ys] 400 30 (.br .done (.br .done .done)) (let e1 := (eqI (((xs).length : Nat) : Int) (((ys).length : Nat) : Int)); let e2 := (some (@AV.view (xs).length 1 (fun y0 => (fun y1 => (@AV.view ((xs.getD y0 [])).length 6 (@pcell (xs.getD y0 []))))))); let e3 := (some (@AV.view (ys).length 1 (fun y0 => (fun y1 => (@AV.view ((ys.getD y0 [])).length 6 (@pcell (ys.getD y0 []))))))); (.fork (!e1) (.leaf (boo false)) (.need (@isSo (@And ((e2 :: e3 :: (none :: none :: (some (boo false)) :: (some (int (0 : Int))) :: (nn21 []))) = (e2 :: e3 :: none :: none :: (some (boo false)) :: (some (int (0 : Int))) :: (nn21 []))) ((@Mem.mk 0 0 []) = M0))) (.need (@isSo (@And (@And (e1 = true) (@SelsR xs)) ((0 : Int) = (0 : Int)))) (.fork (@anyN (@diffQ xs ys) (xs).length) (.leaf (boo false)) (.leaf (boo true))))))) (by kernel_rfl) (by
    refine fork_ok (fun h => ?_) (fun h => need_so ⟨rfl, rfl⟩ (need_so ⟨⟨by simpa using h, hx⟩, rfl⟩ (fork_ok (fun h2 => ?_) (fun h2 => ?_))))
    · simp only [Bool.not_eq_true'] at h
      rw [h]; exact rfl
    · rw [h2]; refine leaf_boo ?_; simp
    · rw [h2]; refine leaf_boo ?_; simpa using h)
namespace Sy
end Sy
namespace Sy
end Sy
def sameQ (xs ys : List (List PartV)) : Bool := eqI xs.length ys.length && !anyN (diffQ xs ys) xs.length
theorem eqI_self (a : Int) : eqI a a = true := by rw [eqI_t]
theorem diff_no {g : Nat → Bool} {n : Nat} (h : ∀ i, g i = false) : anyN g n = false := (anyN_no g n).2 fun k _ => h k
theorem sameS_refl (xs : List ByteArray) : sameS xs xs = true := by
  unfold sameS
  rw [eqI_self, diff_no (fun i => by unfold diffS; rw [bytesEq_eq]; simp)]; rfl
theorem eqT_refl (t : TestV) : eqT t t = true := by unfold eqT; simp [bytesEq_eq]
theorem sameT_refl (xs : List TestV) : sameT xs xs = true := by
  unfold sameT
  rw [eqI_self, diff_no (fun i => by unfold diffT; rw [eqT_refl]; rfl)]; rfl
theorem sameP_refl (p : PartV) : sameP p p = true := by
  unfold sameP
  rw [eqI_self, eqI_self, sameS_refl, sameT_refl, bytesEq_eq, bytesEq_eq]; simp
theorem sameL_refl (xs : List PartV) : sameL xs xs = true := by
  unfold sameL
  rw [eqI_self, diff_no (fun i => by unfold diffP; rw [sameP_refl]; rfl)]; rfl
theorem sameQ_refl (xs : List (List PartV)) : sameQ xs xs = true := by
  unfold sameQ
  rw [eqI_self, diff_no (fun i => by unfold diffQ; rw [sameL_refl]; rfl)]; rfl
end Go.Proofs.Ytconlneohilnmaa
namespace Go.Proofs.Ytconlneohilnmaa
open Go Go.RowKit Pl Sy
set_option linter.unusedVariables false
set_option linter.unusedSimpArgs false
noncomputable abbrev Sy.cCutA : Con Try.prog := atX 13 (fun args => match args with | [.lit (.string s)] => some s | _ => none) (fun s => [.lit (.string s)]) (fun s => kv (cutT s)) (fun s => limT s.size) fun s h => ⟨⟨⟨trivial, trivial⟩, kv_free _⟩, cut_v s h⟩
noncomputable abbrev Sy.cParseG : Con Try.prog := conG 9 (fun L => .tup [sview (parseV L), int (parseE L)]) (fun L => limC L ∧ ToksOk L) fun L h => ⟨⟨sview_free _, trivial, trivial⟩, parse_v L h.1 h.2⟩
noncomputable abbrev Sy.cSameA (xs ys : List (List PartV)) : Con Try.prog := atF 12 (fun _ _ => some ()) (fun _ => [sview xs, sview ys]) (fun _ => boo (sameQ xs ys)) (fun _ => SelsR xs) fun _ h => ⟨trivial, (rsl_t xs ys h).mono fun v M' e => by rw [e]; exact Frz.lit _ _ _ _⟩
noncomputable def joinT (s t : ByteArray) : List TokV := cutT s ++ (tk 12 ⟨#[]⟩ :: cutT t)
noncomputable def bothV (s t : ByteArray) : List (List PartV) := parseV (cutT s) ++ parseV (cutT t)
end Go.Proofs.Ytconlneohilnmaa
namespace Go.Proofs.Ytconlneohilnmaa
open Go Go.RowKit Pl Sy
set_option linter.unusedVariables false
set_option linter.unusedSimpArgs false
theorem getD_pre (pre : List TokV) (t : TokV) (post : List TokV) : (pre ++ t :: post).getD pre.length tok0 = t := by
  rw [List.getD_eq_getElem?_getD, List.getElem?_append_right (Nat.le_refl _), Nat.sub_self]; rfl
end Go.Proofs.Ytconlneohilnmaa
namespace Go.Proofs.Ytconlneohilnmaa
open Go Go.RowKit Pl Sy
set_option linter.unusedVariables false
set_option linter.unusedSimpArgs false
theorem kinds_get {l : List TokV} {k : Nat} (h : k < l.length) (h' : k < (kindsT l).length) : (kindsT l)[k] = (l.getD k tok0).kind := by
  have e : (kindsT l)[k]? = some (l.getD k tok0).kind := by
    unfold kindsT
    rw [List.getElem?_map, List.getD_eq_getElem?_getD, List.getElem?_eq_getElem h]; rfl
  rw [List.getElem?_eq_getElem h'] at e
  exact Option.some.inj e
theorem mt_plain {l : List TokV} {k : Nat} (h : k < l.length) (hc : clo (l.getD k tok0).kind = 0) : mt l k = k := by
  have hl : k < (kindsT l).length := by unfold kindsT; rw [List.length_map]; exact h
  unfold mt mtc
  rw [dif_pos ⟨by omega, by omega⟩]
  simp only [Int.toNat_natCast]
  rw [kinds_get h hl, if_pos hc]
  exact Int.toNat_natCast k
theorem runs_to {l : List TokV} (c : Int) : ∀ (n k : Nat), k + n < l.length → (∀ j, j < n → clo (l.getD (k + j) tok0).kind = 0 ∧ (l.getD (k + j) tok0).kind ≠ c) → (l.getD (k + n) tok0).kind = c → clo c = 0 → runs (kindsT l) k [c] = k + n
  | 0, k, h, _, hc, h0 => by
    have hl : k < (kindsT l).length := by unfold kindsT; rw [List.length_map]; exact h
    rw [Nat.add_zero] at hc
    rw [runs_step _ hl, kinds_get (by omega) hl, hc, if_neg (by simp [h0])]
    simp
  | n + 1, k, h, hj, hc, h0 => by
    have hk : k < l.length := by omega
    have hl : k < (kindsT l).length := by unfold kindsT; rw [List.length_map]; exact hk
    obtain ⟨q1, q2⟩ := hj 0 (by omega)
    rw [Nat.add_zero] at q1 q2
    rw [runs_step _ hl, kinds_get hk hl, if_neg (by rw [q1]; simp)]
    show (if (l.getD k tok0).kind = c then _ else _) = _
    rw [if_neg q2]
    rw [runs_to c n (k + 1) (by omega) (fun j hj' => by rw [show k + 1 + j = k + (j + 1) by omega]; exact hj (j + 1) (by omega)) (by rw [show k + 1 + n = k + (n + 1) by omega]; exact hc) h0]
    omega
def Hop (p : TokV → Bool) (X : List TokV) : Prop := ∀ pre post, tops p (pre ++ (X ++ post)) pre.length = tops p (pre ++ (X ++ post)) (pre.length + X.length)
theorem Hop.nil (p : TokV → Bool) : Hop p [] := fun pre post => rfl
theorem Hop.app {p : TokV → Bool} {X Y : List TokV} (h : Hop p X) (h' : Hop p Y) : Hop p (X ++ Y) := fun pre post => by
  have h1 := h pre (Y ++ post)
  have h2 := h' (pre ++ X) post
  rw [show pre ++ (X ++ (Y ++ post)) = pre ++ (X ++ Y ++ post) by simp] at h1
  rw [show pre ++ X ++ (Y ++ post) = pre ++ (X ++ Y ++ post) by simp, List.length_append] at h2
  rw [h1, h2, List.length_append]
  congr 1
  omega
theorem Hop.one {p : TokV → Bool} {t : TokV} (hc : clo t.kind = 0) (hp : p t = false) : Hop p [t] := fun pre post => by
  have e : (pre ++ ([t] ++ post)).getD pre.length tok0 = t := getD_pre pre t post
  have hlt : pre.length < (pre ++ ([t] ++ post)).length := by simp
  rw [tops_step, if_pos ⟨hlt, by unfold tokAt; rw [e]; exact hp⟩]
  unfold nxt
  rw [mt_plain hlt (by rw [e]; exact hc)]
  congr 1
  simp only [List.length_append, List.length_cons, List.length_nil]
  omega
theorem Hop.group {p : TokV → Bool} {t u : TokV} {X : List TokV} (hp : p t = false) (hc : clo t.kind = u.kind) (h0 : clo u.kind = 0) (hu : u.kind ≠ 0) (hX : ∀ x ∈ X, clo x.kind = 0 ∧ x.kind ≠ u.kind) : Hop p (t :: (X ++ [u])) := fun pre post => by
  generalize hl : pre ++ (t :: (X ++ [u]) ++ post) = l
  have e : l.getD pre.length tok0 = t := by rw [← hl]; exact getD_pre pre t _
  have hlen : l.length = pre.length + (X.length + 2) + post.length := by rw [← hl]; simp only [List.length_append, List.length_cons, List.length_nil]; omega
  have hlt : pre.length < l.length := by omega
  have hk : pre.length < (kindsT l).length := by unfold kindsT; rw [List.length_map]; exact hlt
  have eu : l.getD (pre.length + 1 + X.length) tok0 = u := by
    have := getD_pre (pre ++ t :: X) u post
    rw [show (pre ++ t :: X).length = pre.length + 1 + X.length by simp only [List.length_append, List.length_cons]; omega] at this
    rw [show pre ++ (t :: (X ++ [u]) ++ post) = pre ++ t :: X ++ u :: post by simp] at hl
    rw [← hl]
    exact this
  have ex : ∀ j, j < X.length → clo (l.getD (pre.length + 1 + j) tok0).kind = 0 ∧ (l.getD (pre.length + 1 + j) tok0).kind ≠ u.kind := fun j hj => by
    have e2 : l.getD (pre.length + 1 + j) tok0 = X[j] := by
      rw [← hl, List.getD_eq_getElem?_getD, List.getElem?_append_right (by omega), show pre.length + 1 + j - pre.length = j + 1 by omega]
      simp [List.getElem?_append, hj]
    rw [e2]
    exact hX _ (List.getElem_mem _)
  have em : mt l pre.length = pre.length + 1 + X.length := by
    unfold mt mtc
    rw [dif_pos ⟨by omega, by omega⟩]
    simp only [Int.toNat_natCast]
    rw [kinds_get hlt hk, e, hc, if_neg hu, runs_to u.kind X.length (pre.length + 1) (by omega) ex (by rw [eu]) h0]
    omega
  rw [tops_step, if_pos ⟨hlt, by unfold tokAt; rw [e]; exact hp⟩]
  unfold nxt
  rw [em]
  congr 1
  simp only [List.length_append, List.length_cons, List.length_nil]
  omega
end Go.Proofs.Ytconlneohilnmaa
namespace Go.Proofs.Ytconlneohilnmaa
open Go Go.RowKit Pl Sy
set_option linter.unusedVariables false
set_option linter.unusedSimpArgs false
theorem tops_stop {X Y : List TokV} {c : TokV} (hc : comB c = true) (h : Hop comB X) : tops comB (X ++ c :: Y) 0 = X.length := by
  have e := h [] (c :: Y)
  simp only [List.nil_append, List.length_nil, Nat.zero_add] at e
  rw [e, tops_step, if_neg (fun ⟨_, hh⟩ => by
    unfold tokAt at hh
    rw [getD_pre X c Y, hc] at hh
    cases hh)]
theorem tops_all {X : List TokV} (h : Hop comB X) : tops comB X 0 = X.length := by
  have e := h [] []
  simp only [List.nil_append, List.append_nil, List.length_nil, Nat.zero_add] at e
  rw [e, tops_step, if_neg (fun ⟨hh, _⟩ => absurd hh (by omega))]
theorem pieces_one {X : List TokV} (h : Hop comB X) : pieces comB X = [X] := by
  rw [pieces_step, tops_all h, if_pos rfl, List.take_length]
theorem pieces_cut {X Y : List TokV} {c : TokV} (hc : comB c = true) (h : Hop comB X) : pieces comB (X ++ c :: Y) = X :: pieces comB Y := by
  rw [pieces_step, tops_stop hc h, if_neg (by simp)]
  rw [List.take_left, show X ++ c :: Y = (X ++ [c]) ++ Y by simp, show X.length + 1 = (X ++ [c]).length by simp, List.drop_left]
inductive Cls : List TokV → Prop
  | nil : Cls []
  | tok (t : TokV) (l : List TokV) : clo t.kind = 0 → Cls l → Cls (t :: l)
  | grp (t u : TokV) (X l : List TokV) : t.kind = 15 → u.kind = 16 → (∀ x ∈ X, clo x.kind = 0 ∧ x.kind ≠ u.kind) → Cls l → Cls (t :: (X ++ u :: l))
theorem pieces_join {x : List TokV} (h : Cls x) {c : TokV} (hc : comB c = true) (y : List TokV) : ∀ pre, Hop comB pre → pieces comB (pre ++ (x ++ c :: y)) = pieces comB (pre ++ x) ++ pieces comB y := by
  induction h with
  | nil =>
    intro pre hp
    rw [List.nil_append, List.append_nil, pieces_cut hc hp, pieces_one hp]
    rfl
  | tok t l ht hl ih =>
    intro pre hp
    cases hb : comB t with
    | false =>
      have := ih (pre ++ [t]) (hp.app (Hop.one ht hb))
      simp only [List.append_assoc, List.cons_append, List.nil_append] at this ⊢
      exact this
    | true =>
      have := ih [] (Hop.nil _)
      rw [List.nil_append, List.nil_append] at this
      rw [List.cons_append, pieces_cut hb hp, pieces_cut hb hp, this]
      rfl
  | grp t u X l ht hu hX hl ih =>
    intro pre hp
    have hg : Hop comB (t :: (X ++ [u])) := Hop.group (by unfold comB; rw [eqI_f, ht]; decide) (by rw [ht, hu]; decide) (by rw [hu]; decide) (by rw [hu]; decide) hX
    have := ih (pre ++ (t :: (X ++ [u]))) (hp.app hg)
    simp only [List.append_assoc, List.cons_append, List.nil_append] at this ⊢
    exact this
theorem brP_at (L : List TokV) : ∀ (n k : Nat), L.length - k ≤ n → k ≤ brP L k ∧ (brP L k < L.length → brB (L.getD (brP L k) tok0) = true) ∧ ∀ j, k ≤ j → j < brP L k → brB (L.getD j tok0) = false
  | 0, k, h => by
    have e : brP L k = k := by rw [brP_step, if_neg (fun x => by omega)]
    rw [e]
    exact ⟨Nat.le_refl _, fun hl => by omega, fun j h1 h2 => by omega⟩
  | n + 1, k, h => by
    by_cases q : k < L.length ∧ brB (L.getD k tok0) = false
    · have e : brP L k = brP L (k + 1) := by rw [brP_step, if_pos q]
      obtain ⟨h1, h2, h3⟩ := brP_at L n (k + 1) (by omega)
      rw [e]
      refine ⟨by omega, h2, fun j q1 q2 => ?_⟩
      rcases Nat.eq_or_lt_of_le q1 with rfl | q1
      · exact q.2
      · exact h3 j q1 q2
    · have e : brP L k = k := by rw [brP_step, if_neg q]
      rw [e]
      refine ⟨Nat.le_refl _, fun hl => ?_, fun j h1 h2 => by omega⟩
      cases hb : brB (L.getD k tok0) with
      | true => rfl
      | false => exact absurd ⟨hl, hb⟩ q
theorem clo_none {k : Int} (h1 : k ≠ 13) (h2 : k ≠ 2) (h3 : k ≠ 15) (h4 : k ≠ 17) : clo k = 0 := by
  unfold clo
  rw [if_neg (by omega), if_neg h3, if_neg h4]
theorem closed_cls : ∀ (n : Nat) (l : List TokV), l.length ≤ n → (∀ k, k < l.length → badAt l k = false) → Cls l
  | _, [], _, _ => Cls.nil
  | 0, t :: l, h, _ => by simp at h
  | n + 1, t :: l, h, hb => by
    simp only [List.length_cons] at h
    have drops : ∀ m, m ≤ (t :: l).length → ∀ k, k < ((t :: l).drop m).length → badAt ((t :: l).drop m) k = false := fun m hm k hk => by
      rw [List.length_drop] at hk
      have := hb (m + k) (by omega)
      unfold badAt at this ⊢
      rw [List.drop_drop]
      have e : ((t :: l).drop m).getD k tok0 = (t :: l).getD (m + k) tok0 := by
        simp only [List.getD_eq_getElem?_getD, List.getElem?_drop]
      rw [e]
      exact this
    have h0 := hb 0 (by simp)
    unfold badAt at h0
    simp only [List.getD_cons_zero, List.drop_zero, Bool.or_eq_false_iff, Bool.and_eq_false_imp, eqI_f, Bool.not_eq_false'] at h0
    obtain ⟨k1, k2, k3, k4⟩ := h0
    by_cases h15 : t.kind = 15
    · have hs := k4 (by rw [eqI_t]; exact h15)
      unfold shutB at hs
      rw [Bool.and_eq_true, Bool.not_eq_true', Bool.not_eq_true', leI_f, eqI_f] at hs
      obtain ⟨hp, hk⟩ := hs
      obtain ⟨a1, a2, a3⟩ := brP_at (t :: l) _ 1 (Nat.le_refl _)
      generalize hpp : brP (t :: l) 1 = p at *
      have hp : p < (t :: l).length := by omega
      have hbr := a2 hp
      unfold brB at hbr
      rw [Bool.or_eq_true, eqI_t, eqI_t] at hbr
      have hu : ((t :: l).getD p tok0).kind = 16 := by omega
      obtain ⟨q, rfl⟩ : ∃ q, p = q + 1 := ⟨p - 1, by omega⟩
      have hq : q < l.length := by simpa using hp
      have eu : (t :: l).getD (q + 1) tok0 = l[q] := by rw [List.getD_cons_succ, List.getD_eq_getElem?_getD, List.getElem?_eq_getElem hq]; rfl
      rw [eu] at hu
      have el : l = l.take q ++ l[q] :: l.drop (q + 1) := by rw [← List.drop_eq_getElem_cons hq, List.take_append_drop]
      have hd := drops (q + 2) (by simp only [List.length_cons]; omega)
      have ed : (t :: l).drop (q + 2) = l.drop (q + 1) := rfl
      rw [ed] at hd
      have hrest := closed_cls n (l.drop (q + 1)) (by rw [List.length_drop]; omega) hd
      have hX : ∀ x ∈ l.take q, clo x.kind = 0 ∧ x.kind ≠ l[q].kind := fun x hx => by
        obtain ⟨i, hi, rfl⟩ := List.getElem_of_mem hx
        rw [List.length_take] at hi
        have e : (l.take q)[i]'(by rw [List.length_take]; exact hi) = (t :: l).getD (i + 1) tok0 := by
          rw [List.getElem_take, List.getD_cons_succ, List.getD_eq_getElem?_getD, List.getElem?_eq_getElem (by omega)]; rfl
        have hbi := a3 (i + 1) (by omega) (by omega)
        have hbd := hb (i + 1) (by simp only [List.length_cons]; omega)
        rw [e]
        unfold badAt at hbd
        generalize (t :: l).getD (i + 1) tok0 = x at *
        unfold brB at hbi
        rw [Bool.or_eq_false_iff, eqI_f, eqI_f] at hbi
        rw [Bool.or_eq_false_iff, Bool.or_eq_false_iff, Bool.or_eq_false_iff, eqI_f, eqI_f, eqI_f] at hbd
        exact ⟨clo_none hbd.1 hbd.2.1 hbi.1 hbd.2.2.1, by rw [hu]; exact hbi.2⟩
      have := Cls.grp t l[q] (l.take q) (l.drop (q + 1)) h15 hu hX hrest
      rw [← el] at this
      exact this
    · refine Cls.tok t l (clo_none k1 k2 h15 k3) (closed_cls n l (by omega) (fun k hk => ?_))
      exact drops 1 (by simp) k hk
theorem closedB_cls {l : List TokV} (h : closedB l = true) : Cls l := by
  unfold closedB at h
  rw [Bool.not_eq_true'] at h
  exact closed_cls _ l (Nat.le_refl _) ((anyN_no _ _).1 h)
theorem comma_b : comB (tk 12 ⟨#[]⟩) = true := by unfold comB; rw [eqI_t]; rfl
theorem pieces_two {x : List TokV} (h : closedB x = true) (y : List TokV) : pieces comB (x ++ tk 12 ⟨#[]⟩ :: y) = pieces comB x ++ pieces comB y := by
  have := pieces_join (closedB_cls h) comma_b y [] (Hop.nil _)
  rw [List.nil_append, List.nil_append] at this
  exact this
end Go.Proofs.Ytconlneohilnmaa
namespace Go.Proofs.Ytconlneohilnmaa
open Go Go.RowKit Pl Sy
set_option linter.unusedVariables false
set_option linter.unusedSimpArgs false
theorem mark_comb (T : List TokV) (a : Int) (p : PartV) : (markV T a p).2.1.comb = p.comb := by
  unfold markV
  repeat' split
  all_goals rfl
theorem marks_right (T : List TokV) (f0 : Int) : ∀ (n : Nat) (a : Int) (p : PartV), (marksV T f0 n a p).2.2 = true → wrongB (marksV T f0 n a p).1 = false ∧ (marksV T f0 n a p).1.comb = p.comb
  | 0, a, p, h => by cases h
  | n + 1, a, p, h => by
    have hc := mark_comb T a p
    have e : marksV T f0 (n + 1) a p = match (markV T a p).1 with
      | 2 => marksV T f0 n (markV T a p).2.2 (markV T a p).2.1
      | 1 => ((markV T a p).2.1, (markV T a p).2.2, !leI (markV T a p).2.2 f0 && !wrongB (markV T a p).2.1)
      | _ => ((markV T a p).2.1, (markV T a p).2.2, false) := rfl
    rw [e] at h ⊢
    generalize (markV T a p) = x at *
    obtain ⟨k, q, b⟩ := x
    simp only at hc h ⊢
    split at h
    · have := marks_right T f0 n b q h
      exact ⟨this.1, this.2.trans hc⟩
    · simp only [Bool.and_eq_true, Bool.not_eq_true'] at h
      exact ⟨h.2, hc⟩
    · cases h
theorem rprt_right (T : List TokV) (a c : Int) (h : (rprtV T a c).2.2 = true) : wrongB (rprtV T a c).1 = false ∧ (rprtV T a c).1.comb = c := by
  unfold rprtV at h ⊢
  split at h
  · rename_i q
    rw [if_pos q]
    exact marks_right T _ _ _ _ h
  · rename_i q
    rw [if_neg q]
    exact marks_right T _ _ _ _ h
theorem cmb_in (T : List TokV) (a : Int) : 0 ≤ cmbI T a ∧ cmbI T a ≤ 4 := by
  unfold cmbI
  repeat' split
  all_goals omega
theorem sels_right (T : List TokV) : ∀ (n : Nat) (a : Int) (ok : Bool) (ps : List PartV) (p : PartV), (ok = true → wrongB p = false) → (selsV T n a ok ps p).ret = true → (selsV T n a ok ps p).r = true →
    (selsV T n a ok ps p).ps.length ≤ 8 ∧ ∃ rest, (selsV T n a ok ps p).ps = ps ++ p :: rest ∧ wrongB p = false ∧ ∀ q ∈ rest, wrongB q = false ∧ 1 ≤ q.comb ∧ q.comb ≤ 4
  | 0, a, ok, ps, p, hw, h1, h2 => by cases h1
  | n + 1, a, ok, ps, p, hw, h1, h2 => by
    have e : selsV T (n + 1) a ok ps p = if ok = true then
      if eqI a T.length = true then ⟨true, leI (ps.length + 1 : Nat) 8, ok, ps ++ [p], p, a⟩
      else if eqI (cmbI T a) 0 = true then ⟨true, false, ok, ps ++ [p], p, cmbA T a⟩
      else selsV T n (rprtV T (cmbA T a) (cmbI T a)).2.1 (rprtV T (cmbA T a) (cmbI T a)).2.2 (ps ++ [p]) (rprtV T (cmbA T a) (cmbI T a)).1
    else ⟨false, false, ok, ps, p, a⟩ := rfl
    rw [e] at h1 h2 ⊢
    by_cases hk : ok = true
    · rw [if_pos hk] at h1 h2 ⊢
      by_cases ha : eqI a T.length = true
      · rw [if_pos ha] at h1 h2 ⊢
        have h2 : leI (ps.length + 1 : Nat) 8 = true := h2
        rw [leI_t] at h2
        refine ⟨?_, [], rfl, hw hk, fun q hq => by cases hq⟩
        show (ps ++ [p]).length ≤ 8
        simp only [List.length_append, List.length_cons, List.length_nil]
        omega
      · rw [if_neg ha] at h1 h2 ⊢
        by_cases hc : eqI (cmbI T a) 0 = true
        · rw [if_pos hc] at h2
          cases h2
        · rw [if_neg hc] at h1 h2 ⊢
          have hr := rprt_right T (cmbA T a) (cmbI T a)
          have hi := cmb_in T a
          generalize rprtV T (cmbA T a) (cmbI T a) = x at *
          obtain ⟨q, b, o⟩ := x
          simp only at hr h1 h2 ⊢
          obtain ⟨k1, rest, k2, k3, k4⟩ := sels_right T n b o (ps ++ [p]) q (fun ho => (hr ho).1) h1 h2
          refine ⟨k1, q :: rest, by rw [k2]; simp, hw hk, fun y hy => ?_⟩
          rcases List.mem_cons.1 hy with rfl | hy
          · have hcq : y.comb = cmbI T a := by
              cases ho : o with
              | true => exact (hr ho).2
              | false =>
                exfalso
                rw [ho] at h1
                cases n with
                | zero => cases h1
                | succ n => cases h1
            rw [Bool.not_eq_true, eqI_f] at hc
            exact ⟨k3, by omega, by omega⟩
          · exact k4 y hy
    · rw [if_neg hk] at h1
      cases h1
theorem rsel_right (T : List TokV) (h1 : (rselV T 0).ret = true) (h2 : (rselV T 0).r = true) : rightB (rselV T 0).ps = true := by
  unfold rselV at h1 h2 ⊢
  have hr := rprt_right T 0 0
  generalize rprtV T 0 0 = x at *
  obtain ⟨p, b, o⟩ := x
  simp only at hr h1 h2 ⊢
  have ho : o = true := by
    cases o with
    | true => rfl
    | false => cases h1
  obtain ⟨k1, rest, k2, k3, k4⟩ := sels_right T _ b o [] p (fun ho => (hr ho).1) h1 h2
  rw [List.nil_append] at k2
  rw [k2] at k1 ⊢
  unfold rightB
  rw [Bool.and_eq_true, Bool.and_eq_true, Bool.and_eq_true, Bool.not_eq_true', Bool.not_eq_true', Bool.not_eq_true', eqI_f, leI_t]
  refine ⟨by simp only [List.length_cons]; omega, by omega, ?_, ?_⟩
  · unfold anyP
    rw [List.any_eq_false]
    intro q hq
    rcases List.mem_cons.1 hq with rfl | hq
    · rw [k3]; simp
    · rw [(k4 q hq).1]; simp
  · unfold anyN
    rw [List.any_eq_false]
    intro k hk
    rw [List.mem_range] at hk
    unfold combs combB
    cases k with
    | zero =>
      rw [if_pos rfl]
      show ¬ (!eqI p.comb 0) = true
      rw [(hr ho).2]
      decide
    | succ k =>
      rw [if_neg (by omega)]
      have hm : (p :: rest).getD (k + 1) partNone ∈ rest := by
        have hk' : k < rest.length := by simpa using hk
        rw [List.getD_cons_succ, List.getD_eq_getElem?_getD, List.getElem?_eq_getElem hk']
        exact List.getElem_mem hk'
      obtain ⟨_, c1, c2⟩ := k4 _ hm
      rw [Bool.or_eq_true, Bool.not_eq_true', Bool.not_eq_true', leI_f, leI_f]
      omega
theorem name_size {s : ByteArray} (h : nameL s.data.toList = true) : s.size ≤ 32 := by
  unfold nameL at h
  simp only [Bool.and_eq_true, decide_eq_true_eq] at h
  have : s.data.toList.length = s.size := by simp
  omega
theorem text_size {s : ByteArray} (h : textL s.data.toList = true) : s.size ≤ 256 := by
  unfold textL at h
  simp only [Bool.and_eq_true, decide_eq_true_eq] at h
  have : s.data.toList.length = s.size := by simp
  omega
theorem partOk_of {p : PartV} (h : wrongB p = false) : PartOk p := by
  have hm : 256 ≤ maxLen := by decide
  have hw := wrong_no h
  unfold wrongB at h
  simp only [Bool.or_eq_false_iff, Bool.and_eq_false_imp, Bool.not_eq_true', Bool.not_eq_false'] at h
  obtain ⟨h1, h2, _, _, _, _, h3, h4⟩ := h
  have nm : ∀ s : ByteArray, (bytesEq s.data.toList [] = false → lacksB s = false) → s.size ≤ maxLen := fun s hs => by
    cases hb : bytesEq s.data.toList [] with
    | true =>
      rw [bytesEq_eq, decide_eq_true_eq] at hb
      have : s.data.toList.length = s.size := by simp
      rw [hb] at this
      simp at this
      omega
    | false =>
      have := hs hb
      unfold lacksB at this
      rw [Bool.not_eq_false'] at this
      have := name_size this
      omega
  refine ⟨nm _ h1, nm _ h2, ⟨by omega, fun s hs => ?_⟩, ⟨by omega, fun t ht => ?_⟩⟩
  · unfold anyS at h3
    rw [List.any_eq_false] at h3
    have := h3 s hs
    unfold lacksB at this
    rw [Bool.not_eq_true, Bool.not_eq_false'] at this
    have := name_size this
    omega
  · unfold anyT at h4
    rw [List.any_eq_false] at h4
    have := h4 t ht
    unfold oddB at this
    rw [Bool.not_eq_true, Bool.or_eq_false_iff, Bool.or_eq_false_iff, Bool.not_eq_false', Bool.not_eq_false'] at this
    have k1 := name_size this.1.1
    have k2 := text_size this.1.2
    exact ⟨by omega, by omega⟩
theorem partsOk_of {ps : List PartV} (h : rightB ps = true) : PartsOk ps := by
  obtain ⟨⟨_, r1⟩, r2, _⟩ := right_of h
  exact ⟨by omega, fun p hp => partOk_of (r2 p hp)⟩
theorem parse_right (l : List TokV) : ∀ ps ∈ parseV l, rightB ps = true := fun ps hp => by
  unfold parseV at hp
  split at hp
  · rename_i h
    rw [List.all_eq_true] at h
    obtain ⟨x, hx, rfl⟩ := List.mem_map.1 hp
    have := h x hx
    unfold selOk at this
    rw [Bool.and_eq_true] at this
    exact rsel_right _ this.1 this.2
  · cases hp
theorem parse_num (l : List TokV) : (parseV l).length ≤ l.length + 1 := by
  have := pieces_num comB _ l (Nat.le_refl _)
  unfold parseV
  split
  · rw [List.length_map]; omega
  · simp
theorem parse_selsR {l : List TokV} (h : limC l) : SelsR (parseV l) := by
  have := parse_num l
  unfold limC at h
  exact ⟨by omega, fun ps hp => partsOk_of (parse_right l ps hp)⟩
end Go.Proofs.Ytconlneohilnmaa
namespace Go.Proofs.Ytconlneohilnmaa
open Go Go.RowKit Pl Sy
set_option linter.unusedVariables false
set_option linter.unusedSimpArgs false
theorem toks_kv (l : List TokV) : toksOf l.length (fun i j => AV.lit ([Value.int IntKind.i64 (l.getD i tok0).kind, Value.string (l.getD i tok0).text, Value.int IntKind.i64 (l.getD i tok0).n].getD j (Value.tuple ⟨[]⟩))) = l := toksOf_is (CellIs.kc l)
theorem join_is (x y : List TokV) {X : Nat → Nat → AV} (hX : ∀ i j, i < 1 → j < 3 → X i j = kcell [tk 12 ⟨#[]⟩] i j) : CellIs (x.length + 1 + y.length) (appc (x.length + 1) (appc x.length (kcell x) X) (kcell y)) (x ++ (tk 12 ⟨#[]⟩ :: y)) :=
  CellIs.cast (CellIs.app2 (CellIs.app3 (X := [tk 12 ⟨#[]⟩]) (CellIs.kc x) rfl hX) rfl) (by simp)
theorem toks_join (x y : List TokV) (X : Nat → Nat → AV) (hX : ∀ i j, i < 1 → j < 3 → X i j = kcell [tk 12 ⟨#[]⟩] i j) : toksOf (x.length + 1 + y.length) (appc (x.length + 1) (appc x.length (fun i j => AV.lit ([Value.int IntKind.i64 (x.getD i tok0).kind, Value.string (x.getD i tok0).text, Value.int IntKind.i64 (x.getD i tok0).n].getD j (Value.tuple ⟨[]⟩))) X) (fun i j => AV.lit ([Value.int IntKind.i64 (y.getD i tok0).kind, Value.string (y.getD i tok0).text, Value.int IntKind.i64 (y.getD i tok0).n].getD j (Value.tuple ⟨[]⟩)))) = x ++ (tk 12 ⟨#[]⟩ :: y) := toksOf_is (join_is x y hX)
theorem parse_join {x : List TokV} (h : closedB x = true) (y : List TokV) : (parseE x = 0 → parseE y = 0 → parseE (x ++ tk 12 ⟨#[]⟩ :: y) = 0 ∧ parseV (x ++ tk 12 ⟨#[]⟩ :: y) = parseV x ++ parseV y) ∧ (parseE x ≠ 0 ∨ parseE y ≠ 0 → parseE (x ++ tk 12 ⟨#[]⟩ :: y) = 20) := by
  have hp := pieces_two h y
  unfold parseE parseV
  rw [hp, List.all_append]
  cases hx : (pieces comB x).all selOk <;> cases hy : (pieces comB y).all selOk <;> simp
theorem both_conv {M : Mem} {b e : Nat} (X Y : List (List PartV)) (hb : M.get b = some ⟨[], e, some ⟨X.length + Y.length, 1, appc X.length (sscell X) (sscell Y)⟩⟩) : Conv1 M (.own b (X.length + Y.length) 1) (sview (X ++ Y)) := by
  have e1 : sview (X ++ Y) = .view (X.length + Y.length) 1 (sscell (X ++ Y)) := by
    show AV.view (X ++ Y).length 1 _ = _
    rw [List.length_append]
  rw [e1]
  have hc : ∀ i j, appc X.length (sscell X) (sscell Y) i j = sscell (X ++ Y) i j := fun i j => by
    by_cases h : i < X.length
    · rw [appc_lt h]
      unfold sscell
      simp only [List.getD_eq_getElem?_getD]
      rw [List.getElem?_append_left h]
    · rw [appc_ge (by omega)]
      unfold sscell
      simp only [List.getD_eq_getElem?_getD]
      rw [List.getElem?_append_right (by omega)]
  exact Conv1.own hb rfl (Nat.le_refl _) rfl fun i j hi hj => ⟨by show Free (appc X.length (sscell X) (sscell Y) i j); rw [hc]; exact pview_free _, hc i j⟩
theorem Sy.lis_t (s t : ByteArray) : CallTo Try.prog 5 [.lit (.string s), .lit (.string t)] M0 fun v _ => v = boo true :=
  toV [cKnown07, cCutA, cClo (cutT s), cParseG, cSameA (parseV (joinT s t)) (bothV s t)] [] 400 30 (.br (.auto 2 (.br (.yes .done) (.yes (.yes (.yes (.br (.yes .done) (.yes (.yes (.yes (.yes (.yes (.yes (.br (.auto 1 (.br (.br (.yes (.auto 0 .done)) (.auto 0 .done)) (.yes (.yes (.br (.auto 1 (.yes (.auto 0 (.br (.yes (.auto 0 .done)) (.auto 0 .done))))) (.auto 4 .done)))))) (.auto 2 (.br (.yes (.auto 0 .done)) (.auto 0 .done)))))))))))))))) (.auto 3 (.yes .done))) (.fork (!(!(leI (((@ByteArray.size s) : Nat) : Int) (500 : Int)))) (.fork (!(leI (((@ByteArray.size t) : Nat) : Int) (500 : Int))) (.need (@isSo (@And ((@HAppend.hAppend _ _ _ _ (@HAppend.hAppend _ _ _ _ ([] : List AV) ([] : List AV)) []) = []) True)) (.leaf (boo true))) (.need (@isSo (@And ((@HAppend.hAppend _ _ _ _ (@HAppend.hAppend _ _ _ _ [] [(@AV.lit (@Value.string s))]) []) = [(@AV.lit (@Value.string s))]) ((@ByteArray.size s) ≤ 1000000))) (.need (@isSo (@And ((@HAppend.hAppend _ _ _ _ (@HAppend.hAppend _ _ _ _ [] [(@AV.lit (@Value.string t))]) []) = [(@AV.lit (@Value.string t))]) ((@ByteArray.size t) ≤ 1000000))) (.need (@isSo (@And ((@HAppend.hAppend _ _ _ _ (@HAppend.hAppend _ _ _ _ [] [(@AV.view ((@cutT s)).length 3 (fun x357203 => (fun x594751 => (@AV.lit ([(@Value.int IntKind.i64 (((@cutT s).getD x357203 tok0)).kind), (@Value.string (((@cutT s).getD x357203 tok0)).text), (@Value.int IntKind.i64 (((@cutT s).getD x357203 tok0)).n)].getD x594751 (@Value.tuple (@Array.mk _ [])))))))]) []) = [(@AV.view ((@cutT s)).length 3 (fun x669350 => (fun x900570 => (@AV.lit ([(@Value.int IntKind.i64 (((@cutT s).getD x669350 tok0)).kind), (@Value.string (((@cutT s).getD x669350 tok0)).text), (@Value.int IntKind.i64 (((@cutT s).getD x669350 tok0)).n)].getD x900570 (@Value.tuple (@Array.mk _ [])))))))]) (@lim (@cutT s)))) (.fork (!(@closedB (@cutT s))) (.need (@isSo (@And ((@HAppend.hAppend _ _ _ _ (@HAppend.hAppend _ _ _ _ ([] : List AV) ([] : List AV)) []) = []) True)) (.leaf (boo true))) (.need (Bool.true && ((@Nat.ble (((@cutT s)).length * 32) 140737488355328) && (@Nat.ble ((@cutT s)).length 17592186044416))) (.need (Bool.true && ((@Nat.ble ((@cutT s)).length ((@cutT s)).length) && ((@Nat.ble ((((@cutT s)).length + 1) * 32) 140737488355328) && (@Nat.ble (((@cutT s)).length + 1) 17592186044416)))) (.need (Bool.true && ((@Nat.ble (((@cutT s)).length + 1) (((@cutT s)).length + 1)) && ((@Nat.ble (((((@cutT s)).length + 1) + ((@cutT t)).length) * 32) 140737488355328) && (@Nat.ble ((((@cutT s)).length + 1) + ((@cutT t)).length) 17592186044416)))) (.need (@isSo (@And (((@cutT s)).length ≤ ((@cutT s)).length) (@And (@TokRows ((@cutT s)).length (fun x406585 => (fun x407044 => (@AV.lit ([(@Value.int IntKind.i64 (((@cutT s).getD x406585 tok0)).kind), (@Value.string (((@cutT s).getD x406585 tok0)).text), (@Value.int IntKind.i64 (((@cutT s).getD x406585 tok0)).n)].getD x407044 (@Value.tuple (@Array.mk _ []))))))) (@And (((@toksOf ((@cutT s)).length (fun x39132 => (fun x725195 => (@AV.lit ([(@Value.int IntKind.i64 (((@cutT s).getD x39132 tok0)).kind), (@Value.string (((@cutT s).getD x39132 tok0)).text), (@Value.int IntKind.i64 (((@cutT s).getD x39132 tok0)).n)].getD x725195 (@Value.tuple (@Array.mk _ [])))))))).length ≤ 100000) (@ToksOk (@toksOf ((@cutT s)).length (fun x416074 => (fun x810334 => (@AV.lit ([(@Value.int IntKind.i64 (((@cutT s).getD x416074 tok0)).kind), (@Value.string (((@cutT s).getD x416074 tok0)).text), (@Value.int IntKind.i64 (((@cutT s).getD x416074 tok0)).n)].getD x810334 (@Value.tuple (@Array.mk _ [])))))))))))) (.need (@isSo (@And (((@cutT t)).length ≤ ((@cutT t)).length) (@And (@TokRows ((@cutT t)).length (fun x673909 => (fun x121837 => (@AV.lit ([(@Value.int IntKind.i64 (((@cutT t).getD x673909 tok0)).kind), (@Value.string (((@cutT t).getD x673909 tok0)).text), (@Value.int IntKind.i64 (((@cutT t).getD x673909 tok0)).n)].getD x121837 (@Value.tuple (@Array.mk _ []))))))) (@And (((@toksOf ((@cutT t)).length (fun x788304 => (fun x570695 => (@AV.lit ([(@Value.int IntKind.i64 (((@cutT t).getD x788304 tok0)).kind), (@Value.string (((@cutT t).getD x788304 tok0)).text), (@Value.int IntKind.i64 (((@cutT t).getD x788304 tok0)).n)].getD x570695 (@Value.tuple (@Array.mk _ [])))))))).length ≤ 100000) (@ToksOk (@toksOf ((@cutT t)).length (fun x999299 => (fun x790946 => (@AV.lit ([(@Value.int IntKind.i64 (((@cutT t).getD x999299 tok0)).kind), (@Value.string (((@cutT t).getD x999299 tok0)).text), (@Value.int IntKind.i64 (((@cutT t).getD x999299 tok0)).n)].getD x790946 (@Value.tuple (@Array.mk _ [])))))))))))) (.need (@isSo (@And (((((@cutT s)).length + 1) + ((@cutT t)).length) ≤ ((((@cutT s)).length + 1) + ((@cutT t)).length)) (@And (@TokRows ((((@cutT s)).length + 1) + ((@cutT t)).length) (@appc (((@cutT s)).length + 1) (@appc ((@cutT s)).length (fun x56358 => (fun x523793 => (@AV.lit ([(@Value.int IntKind.i64 (((@cutT s).getD x56358 tok0)).kind), (@Value.string (((@cutT s).getD x56358 tok0)).text), (@Value.int IntKind.i64 (((@cutT s).getD x56358 tok0)).n)].getD x523793 (@Value.tuple (@Array.mk _ [])))))) (fun x12052 => (fun x529044 => (@getA (@List.take _ 3 ((int (12 : Int)) :: (@AV.lit (@Value.string (@ByteArray.mk (@Array.mk _ [])))) :: (int (0 : Int)) :: (@List.drop _ (0 + (((int (12 : Int)) :: (@List.drop _ 1 (@List.map _ _ AV.lit (@Array.toList _ (@Array.mk _ [(@Value.int IntKind.i64 (0 : Int)), (@Value.string (@ByteArray.mk (@Array.mk _ []))), (@Value.int IntKind.i64 (0 : Int))])))))).length) (@List.map _ _ AV.lit (@Array.toList _ (@Array.mk _ [(@List.get _ (@Array.toList _ (@Array.mk _ [(@Value.int IntKind.i64 (0 : Int)), (@Value.string (@ByteArray.mk (@Array.mk _ []))), (@Value.int IntKind.i64 (0 : Int))])) (@Fin.mk _ 0 (@Nat.le_of_ble_eq_true _ _ (@Eq.refl _ true)))), (@List.get _ (@Array.toList _ (@Array.mk _ [(@Value.int IntKind.i64 (0 : Int)), (@Value.string (@ByteArray.mk (@Array.mk _ []))), (@Value.int IntKind.i64 (0 : Int))])) (@Fin.mk _ 1 (@Nat.le_of_ble_eq_true _ _ (@Eq.refl _ true)))), (@List.get _ (@Array.toList _ (@Array.mk _ [(@Value.int IntKind.i64 (0 : Int)), (@Value.string (@ByteArray.mk (@Array.mk _ []))), (@Value.int IntKind.i64 (0 : Int))])) (@Fin.mk _ 2 (@Nat.le_of_ble_eq_true _ _ (@Eq.refl _ true))))])))))) ((x12052 * 3) + x529044))))) (fun x87975 => (fun x50662 => (@AV.lit ([(@Value.int IntKind.i64 (((@cutT t).getD x87975 tok0)).kind), (@Value.string (((@cutT t).getD x87975 tok0)).text), (@Value.int IntKind.i64 (((@cutT t).getD x87975 tok0)).n)].getD x50662 (@Value.tuple (@Array.mk _ [])))))))) (@And (((@toksOf ((((@cutT s)).length + 1) + ((@cutT t)).length) (@appc (((@cutT s)).length + 1) (@appc ((@cutT s)).length (fun x496642 => (fun x280101 => (@AV.lit ([(@Value.int IntKind.i64 (((@cutT s).getD x496642 tok0)).kind), (@Value.string (((@cutT s).getD x496642 tok0)).text), (@Value.int IntKind.i64 (((@cutT s).getD x496642 tok0)).n)].getD x280101 (@Value.tuple (@Array.mk _ [])))))) (fun x138845 => (fun x741360 => (@getA (@List.take _ 3 ((int (12 : Int)) :: (@AV.lit (@Value.string (@ByteArray.mk (@Array.mk _ [])))) :: (int (0 : Int)) :: (@List.drop _ (0 + (((int (12 : Int)) :: (@List.drop _ 1 (@List.map _ _ AV.lit (@Array.toList _ (@Array.mk _ [(@Value.int IntKind.i64 (0 : Int)), (@Value.string (@ByteArray.mk (@Array.mk _ []))), (@Value.int IntKind.i64 (0 : Int))])))))).length) (@List.map _ _ AV.lit (@Array.toList _ (@Array.mk _ [(@List.get _ (@Array.toList _ (@Array.mk _ [(@Value.int IntKind.i64 (0 : Int)), (@Value.string (@ByteArray.mk (@Array.mk _ []))), (@Value.int IntKind.i64 (0 : Int))])) (@Fin.mk _ 0 (@Nat.le_of_ble_eq_true _ _ (@Eq.refl _ true)))), (@List.get _ (@Array.toList _ (@Array.mk _ [(@Value.int IntKind.i64 (0 : Int)), (@Value.string (@ByteArray.mk (@Array.mk _ []))), (@Value.int IntKind.i64 (0 : Int))])) (@Fin.mk _ 1 (@Nat.le_of_ble_eq_true _ _ (@Eq.refl _ true)))), (@List.get _ (@Array.toList _ (@Array.mk _ [(@Value.int IntKind.i64 (0 : Int)), (@Value.string (@ByteArray.mk (@Array.mk _ []))), (@Value.int IntKind.i64 (0 : Int))])) (@Fin.mk _ 2 (@Nat.le_of_ble_eq_true _ _ (@Eq.refl _ true))))])))))) ((x138845 * 3) + x741360))))) (fun x906955 => (fun x716127 => (@AV.lit ([(@Value.int IntKind.i64 (((@cutT t).getD x906955 tok0)).kind), (@Value.string (((@cutT t).getD x906955 tok0)).text), (@Value.int IntKind.i64 (((@cutT t).getD x906955 tok0)).n)].getD x716127 (@Value.tuple (@Array.mk _ []))))))))).length ≤ 100000) (@ToksOk (@toksOf ((((@cutT s)).length + 1) + ((@cutT t)).length) (@appc (((@cutT s)).length + 1) (@appc ((@cutT s)).length (fun x959070 => (fun x953417 => (@AV.lit ([(@Value.int IntKind.i64 (((@cutT s).getD x959070 tok0)).kind), (@Value.string (((@cutT s).getD x959070 tok0)).text), (@Value.int IntKind.i64 (((@cutT s).getD x959070 tok0)).n)].getD x953417 (@Value.tuple (@Array.mk _ [])))))) (fun x541121 => (fun x382940 => (@getA (@List.take _ 3 ((int (12 : Int)) :: (@AV.lit (@Value.string (@ByteArray.mk (@Array.mk _ [])))) :: (int (0 : Int)) :: (@List.drop _ (0 + (((int (12 : Int)) :: (@List.drop _ 1 (@List.map _ _ AV.lit (@Array.toList _ (@Array.mk _ [(@Value.int IntKind.i64 (0 : Int)), (@Value.string (@ByteArray.mk (@Array.mk _ []))), (@Value.int IntKind.i64 (0 : Int))])))))).length) (@List.map _ _ AV.lit (@Array.toList _ (@Array.mk _ [(@List.get _ (@Array.toList _ (@Array.mk _ [(@Value.int IntKind.i64 (0 : Int)), (@Value.string (@ByteArray.mk (@Array.mk _ []))), (@Value.int IntKind.i64 (0 : Int))])) (@Fin.mk _ 0 (@Nat.le_of_ble_eq_true _ _ (@Eq.refl _ true)))), (@List.get _ (@Array.toList _ (@Array.mk _ [(@Value.int IntKind.i64 (0 : Int)), (@Value.string (@ByteArray.mk (@Array.mk _ []))), (@Value.int IntKind.i64 (0 : Int))])) (@Fin.mk _ 1 (@Nat.le_of_ble_eq_true _ _ (@Eq.refl _ true)))), (@List.get _ (@Array.toList _ (@Array.mk _ [(@Value.int IntKind.i64 (0 : Int)), (@Value.string (@ByteArray.mk (@Array.mk _ []))), (@Value.int IntKind.i64 (0 : Int))])) (@Fin.mk _ 2 (@Nat.le_of_ble_eq_true _ _ (@Eq.refl _ true))))])))))) ((x541121 * 3) + x382940))))) (fun x796964 => (fun x4803 => (@AV.lit ([(@Value.int IntKind.i64 (((@cutT t).getD x796964 tok0)).kind), (@Value.string (((@cutT t).getD x796964 tok0)).text), (@Value.int IntKind.i64 (((@cutT t).getD x796964 tok0)).n)].getD x4803 (@Value.tuple (@Array.mk _ []))))))))))))) (.fork (!(!(eqI (@parseE (@toksOf ((@cutT s)).length (fun x670394 => (fun x328678 => (@AV.lit ([(@Value.int IntKind.i64 (((@cutT s).getD x670394 tok0)).kind), (@Value.string (((@cutT s).getD x670394 tok0)).text), (@Value.int IntKind.i64 (((@cutT s).getD x670394 tok0)).n)].getD x328678 (@Value.tuple (@Array.mk _ [])))))))) (0 : Int)))) (.fork (!(eqI (@parseE (@toksOf ((@cutT t)).length (fun x354617 => (fun x453881 => (@AV.lit ([(@Value.int IntKind.i64 (((@cutT t).getD x354617 tok0)).kind), (@Value.string (((@cutT t).getD x354617 tok0)).text), (@Value.int IntKind.i64 (((@cutT t).getD x354617 tok0)).n)].getD x453881 (@Value.tuple (@Array.mk _ [])))))))) (0 : Int))) (.fork (eqI (@parseE (@toksOf ((((@cutT s)).length + 1) + ((@cutT t)).length) (@appc (((@cutT s)).length + 1) (@appc ((@cutT s)).length (fun x15338 => (fun x108414 => (@AV.lit ([(@Value.int IntKind.i64 (((@cutT s).getD x15338 tok0)).kind), (@Value.string (((@cutT s).getD x15338 tok0)).text), (@Value.int IntKind.i64 (((@cutT s).getD x15338 tok0)).n)].getD x108414 (@Value.tuple (@Array.mk _ [])))))) (fun x717013 => (fun x194968 => (@getA (@List.take _ 3 ((int (12 : Int)) :: (@AV.lit (@Value.string (@ByteArray.mk (@Array.mk _ [])))) :: (int (0 : Int)) :: (@List.drop _ (0 + (((int (12 : Int)) :: (@List.drop _ 1 (@List.map _ _ AV.lit (@Array.toList _ (@Array.mk _ [(@Value.int IntKind.i64 (0 : Int)), (@Value.string (@ByteArray.mk (@Array.mk _ []))), (@Value.int IntKind.i64 (0 : Int))])))))).length) (@List.map _ _ AV.lit (@Array.toList _ (@Array.mk _ [(@List.get _ (@Array.toList _ (@Array.mk _ [(@Value.int IntKind.i64 (0 : Int)), (@Value.string (@ByteArray.mk (@Array.mk _ []))), (@Value.int IntKind.i64 (0 : Int))])) (@Fin.mk _ 0 (@Nat.le_of_ble_eq_true _ _ (@Eq.refl _ true)))), (@List.get _ (@Array.toList _ (@Array.mk _ [(@Value.int IntKind.i64 (0 : Int)), (@Value.string (@ByteArray.mk (@Array.mk _ []))), (@Value.int IntKind.i64 (0 : Int))])) (@Fin.mk _ 1 (@Nat.le_of_ble_eq_true _ _ (@Eq.refl _ true)))), (@List.get _ (@Array.toList _ (@Array.mk _ [(@Value.int IntKind.i64 (0 : Int)), (@Value.string (@ByteArray.mk (@Array.mk _ []))), (@Value.int IntKind.i64 (0 : Int))])) (@Fin.mk _ 2 (@Nat.le_of_ble_eq_true _ _ (@Eq.refl _ true))))])))))) ((x717013 * 3) + x194968))))) (fun x40336 => (fun x284519 => (@AV.lit ([(@Value.int IntKind.i64 (((@cutT t).getD x40336 tok0)).kind), (@Value.string (((@cutT t).getD x40336 tok0)).text), (@Value.int IntKind.i64 (((@cutT t).getD x40336 tok0)).n)].getD x284519 (@Value.tuple (@Array.mk _ []))))))))) (20 : Int)) (.need (@isSo (@And ((@HAppend.hAppend _ _ _ _ (@HAppend.hAppend _ _ _ _ ([] : List AV) ([] : List AV)) []) = []) True)) (.leaf (boo true))) (.leaf (boo false))) (.need (Bool.true && ((@Nat.ble (((@parseV (@toksOf ((@cutT s)).length (fun x353836 => (fun x252940 => (@AV.lit ([(@Value.int IntKind.i64 (((@cutT s).getD x353836 tok0)).kind), (@Value.string (((@cutT s).getD x353836 tok0)).text), (@Value.int IntKind.i64 (((@cutT s).getD x353836 tok0)).n)].getD x252940 (@Value.tuple (@Array.mk _ []))))))))).length * 24) 140737488355328) && (@Nat.ble ((@parseV (@toksOf ((@cutT s)).length (fun x611847 => (fun x835998 => (@AV.lit ([(@Value.int IntKind.i64 (((@cutT s).getD x611847 tok0)).kind), (@Value.string (((@cutT s).getD x611847 tok0)).text), (@Value.int IntKind.i64 (((@cutT s).getD x611847 tok0)).n)].getD x835998 (@Value.tuple (@Array.mk _ []))))))))).length 17592186044416))) (.need (Bool.true && ((@Nat.ble ((@parseV (@toksOf ((@cutT s)).length (fun x682658 => (fun x202293 => (@AV.lit ([(@Value.int IntKind.i64 (((@cutT s).getD x682658 tok0)).kind), (@Value.string (((@cutT s).getD x682658 tok0)).text), (@Value.int IntKind.i64 (((@cutT s).getD x682658 tok0)).n)].getD x202293 (@Value.tuple (@Array.mk _ []))))))))).length ((@parseV (@toksOf ((@cutT s)).length (fun x526728 => (fun x61328 => (@AV.lit ([(@Value.int IntKind.i64 (((@cutT s).getD x526728 tok0)).kind), (@Value.string (((@cutT s).getD x526728 tok0)).text), (@Value.int IntKind.i64 (((@cutT s).getD x526728 tok0)).n)].getD x61328 (@Value.tuple (@Array.mk _ []))))))))).length) && ((@Nat.ble ((((@parseV (@toksOf ((@cutT s)).length (fun x173059 => (fun x814735 => (@AV.lit ([(@Value.int IntKind.i64 (((@cutT s).getD x173059 tok0)).kind), (@Value.string (((@cutT s).getD x173059 tok0)).text), (@Value.int IntKind.i64 (((@cutT s).getD x173059 tok0)).n)].getD x814735 (@Value.tuple (@Array.mk _ []))))))))).length + ((@parseV (@toksOf ((@cutT t)).length (fun x51174 => (fun x713921 => (@AV.lit ([(@Value.int IntKind.i64 (((@cutT t).getD x51174 tok0)).kind), (@Value.string (((@cutT t).getD x51174 tok0)).text), (@Value.int IntKind.i64 (((@cutT t).getD x51174 tok0)).n)].getD x713921 (@Value.tuple (@Array.mk _ []))))))))).length) * 24) 140737488355328) && (@Nat.ble (((@parseV (@toksOf ((@cutT s)).length (fun x850857 => (fun x278804 => (@AV.lit ([(@Value.int IntKind.i64 (((@cutT s).getD x850857 tok0)).kind), (@Value.string (((@cutT s).getD x850857 tok0)).text), (@Value.int IntKind.i64 (((@cutT s).getD x850857 tok0)).n)].getD x278804 (@Value.tuple (@Array.mk _ []))))))))).length + ((@parseV (@toksOf ((@cutT t)).length (fun x593596 => (fun x21579 => (@AV.lit ([(@Value.int IntKind.i64 (((@cutT t).getD x593596 tok0)).kind), (@Value.string (((@cutT t).getD x593596 tok0)).text), (@Value.int IntKind.i64 (((@cutT t).getD x593596 tok0)).n)].getD x21579 (@Value.tuple (@Array.mk _ []))))))))).length) 17592186044416)))) (.fork (eqI (@parseE (@toksOf ((((@cutT s)).length + 1) + ((@cutT t)).length) (@appc (((@cutT s)).length + 1) (@appc ((@cutT s)).length (fun x741338 => (fun x75150 => (@AV.lit ([(@Value.int IntKind.i64 (((@cutT s).getD x741338 tok0)).kind), (@Value.string (((@cutT s).getD x741338 tok0)).text), (@Value.int IntKind.i64 (((@cutT s).getD x741338 tok0)).n)].getD x75150 (@Value.tuple (@Array.mk _ [])))))) (fun x967653 => (fun x441048 => (@getA (@List.take _ 3 ((int (12 : Int)) :: (@AV.lit (@Value.string (@ByteArray.mk (@Array.mk _ [])))) :: (int (0 : Int)) :: (@List.drop _ (0 + (((int (12 : Int)) :: (@List.drop _ 1 (@List.map _ _ AV.lit (@Array.toList _ (@Array.mk _ [(@Value.int IntKind.i64 (0 : Int)), (@Value.string (@ByteArray.mk (@Array.mk _ []))), (@Value.int IntKind.i64 (0 : Int))])))))).length) (@List.map _ _ AV.lit (@Array.toList _ (@Array.mk _ [(@List.get _ (@Array.toList _ (@Array.mk _ [(@Value.int IntKind.i64 (0 : Int)), (@Value.string (@ByteArray.mk (@Array.mk _ []))), (@Value.int IntKind.i64 (0 : Int))])) (@Fin.mk _ 0 (@Nat.le_of_ble_eq_true _ _ (@Eq.refl _ true)))), (@List.get _ (@Array.toList _ (@Array.mk _ [(@Value.int IntKind.i64 (0 : Int)), (@Value.string (@ByteArray.mk (@Array.mk _ []))), (@Value.int IntKind.i64 (0 : Int))])) (@Fin.mk _ 1 (@Nat.le_of_ble_eq_true _ _ (@Eq.refl _ true)))), (@List.get _ (@Array.toList _ (@Array.mk _ [(@Value.int IntKind.i64 (0 : Int)), (@Value.string (@ByteArray.mk (@Array.mk _ []))), (@Value.int IntKind.i64 (0 : Int))])) (@Fin.mk _ 2 (@Nat.le_of_ble_eq_true _ _ (@Eq.refl _ true))))])))))) ((x967653 * 3) + x441048))))) (fun x837792 => (fun x968199 => (@AV.lit ([(@Value.int IntKind.i64 (((@cutT t).getD x837792 tok0)).kind), (@Value.string (((@cutT t).getD x837792 tok0)).text), (@Value.int IntKind.i64 (((@cutT t).getD x837792 tok0)).n)].getD x968199 (@Value.tuple (@Array.mk _ []))))))))) (0 : Int)) (.need (@isSo (@And (@Conv (@Mem.mk ((((((0 + 1) + 1) + 1) + 1) + 1) + 1) ((((0 + 1) + 1) + 1) + 1) ((some (@Blk.mk [] 43 (some (@Rw.mk (((@parseV (@toksOf ((@cutT s)).length (fun x956659 => (fun x614050 => (@AV.lit ([(@Value.int IntKind.i64 (((@cutT s).getD x956659 tok0)).kind), (@Value.string (((@cutT s).getD x956659 tok0)).text), (@Value.int IntKind.i64 (((@cutT s).getD x956659 tok0)).n)].getD x614050 (@Value.tuple (@Array.mk _ []))))))))).length + ((@parseV (@toksOf ((@cutT t)).length (fun x424113 => (fun x503153 => (@AV.lit ([(@Value.int IntKind.i64 (((@cutT t).getD x424113 tok0)).kind), (@Value.string (((@cutT t).getD x424113 tok0)).text), (@Value.int IntKind.i64 (((@cutT t).getD x424113 tok0)).n)].getD x503153 (@Value.tuple (@Array.mk _ []))))))))).length) 1 (@appc ((@parseV (@toksOf ((@cutT s)).length (fun x602020 => (fun x787716 => (@AV.lit ([(@Value.int IntKind.i64 (((@cutT s).getD x602020 tok0)).kind), (@Value.string (((@cutT s).getD x602020 tok0)).text), (@Value.int IntKind.i64 (((@cutT s).getD x602020 tok0)).n)].getD x787716 (@Value.tuple (@Array.mk _ []))))))))).length (fun x496231 => (fun x472166 => (@AV.view (((@parseV (@toksOf ((@cutT s)).length (fun x70210 => (fun x946837 => (@AV.lit ([(@Value.int IntKind.i64 (((@cutT s).getD x70210 tok0)).kind), (@Value.string (((@cutT s).getD x70210 tok0)).text), (@Value.int IntKind.i64 (((@cutT s).getD x70210 tok0)).n)].getD x946837 (@Value.tuple (@Array.mk _ [])))))))).getD x496231 [])).length 6 (@pcell ((@parseV (@toksOf ((@cutT s)).length (fun x519080 => (fun x277888 => (@AV.lit ([(@Value.int IntKind.i64 (((@cutT s).getD x519080 tok0)).kind), (@Value.string (((@cutT s).getD x519080 tok0)).text), (@Value.int IntKind.i64 (((@cutT s).getD x519080 tok0)).n)].getD x277888 (@Value.tuple (@Array.mk _ [])))))))).getD x496231 []))))) (fun x389643 => (fun x578479 => (@AV.view (((@parseV (@toksOf ((@cutT t)).length (fun x678638 => (fun x499961 => (@AV.lit ([(@Value.int IntKind.i64 (((@cutT t).getD x678638 tok0)).kind), (@Value.string (((@cutT t).getD x678638 tok0)).text), (@Value.int IntKind.i64 (((@cutT t).getD x678638 tok0)).n)].getD x499961 (@Value.tuple (@Array.mk _ [])))))))).getD x389643 [])).length 6 (@pcell ((@parseV (@toksOf ((@cutT t)).length (fun x970369 => (fun x591644 => (@AV.lit ([(@Value.int IntKind.i64 (((@cutT t).getD x970369 tok0)).kind), (@Value.string (((@cutT t).getD x970369 tok0)).text), (@Value.int IntKind.i64 (((@cutT t).getD x970369 tok0)).n)].getD x591644 (@Value.tuple (@Array.mk _ [])))))))).getD x389643 [])))))))))) :: (none :: (none :: (none :: [(some (@Blk.mk ((int (12 : Int)) :: (@AV.lit (@Value.string (@ByteArray.mk (@Array.mk _ [])))) :: (int (0 : Int)) :: (@List.drop _ (0 + (((int (12 : Int)) :: (@List.drop _ 1 (@List.map _ _ AV.lit (@Array.toList _ (@Array.mk _ [(@Value.int IntKind.i64 (0 : Int)), (@Value.string (@ByteArray.mk (@Array.mk _ []))), (@Value.int IntKind.i64 (0 : Int))])))))).length) (@List.map _ _ AV.lit (@Array.toList _ (@Array.mk _ [(@List.get _ (@Array.toList _ (@Array.mk _ [(@Value.int IntKind.i64 (0 : Int)), (@Value.string (@ByteArray.mk (@Array.mk _ []))), (@Value.int IntKind.i64 (0 : Int))])) (@Fin.mk _ 0 (@Nat.le_of_ble_eq_true _ _ (@Eq.refl _ true)))), (@List.get _ (@Array.toList _ (@Array.mk _ [(@Value.int IntKind.i64 (0 : Int)), (@Value.string (@ByteArray.mk (@Array.mk _ []))), (@Value.int IntKind.i64 (0 : Int))])) (@Fin.mk _ 1 (@Nat.le_of_ble_eq_true _ _ (@Eq.refl _ true)))), (@List.get _ (@Array.toList _ (@Array.mk _ [(@Value.int IntKind.i64 (0 : Int)), (@Value.string (@ByteArray.mk (@Array.mk _ []))), (@Value.int IntKind.i64 (0 : Int))])) (@Fin.mk _ 2 (@Nat.le_of_ble_eq_true _ _ (@Eq.refl _ true))))]))))) 39 none)), none]))))) (@HAppend.hAppend _ _ _ _ (@HAppend.hAppend _ _ _ _ [] [(@AV.view ((@parseV (@toksOf ((((@cutT s)).length + 1) + ((@cutT t)).length) (@appc (((@cutT s)).length + 1) (@appc ((@cutT s)).length (fun x120159 => (fun x35763 => (@AV.lit ([(@Value.int IntKind.i64 (((@cutT s).getD x120159 tok0)).kind), (@Value.string (((@cutT s).getD x120159 tok0)).text), (@Value.int IntKind.i64 (((@cutT s).getD x120159 tok0)).n)].getD x35763 (@Value.tuple (@Array.mk _ [])))))) (fun x378954 => (fun x639046 => (@getA (@List.take _ 3 ((int (12 : Int)) :: (@AV.lit (@Value.string (@ByteArray.mk (@Array.mk _ [])))) :: (int (0 : Int)) :: (@List.drop _ (0 + (((int (12 : Int)) :: (@List.drop _ 1 (@List.map _ _ AV.lit (@Array.toList _ (@Array.mk _ [(@Value.int IntKind.i64 (0 : Int)), (@Value.string (@ByteArray.mk (@Array.mk _ []))), (@Value.int IntKind.i64 (0 : Int))])))))).length) (@List.map _ _ AV.lit (@Array.toList _ (@Array.mk _ [(@List.get _ (@Array.toList _ (@Array.mk _ [(@Value.int IntKind.i64 (0 : Int)), (@Value.string (@ByteArray.mk (@Array.mk _ []))), (@Value.int IntKind.i64 (0 : Int))])) (@Fin.mk _ 0 (@Nat.le_of_ble_eq_true _ _ (@Eq.refl _ true)))), (@List.get _ (@Array.toList _ (@Array.mk _ [(@Value.int IntKind.i64 (0 : Int)), (@Value.string (@ByteArray.mk (@Array.mk _ []))), (@Value.int IntKind.i64 (0 : Int))])) (@Fin.mk _ 1 (@Nat.le_of_ble_eq_true _ _ (@Eq.refl _ true)))), (@List.get _ (@Array.toList _ (@Array.mk _ [(@Value.int IntKind.i64 (0 : Int)), (@Value.string (@ByteArray.mk (@Array.mk _ []))), (@Value.int IntKind.i64 (0 : Int))])) (@Fin.mk _ 2 (@Nat.le_of_ble_eq_true _ _ (@Eq.refl _ true))))])))))) ((x378954 * 3) + x639046))))) (fun x367813 => (fun x309048 => (@AV.lit ([(@Value.int IntKind.i64 (((@cutT t).getD x367813 tok0)).kind), (@Value.string (((@cutT t).getD x367813 tok0)).text), (@Value.int IntKind.i64 (((@cutT t).getD x367813 tok0)).n)].getD x309048 (@Value.tuple (@Array.mk _ [])))))))))).length 1 (fun x782000 => (fun x323175 => (@AV.view (((@parseV (@toksOf ((((@cutT s)).length + 1) + ((@cutT t)).length) (@appc (((@cutT s)).length + 1) (@appc ((@cutT s)).length (fun x845003 => (fun x345602 => (@AV.lit ([(@Value.int IntKind.i64 (((@cutT s).getD x845003 tok0)).kind), (@Value.string (((@cutT s).getD x845003 tok0)).text), (@Value.int IntKind.i64 (((@cutT s).getD x845003 tok0)).n)].getD x345602 (@Value.tuple (@Array.mk _ [])))))) (fun x893673 => (fun x686057 => (@getA (@List.take _ 3 ((int (12 : Int)) :: (@AV.lit (@Value.string (@ByteArray.mk (@Array.mk _ [])))) :: (int (0 : Int)) :: (@List.drop _ (0 + (((int (12 : Int)) :: (@List.drop _ 1 (@List.map _ _ AV.lit (@Array.toList _ (@Array.mk _ [(@Value.int IntKind.i64 (0 : Int)), (@Value.string (@ByteArray.mk (@Array.mk _ []))), (@Value.int IntKind.i64 (0 : Int))])))))).length) (@List.map _ _ AV.lit (@Array.toList _ (@Array.mk _ [(@List.get _ (@Array.toList _ (@Array.mk _ [(@Value.int IntKind.i64 (0 : Int)), (@Value.string (@ByteArray.mk (@Array.mk _ []))), (@Value.int IntKind.i64 (0 : Int))])) (@Fin.mk _ 0 (@Nat.le_of_ble_eq_true _ _ (@Eq.refl _ true)))), (@List.get _ (@Array.toList _ (@Array.mk _ [(@Value.int IntKind.i64 (0 : Int)), (@Value.string (@ByteArray.mk (@Array.mk _ []))), (@Value.int IntKind.i64 (0 : Int))])) (@Fin.mk _ 1 (@Nat.le_of_ble_eq_true _ _ (@Eq.refl _ true)))), (@List.get _ (@Array.toList _ (@Array.mk _ [(@Value.int IntKind.i64 (0 : Int)), (@Value.string (@ByteArray.mk (@Array.mk _ []))), (@Value.int IntKind.i64 (0 : Int))])) (@Fin.mk _ 2 (@Nat.le_of_ble_eq_true _ _ (@Eq.refl _ true))))])))))) ((x893673 * 3) + x686057))))) (fun x407852 => (fun x793867 => (@AV.lit ([(@Value.int IntKind.i64 (((@cutT t).getD x407852 tok0)).kind), (@Value.string (((@cutT t).getD x407852 tok0)).text), (@Value.int IntKind.i64 (((@cutT t).getD x407852 tok0)).n)].getD x793867 (@Value.tuple (@Array.mk _ []))))))))).getD x782000 [])).length 6 (@pcell ((@parseV (@toksOf ((((@cutT s)).length + 1) + ((@cutT t)).length) (@appc (((@cutT s)).length + 1) (@appc ((@cutT s)).length (fun x211815 => (fun x514862 => (@AV.lit ([(@Value.int IntKind.i64 (((@cutT s).getD x211815 tok0)).kind), (@Value.string (((@cutT s).getD x211815 tok0)).text), (@Value.int IntKind.i64 (((@cutT s).getD x211815 tok0)).n)].getD x514862 (@Value.tuple (@Array.mk _ [])))))) (fun x825378 => (fun x182085 => (@getA (@List.take _ 3 ((int (12 : Int)) :: (@AV.lit (@Value.string (@ByteArray.mk (@Array.mk _ [])))) :: (int (0 : Int)) :: (@List.drop _ (0 + (((int (12 : Int)) :: (@List.drop _ 1 (@List.map _ _ AV.lit (@Array.toList _ (@Array.mk _ [(@Value.int IntKind.i64 (0 : Int)), (@Value.string (@ByteArray.mk (@Array.mk _ []))), (@Value.int IntKind.i64 (0 : Int))])))))).length) (@List.map _ _ AV.lit (@Array.toList _ (@Array.mk _ [(@List.get _ (@Array.toList _ (@Array.mk _ [(@Value.int IntKind.i64 (0 : Int)), (@Value.string (@ByteArray.mk (@Array.mk _ []))), (@Value.int IntKind.i64 (0 : Int))])) (@Fin.mk _ 0 (@Nat.le_of_ble_eq_true _ _ (@Eq.refl _ true)))), (@List.get _ (@Array.toList _ (@Array.mk _ [(@Value.int IntKind.i64 (0 : Int)), (@Value.string (@ByteArray.mk (@Array.mk _ []))), (@Value.int IntKind.i64 (0 : Int))])) (@Fin.mk _ 1 (@Nat.le_of_ble_eq_true _ _ (@Eq.refl _ true)))), (@List.get _ (@Array.toList _ (@Array.mk _ [(@Value.int IntKind.i64 (0 : Int)), (@Value.string (@ByteArray.mk (@Array.mk _ []))), (@Value.int IntKind.i64 (0 : Int))])) (@Fin.mk _ 2 (@Nat.le_of_ble_eq_true _ _ (@Eq.refl _ true))))])))))) ((x825378 * 3) + x182085))))) (fun x356232 => (fun x89696 => (@AV.lit ([(@Value.int IntKind.i64 (((@cutT t).getD x356232 tok0)).kind), (@Value.string (((@cutT t).getD x356232 tok0)).text), (@Value.int IntKind.i64 (((@cutT t).getD x356232 tok0)).n)].getD x89696 (@Value.tuple (@Array.mk _ []))))))))).getD x782000 [])))))), (@AV.own (((((0 + 1) + 1) + 1) + 1) + 1) (((@parseV (@toksOf ((@cutT s)).length (fun x193651 => (fun x151690 => (@AV.lit ([(@Value.int IntKind.i64 (((@cutT s).getD x193651 tok0)).kind), (@Value.string (((@cutT s).getD x193651 tok0)).text), (@Value.int IntKind.i64 (((@cutT s).getD x193651 tok0)).n)].getD x151690 (@Value.tuple (@Array.mk _ []))))))))).length + ((@parseV (@toksOf ((@cutT t)).length (fun x512710 => (fun x540737 => (@AV.lit ([(@Value.int IntKind.i64 (((@cutT t).getD x512710 tok0)).kind), (@Value.string (((@cutT t).getD x512710 tok0)).text), (@Value.int IntKind.i64 (((@cutT t).getD x512710 tok0)).n)].getD x540737 (@Value.tuple (@Array.mk _ []))))))))).length) 1)]) []) [(@AV.view ((@parseV (@joinT s t))).length 1 (fun x237433 => (fun x378308 => (@AV.view (((@parseV (@joinT s t)).getD x237433 [])).length 6 (@pcell ((@parseV (@joinT s t)).getD x237433 [])))))), (@AV.view ((@bothV s t)).length 1 (fun x324463 => (fun x867275 => (@AV.view (((@bothV s t).getD x324463 [])).length 6 (@pcell ((@bothV s t).getD x324463 []))))))]) (@SelsR (@parseV (@joinT s t))))) (.fork (@sameQ (@parseV (@joinT s t)) (@bothV s t)) (.need (@isSo (@And ((@HAppend.hAppend _ _ _ _ (@HAppend.hAppend _ _ _ _ ([] : List AV) ([] : List AV)) []) = []) True)) (.leaf (boo true))) (.leaf (boo false)))) (.leaf (boo false)))))) (.fork (eqI (@parseE (@toksOf ((((@cutT s)).length + 1) + ((@cutT t)).length) (@appc (((@cutT s)).length + 1) (@appc ((@cutT s)).length (fun x790165 => (fun x908173 => (@AV.lit ([(@Value.int IntKind.i64 (((@cutT s).getD x790165 tok0)).kind), (@Value.string (((@cutT s).getD x790165 tok0)).text), (@Value.int IntKind.i64 (((@cutT s).getD x790165 tok0)).n)].getD x908173 (@Value.tuple (@Array.mk _ [])))))) (fun x793664 => (fun x299815 => (@getA (@List.take _ 3 ((int (12 : Int)) :: (@AV.lit (@Value.string (@ByteArray.mk (@Array.mk _ [])))) :: (int (0 : Int)) :: (@List.drop _ (0 + (((int (12 : Int)) :: (@List.drop _ 1 (@List.map _ _ AV.lit (@Array.toList _ (@Array.mk _ [(@Value.int IntKind.i64 (0 : Int)), (@Value.string (@ByteArray.mk (@Array.mk _ []))), (@Value.int IntKind.i64 (0 : Int))])))))).length) (@List.map _ _ AV.lit (@Array.toList _ (@Array.mk _ [(@List.get _ (@Array.toList _ (@Array.mk _ [(@Value.int IntKind.i64 (0 : Int)), (@Value.string (@ByteArray.mk (@Array.mk _ []))), (@Value.int IntKind.i64 (0 : Int))])) (@Fin.mk _ 0 (@Nat.le_of_ble_eq_true _ _ (@Eq.refl _ true)))), (@List.get _ (@Array.toList _ (@Array.mk _ [(@Value.int IntKind.i64 (0 : Int)), (@Value.string (@ByteArray.mk (@Array.mk _ []))), (@Value.int IntKind.i64 (0 : Int))])) (@Fin.mk _ 1 (@Nat.le_of_ble_eq_true _ _ (@Eq.refl _ true)))), (@List.get _ (@Array.toList _ (@Array.mk _ [(@Value.int IntKind.i64 (0 : Int)), (@Value.string (@ByteArray.mk (@Array.mk _ []))), (@Value.int IntKind.i64 (0 : Int))])) (@Fin.mk _ 2 (@Nat.le_of_ble_eq_true _ _ (@Eq.refl _ true))))])))))) ((x793664 * 3) + x299815))))) (fun x259723 => (fun x466498 => (@AV.lit ([(@Value.int IntKind.i64 (((@cutT t).getD x259723 tok0)).kind), (@Value.string (((@cutT t).getD x259723 tok0)).text), (@Value.int IntKind.i64 (((@cutT t).getD x259723 tok0)).n)].getD x466498 (@Value.tuple (@Array.mk _ []))))))))) (20 : Int)) (.need (@isSo (@And ((@HAppend.hAppend _ _ _ _ (@HAppend.hAppend _ _ _ _ ([] : List AV) ([] : List AV)) []) = []) True)) (.leaf (boo true))) (.leaf (boo false))))))))))))))) (.need (@isSo (@And ((@HAppend.hAppend _ _ _ _ (@HAppend.hAppend _ _ _ _ ([] : List AV) ([] : List AV)) []) = []) True)) (.leaf (boo true)))) (by kernel_rfl) (by
    refine fork_ok (fun q1 => ?_) (fun q1 => need_so ⟨rfl, trivial⟩ rfl)
    refine fork_ok (fun q2 => need_so ⟨rfl, trivial⟩ rfl) (fun q2 => ?_)
    simp only [Bool.not_eq_true', Bool.not_eq_false', leI_t, Bool.not_not] at q1 q2
    have hs : limT s.size := by unfold limT; omega
    have ht : limT t.size := by unfold limT; omega
    have hx := cutT_len s
    have hy := cutT_len t
    have ox := cutT_ok hs
    have oy := cutT_ok ht
    have hjs : joinT s t = cutT s ++ (tk 12 ⟨#[]⟩ :: cutT t) := rfl
    have hbs : bothV s t = parseV (cutT s) ++ parseV (cutT t) := rfl
    generalize cutT s = x at *
    generalize cutT t = y at *
    refine need_so ⟨rfl, hs⟩ (need_so ⟨rfl, ht⟩ (need_so ⟨rfl, show x.length ≤ 17592186044416 by omega⟩ (fork_ok (fun q3 => need_so ⟨rfl, trivial⟩ rfl) (fun q3 => ?_))))
    rw [Bool.not_eq_false'] at q3
    obtain ⟨p1, p2⟩ := parse_join q3 y
    have hm : ToksOk (x ++ (tk 12 ⟨#[]⟩ :: y)) := fun u hu => by
      rcases List.mem_append.1 hu with h | h
      · exact ox u h
      · rcases List.mem_cons.1 h with rfl | h
        · exact Nat.zero_le _
        · exact oy u h
    have hn : (x ++ (tk 12 ⟨#[]⟩ :: y)).length ≤ 100000 := by simp only [List.length_append, List.length_cons]; omega
    rw [toks_kv x, toks_kv y, toks_join x y _ (fun i j hi hj => by
        rcases i with _ | i
        · rcases j with _ | _ | _ | j
          · exact rfl
          · exact rfl
          · exact rfl
          · omega
        · omega)]
    have b1 := parse_num x
    have b2 := parse_num y
    refine need_t (by simp only [Bool.and_eq_true, Nat.ble_eq, true_and]; omega) (need_t (by simp only [Bool.and_eq_true, Nat.ble_eq, true_and]; omega) (need_t (by simp only [Bool.and_eq_true, Nat.ble_eq, true_and]; omega) (need_so ⟨Nat.le_refl _, TokRows.kc x, show x.length ≤ 100000 by omega, ox⟩ (need_so ⟨Nat.le_refl _, TokRows.kc y, show y.length ≤ 100000 by omega, oy⟩ (need_so ⟨Nat.le_refl _, (join_is x y (fun i j hi hj => by
        rcases i with _ | i
        · rcases j with _ | _ | _ | j
          · exact rfl
          · exact rfl
          · exact rfl
          · omega
        · omega)).rows, hn, hm⟩ ?_)))))
    refine fork_ok (fun q4 => fork_ok (fun q5 => ?_) (fun q5 => ?_)) (fun q4 => ?_)
    · simp only [Bool.not_eq_true', eqI_f] at q5
      refine fork_ok (fun _ => need_so ⟨rfl, trivial⟩ rfl) (fun q6 => ?_)
      rw [eqI_f] at q6
      exact absurd (p2 (.inr q5)) q6
    · simp only [Bool.not_eq_false', Bool.not_not, eqI_t] at q4 q5
      obtain ⟨k1, k2⟩ := p1 q4 q5
      refine need_t (by simp only [Bool.and_eq_true, Nat.ble_eq, true_and]; omega) (need_t (by simp only [Bool.and_eq_true, Nat.ble_eq, true_and]; omega) (fork_ok (fun _ => ?_) (fun q6 => by rw [eqI_f] at q6; exact absurd k1 q6)))
      have hsr : SelsR (parseV (x ++ tk 12 ⟨#[]⟩ :: y)) := parse_selsR (show _ ≤ 100000 by omega)
      rw [hjs, hbs]
      rw [← k2]
      refine need_so ⟨Conv.cons (Conv1.free _ (sview_free _)) (Conv.cons ?_ (Conv.nil _)), hsr⟩ ?_
      · rw [k2]
        exact both_conv _ _ rfl
      · refine fork_ok (fun _ => ?_) (fun q7 => ?_)
        · exact need_so ⟨rfl, trivial⟩ rfl
        · rw [sameQ_refl] at q7; cases q7
    · simp only [Bool.not_not, eqI_f] at q4
      refine fork_ok (fun _ => need_so ⟨rfl, trivial⟩ rfl) (fun q6 => ?_)
      rw [eqI_f] at q6
      exact absurd (p2 (.inl q4)) q6)
end Go.Proofs.Ytconlneohilnmaa
namespace Go.Proofs.Ytconlneohilnmaa
open Go Go.RowKit Go.ChangeShapes Go.WideShapes Go.ChangeAt Go.Deep
set_option linter.unusedVariables false
theorem lists_walk {W : World} (s t : ByteArray) : Calls Try.prog 5 #[.string s, .string t] W fun e w' => e = .returned (.bool true) ∧ Below W.heap.size W w' :=
  law_trueS (Sy.lis_t s t) (us := [_, _]) ⟨_, _, rfl, rfl, _, _, rfl, rfl, rfl⟩
end Go.Proofs.Ytconlneohilnmaa
