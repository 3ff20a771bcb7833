/-
  Lemmas for QueryTexts, part 4; no conditions.
-/
import Derived.Test.YtlmanlpgknhfpaaProg
import Derived.Test.YtlmanlpgknhfpaaQtxC
set_option linter.unusedVariables false
set_option linter.unusedSimpArgs false
namespace Go.Proofs.Ytlmanlpgknhfpaa
open Go Go.RowKit Pl Sy
abbrev Sy.tokV (k : Int) (x : ByteArray) (n e : Int) : AV := .tup [.agg [int k, .lit (.string x), int n], int e]
noncomputable def quoZ (s : ByteArray) (a : Int) : Int := upI (quoB (byteAt s a.toNat)) s (a + 1)
noncomputable def quoK (s : ByteArray) (a : Int) : Int := if eqI (quoZ s a) s.size = true then 5 else if eqI (byteAt s (quoZ s a).toNat) 10 = true then 6 else 5
noncomputable def quoX (s : ByteArray) (a : Int) : ByteArray := s.extract (a + 1).toNat (quoZ s a).toNat
noncomputable def quoE (s : ByteArray) (a : Int) : Int := if eqI (quoZ s a) s.size = true then quoZ s a else if eqI (byteAt s (quoZ s a).toNat) 10 = true then quoZ s a else quoZ s a + 1
theorem Sy.quo_t (s : ByteArray) (hs : limB s.size) (a : Int) (h0 : 0 ≤ a) (h1 : a < s.size) : CallTo Try.prog 52 [.lit (.string s), int a] M0 fun v _ => v = tokV (quoK s a) (quoX s a) 0 (quoE s a) := by
  have hs' := hs
  unfold limB at hs
  refine toV [] [lp_quo s a] 400 30 (.yes (.br .done (.yes (.br .done .done)))) (let e1 := (some (@AV.lit (@Value.string s))); let e2 := (int (0 : Int)); let e3 := (w64 (a + (1 : Int))); let e4 := (@ByteArray.size s); let e5 := ((e4 : Nat) : Int); let e6 := (@upI (@quoB (@byteAt s (a).toNat)) s e3); let e7 := ((@AV.lit (@Value.string (@ByteArray.extract s (e3).toNat (e6).toNat))) :: [e2]); let e8 := (@AV.agg (@List.take _ 3 ((int (5 : Int)) :: e7))); (.need (@isSo (@And ((e1 :: (some (int a)) :: (none :: none :: (some (@AV.ptr 0 0)) :: (some e2) :: (some (int e3)) :: (nn46 []))) = (e1 :: (some (int a)) :: none :: none :: (some (@AV.ptr 0 0)) :: (some e2) :: (some (int e3)) :: (nn46 []))) ((@Mem.mk 1 0 [(some (@Blk.mk [e2, (@AV.lit (@Value.string (@ByteArray.mk (@Array.mk _ [])))), e2] 40 none))]) = quM))) (.need (@isSo (@And (e4 ≤ 100000000) (@And (@And ((0 : Int) ≤ a) (a < e5)) (@And ((0 : Int) ≤ e3) (e3 ≤ e5))))) (.need ((leI (0 : Int) e3) && ((leI e3 e6) && (leI e6 e5))) (.fork (eqI e6 e5) (.leaf (@AV.tup [e8, (int e6)])) (.need (@inR e6 e4) (.fork (eqI (@byteAt s (e6).toNat) (10 : Int)) (.leaf (@AV.tup [(@AV.agg (@List.take _ 3 ((int (6 : Int)) :: e7))), (int e6)])) (.leaf (@AV.tup [e8, (int (w64 (e6 + (1 : Int))))]))))))))) (by kernel_rfl) ?_
  conv => zeta
  rw [w64_in (r := a + 1) (by omega)]
  have hz := upI_le (quoB (byteAt s a.toNat)) s (a + 1) (by omega) (by omega)
  unfold quoK quoX quoE
  rw [show upI (quoB (byteAt s a.toNat)) s (a + 1) = quoZ s a from rfl] at hz ⊢
  generalize hzz : quoZ s a = z at *
  rw [w64_in (r := z + 1) (by omega)]
  refine need_so ⟨rfl, rfl⟩ (need_so ⟨hs', ⟨h0, h1⟩, by omega, by omega⟩ (need_t (by simp only [Bool.and_eq_true, leI_t]; omega) (fork_ok (fun q => ?_) (fun q => ?_))))
  · rw [q]; exact rfl
  · have q' := q
    simp only [Bool.not_eq_true', Bool.not_eq_false', leI_t, leI_f, eqI_t, eqI_f, inR_t, inR_f, isSo_t, isSo_f] at q'
    rw [q]
    refine need_t (by rw [inR_t]; omega) (fork_ok (fun u => ?_) (fun u => ?_))
    · rw [u]; exact rfl
    · rw [u]; exact rfl
noncomputable abbrev Sy.cQuo (s : ByteArray) : Con Try.prog := atX 52 (fun args => match args with | [_, .lit (.int _ a)] => some a | _ => none) (fun a => [.lit (.string s), int a]) (fun a => tokV (quoK s a) (quoX s a) 0 (quoE s a)) (fun a => limB s.size ∧ 0 ≤ a ∧ a < s.size) fun a h => ⟨⟨⟨trivial, trivial, trivial⟩, ⟨⟨trivial, trivial, trivial, trivial⟩, trivial, trivial⟩⟩, quo_t s h.1 a h.2.1 h.2.2⟩
noncomputable def meaN (s : ByteArray) (a n : Int) : Int := worthI (s.extract a.toNat (a + n).toNat)
noncomputable def pctB (s : ByteArray) (e : Int) : Bool := !leI s.size e && eqI (byteAt s e.toNat) 37
noncomputable def meaK (s : ByteArray) (a n : Int) : Int := if pctB s (a + n) = true then 8 else if startsI s (a + n) = true then 9 else 7
noncomputable def meaX (s : ByteArray) (a n : Int) : ByteArray := if pctB s (a + n) = true then ⟨#[]⟩ else if startsI s (a + n) = true then s.extract (a + n).toNat (a + n + spnI goesB s (a + n)).toNat else ⟨#[]⟩
noncomputable def meaE (s : ByteArray) (a n : Int) : Int := if pctB s (a + n) = true then a + n + 1 else if startsI s (a + n) = true then a + n + spnI goesB s (a + n) else a + n
theorem Sy.mea_t (s : ByteArray) (hs : limB s.size) (a n : Int) (h0 : 0 ≤ a) (h1 : 0 < n) (h2 : a + n ≤ s.size) : CallTo Try.prog 54 [.lit (.string s), int a, int n] M0 fun v _ => v = tokV (meaK s a n) (meaX s a n) (meaN s a n) (meaE s a n) := by
  have hs' := hs
  unfold limB at hs
  refine toV [cWor, cSta s, cRun s] [] 400 30 (.yes (.yes (.br (.auto 1 (.yes (.auto 1 (.br .done (.yes (.br (.yes (.yes .done)) .done)))))) (.auto 4 (.yes (.br (.yes (.yes .done)) .done)))))) (let e1 := (w64 (a + n)); let e2 := (@ByteArray.size s); let e3 := ((e2 : Nat) : Int); let e4 := (@ByteArray.extract s (a).toNat (e1).toNat); let e5 := (@AV.lit (@Value.string (@ByteArray.mk (@Array.mk _ [])))); let e6 := (int (@worthI e4)); let e7 := (int (0 : Int)); let e8 := (@isSo (@And ((@HAppend.hAppend _ _ _ _ (@HAppend.hAppend _ _ _ _ [] [(@AV.lit (@Value.string s)), (int e1)]) []) = [(@AV.lit (@Value.string s)), (int e1)]) (@And (e2 ≤ 100000000) (@And ((0 : Int) ≤ e1) (e1 ≤ e3))))); let e9 := (w64 (e1 + (@spnI Pl.goesB s e1))); let e10 := (@AV.lit (@Value.string (@ByteArray.extract s (e1).toNat (e9).toNat))); (.need ((leI (0 : Int) a) && ((leI a e1) && (leI e1 e3))) (.need (@isSo (@And ((@HAppend.hAppend _ _ _ _ (@HAppend.hAppend _ _ _ _ [] [(@AV.lit (@Value.string e4))]) []) = [(@AV.lit (@Value.string e4))]) (@And ((@ByteArray.size e4) ≤ 100000000) (0 < (@ByteArray.size e4))))) (.fork (!(leI e3 e1)) (.need (@inR e1 e2) (.fork (eqI (@byteAt s (e1).toNat) (37 : Int)) (.leaf (@AV.tup [(@AV.agg (@List.take _ 3 ((int (8 : Int)) :: (e5 :: (e6 :: (@List.drop _ (0 + (((int (8 : Int)) :: (e5 :: [e6]))).length) [e7, e5, e7])))))), (int (w64 (e1 + (1 : Int))))])) (.need e8 (.fork (@startsI s e1) (.need e8 (.need ((leI (0 : Int) e1) && ((leI e1 e9) && (leI e9 e3))) (.leaf (@AV.tup [(@AV.agg (@List.take _ 3 ((int (9 : Int)) :: (e10 :: (e6 :: (@List.drop _ (0 + (((int (9 : Int)) :: (e10 :: [e6]))).length) [e7, e5, e7])))))), (int e9)])))) (.leaf (@AV.tup [(@AV.agg (@List.take _ 3 ((int (7 : Int)) :: e5 :: (e6 :: (@List.drop _ (0 + (((int (7 : Int)) :: e5 :: [e6])).length) [e7, e5, e7]))))), (int e1)])))))) (.need e8 (.fork (@startsI s e1) (.need e8 (.need ((leI (0 : Int) e1) && ((leI e1 e9) && (leI e9 e3))) (.leaf (@AV.tup [(@AV.agg (@List.take _ 3 ((int (9 : Int)) :: (e10 :: (e6 :: (@List.drop _ (0 + (((int (9 : Int)) :: (e10 :: [e6]))).length) [e7, e5, e7])))))), (int e9)])))) (.leaf (@AV.tup [(@AV.agg (@List.take _ 3 ((int (7 : Int)) :: e5 :: (e6 :: (@List.drop _ (0 + (((int (7 : Int)) :: e5 :: [e6])).length) [e7, e5, e7]))))), (int e1)])))))))) (by kernel_rfl) ?_
  conv => zeta
  have hb := spnI_bd goesB s (a + n) (by omega)
  rw [w64_in (r := a + n) (by omega), w64_in (r := a + n + spnI goesB s (a + n)) (by omega), w64_in (r := a + n + 1) (by omega)]
  have hx : (s.extract a.toNat (a + n).toNat).size = n.toNat := by rw [ByteArray.size_extract]; omega
  unfold meaK meaX meaN meaE pctB
  have last : ∀ (G : AV → Prop) (T : Tr AV), T.Ok G → T.Ok G := fun _ _ h => h
  refine need_t (by simp only [Bool.and_eq_true, leI_t]; omega) (need_so ⟨rfl, by show _ ≤ 100000000; omega, by omega⟩ (fork_ok (fun q => ?_) (fun q => ?_)))
  · have q' := q
    simp only [Bool.not_eq_true', leI_f] at q'
    rw [q]
    refine need_t (by rw [inR_t]; omega) (fork_ok (fun u => ?_) (fun u => ?_))
    · rw [u]; exact rfl
    · rw [u]
      refine need_so ⟨rfl, hs', by omega, by omega⟩ (fork_ok (fun v => need_so ⟨rfl, hs', by omega, by omega⟩ (need_t (by simp only [Bool.and_eq_true, leI_t]; omega) ?_)) (fun v => ?_))
      · rw [v]; exact rfl
      · rw [v]; exact rfl
  · rw [q]
    refine need_so ⟨rfl, hs', by omega, by omega⟩ (fork_ok (fun v => need_so ⟨rfl, hs', by omega, by omega⟩ (need_t (by simp only [Bool.and_eq_true, leI_t]; omega) ?_)) (fun v => ?_))
    · rw [v]; exact rfl
    · rw [v]; exact rfl
noncomputable abbrev Sy.cMea (s : ByteArray) : Con Try.prog := atX 54 (fun args => match args with | [_, .lit (.int _ a), .lit (.int _ n)] => some (a, n) | _ => none) (fun x => [.lit (.string s), int x.1, int x.2]) (fun x => tokV (meaK s x.1 x.2) (meaX s x.1 x.2) (meaN s x.1 x.2) (meaE s x.1 x.2)) (fun x => limB s.size ∧ 0 ≤ x.1 ∧ 0 < x.2 ∧ x.1 + x.2 ≤ s.size) fun x h => ⟨⟨⟨trivial, trivial, trivial, trivial⟩, ⟨⟨trivial, trivial, trivial, trivial⟩, trivial, trivial⟩⟩, mea_t s h.1 x.1 x.2 h.2.1 h.2.2.1 h.2.2.2⟩
def wSl : ByteArray := ⟨⟨[47, 42]⟩⟩
def wLs : ByteArray := ⟨⟨[42, 47]⟩⟩
def wOp : ByteArray := ⟨⟨[40]⟩⟩
noncomputable def nameT (s : ByteArray) (a : Int) : TokV × Int :=
  if startsI s a = true then
    if hsI s wOp (a + spnI goesB s a) = true then (⟨2, s.extract a.toNat (a + spnI goesB s a).toNat, 0⟩, a + spnI goesB s a + 1)
    else (⟨1, s.extract a.toNat (a + spnI goesB s a).toNat, 0⟩, a + spnI goesB s a)
  else if (!leI (sgnI (byteAt s a.toNat)) 0) = true then (⟨sgnI (byteAt s a.toNat), ⟨⟨[]⟩⟩, 0⟩, a + 1)
  else (⟨19, s.extract a.toNat (a + 1).toNat, 0⟩, a + 1)
noncomputable def atT (s : ByteArray) (a : Int) : TokV × Int :=
  if (eqI (byteAt s a.toNat) 64 && startsI s (a + 1)) = true then (⟨3, s.extract (a + 1).toNat (a + 1 + spnI goesB s (a + 1)).toNat, 0⟩, a + 1 + spnI goesB s (a + 1))
  else nameT s a
noncomputable def hashT (s : ByteArray) (a : Int) : TokV × Int :=
  if (eqI (byteAt s a.toNat) 35 && !leI (spnI goesB s (a + 1)) 0) = true then (⟨4, s.extract (a + 1).toNat (a + 1 + spnI goesB s (a + 1)).toNat, 0⟩, a + 1 + spnI goesB s (a + 1))
  else atT s a
noncomputable def oneT (s : ByteArray) (a : Int) : TokV × Int :=
  if hsI s wSl a = true then (⟨0, ⟨⟨[]⟩⟩, 0⟩, bhI s wLs (a + 2))
  else if blankB (byteAt s a.toNat) = true then (⟨20, ⟨⟨[]⟩⟩, 0⟩, a + spnI blankB s a)
  else if (eqI (byteAt s a.toNat) 34 || eqI (byteAt s a.toNat) 39) = true then (⟨quoK s a, quoX s a, 0⟩, quoE s a)
  else if (!leI (numI s a) 0) = true then (⟨meaK s a (numI s a), meaX s a (numI s a), meaN s a (numI s a)⟩, meaE s a (numI s a))
  else hashT s a
noncomputable def oneK (s : ByteArray) (a : Int) : Int := (oneT s a).1.kind
noncomputable def oneX (s : ByteArray) (a : Int) : ByteArray := (oneT s a).1.text
noncomputable def oneN (s : ByteArray) (a : Int) : Int := (oneT s a).1.n
noncomputable def oneE (s : ByteArray) (a : Int) : Int := (oneT s a).2
theorem hsI_le {s t : ByteArray} {a : Int} (h : hsI s t a = true) : a + t.size ≤ s.size := by
  unfold hsI at h
  rw [Bool.and_eq_true, leI_t] at h
  omega
theorem num_le (s : ByteArray) (a : Int) (h0 : 0 ≤ a) (h1 : a ≤ s.size) : a + numI s a ≤ s.size := by
  have hB : ∀ b : Int, 0 ≤ b → b ≤ s.size → a ≤ b → a + numB s b a ≤ s.size := fun b q0 q1 q2 => by
    have k1 := spnI_bd digB s b q0
    have k2 := spnI_bd digB s (b + spnI digB s b + 1) (by omega)
    unfold numB
    split
    · rename_i h
      simp only [Bool.and_eq_true, Bool.not_eq_true', leI_f] at h
      omega
    · split <;> omega
  unfold numI
  split
  · rename_i h
    simp only [Bool.and_eq_true, Bool.not_eq_true', leI_f] at h
    exact hB (a + 1) (by omega) (by omega) (by omega)
  · exact hB a h0 h1 (Int.le_refl _)
theorem leaf_tok {s : ByteArray} {a : Int} {t : TokV} {e : Int} (h : oneT s a = (t, e)) : tokV t.kind t.text t.n e = tokV (oneK s a) (oneX s a) (oneN s a) (oneE s a) := by
  unfold oneK oneX oneN oneE
  rw [h]
theorem Sy.one_t (s : ByteArray) (hs : limB s.size) (a : Int) (h0 : 0 ≤ a) (h1 : a < s.size) : CallTo Try.prog 29 [.lit (.string s), int a] M0 fun v _ => v = tokV (oneK s a) (oneX s a) (oneN s a) (oneE s a) := by
  have hs' := hs
  unfold limB at hs
  refine toV [cHst s, cBhi s, cBlank, cBls s, cQuo s, cNum s, cMea s, cRun s, cSta s, cSig] [] 400 30 (.yes (.yes (.br (.yes .done) (.yes (.br (.yes .done) (.br (.auto 1 (.br (.yes .done) (.yes (.br (.yes .done) (.yes (.br (.auto 1 (.br (.yes .done) (.br (.auto 2 (.yes (.auto 0 (.br (.yes (.yes .done)) (.yes (.br (.yes (.yes (.br (.yes .done) (.yes .done)))) (.yes (.br .done (.yes .done))))))))) (.auto 4 (.yes (.br (.yes (.yes (.br (.yes .done) (.yes .done)))) (.yes (.br .done (.yes .done))))))))) (.auto 2 (.br (.auto 2 (.yes (.auto 0 (.br (.yes (.yes .done)) (.yes (.br (.yes (.yes (.br (.yes .done) (.yes .done)))) (.yes (.br .done (.yes .done))))))))) (.auto 4 (.yes (.br (.yes (.yes (.br (.yes .done) (.yes .done)))) (.yes (.br .done (.yes .done)))))))))))))) (.auto 2 (.yes .done)))))))) (let e1 := (@ByteArray.size s); let e2 := (@AV.lit (@Value.string s)); let e3 := (@ByteArray.mk (@Array.mk _ [(47 : UInt8), (42 : UInt8)])); let e4 := (e1 ≤ 100000000); let e5 := (0 : Int); let e6 := ((e1 : Nat) : Int); let e7 := (w64 (a + (2 : Int))); let e8 := (@ByteArray.mk (@Array.mk _ [(42 : UInt8), (47 : UInt8)])); let e9 := (int e5); let e10 := (@Value.string (@ByteArray.mk (@Array.mk _ []))); let e11 := (@AV.lit e10); let e12 := (@byteAt s (a).toNat); let e13 := (@AV.lit (@Value.int IntKind.u8 e12)); let e14 := (@isSo (@And ((@HAppend.hAppend _ _ _ _ (@HAppend.hAppend _ _ _ _ [] [e13]) []) = [e13]) True)); let e15 := ((@HAppend.hAppend _ _ _ _ (@HAppend.hAppend _ _ _ _ [] [e2, (int a)]) []) = [e2, (int a)]); let e16 := (@isSo (@And e15 (@And e4 (@And (e5 ≤ a) (a ≤ e6))))); let e17 := (@List.map _ _ AV.lit (@Array.toList _ (@Array.mk _ [(@Value.int IntKind.i64 e5), e10, (@Value.int IntKind.i64 e5)]))); let e18 := (@List.drop _ 1 e17); let e19 := (@AV.lit (@Value.string (@quoX s a))); let e20 := (@numI s a); let e21 := (@AV.lit (@Value.string (@meaX s a e20))); let e22 := (w64 (a + (1 : Int))); let e23 := (@isSo (@And ((@HAppend.hAppend _ _ _ _ (@HAppend.hAppend _ _ _ _ [] [e2, (int e22)]) []) = [e2, (int e22)]) (@And e4 (@And (e5 ≤ e22) (e22 ≤ e6))))); let e24 := (w64 (e22 + (@spnI Pl.goesB s e22))); let e25 := ((leI e5 e22) && ((leI e22 e24) && (leI e24 e6))); let e26 := (@AV.lit (@Value.string (@ByteArray.extract s (e22).toNat (e24).toNat))); let e27 := (w64 (a + (@spnI Pl.goesB s a))); let e28 := (@ByteArray.mk (@Array.mk _ [(40 : UInt8)])); let e29 := (@AV.lit (@Value.string e28)); let e30 := ((leI e5 a) && ((leI a e27) && (leI e27 e6))); let e31 := (@AV.lit (@Value.string (@ByteArray.extract s (a).toNat (e27).toNat))); let e32 := (int (@sgnI e12)); let e33 := (@AV.lit (@Value.string (@ByteArray.extract s (a).toNat (e22).toNat))); (.need (@inR a e1) (.need (@isSo (@And ((@HAppend.hAppend _ _ _ _ (@HAppend.hAppend _ _ _ _ [] [e2, (int a), (@AV.lit (@Value.string e3))]) []) = [e2, (int a), (@AV.lit (@Value.string e3))]) (@And (@And e4 ((@ByteArray.size e3) ≤ 100000000)) (@And (e5 ≤ a) (a ≤ e6))))) (.fork (@hsI s e3 a) (.need (@isSo (@And ((@HAppend.hAppend _ _ _ _ (@HAppend.hAppend _ _ _ _ [] [e2, (int e7), (@AV.lit (@Value.string e8))]) []) = [e2, (int e7), (@AV.lit (@Value.string e8))]) (@And (@And e4 ((@ByteArray.size e8) ≤ 100000000)) (@And (e5 ≤ e7) (e7 ≤ e6))))) (.leaf (@AV.tup [(@AV.agg (@List.take _ 3 (e9 :: e11 :: e9 :: (@List.drop _ (0 + ([e9, e11, e9]).length) [e9, e11, e9])))), (int (@bhI s e8 e7))]))) (.need e14 (.fork (@blankB e12) (.need e16 (.leaf (@AV.tup [(@AV.agg (@List.take _ 3 ((int (20 : Int)) :: e11 :: e9 :: (@List.drop _ (0 + (((int (20 : Int)) :: e18)).length) [e9, e11, e9])))), (int (w64 (a + (@spnI blankB s a))))]))) (.fork (!(eqI e12 (34 : Int))) (.fork (eqI e12 (39 : Int)) (.need (@isSo (@And e15 (@And e4 (@And (e5 ≤ a) (a < e6))))) (.leaf (@AV.tup [(@AV.agg (@List.take _ 3 ((int (@quoK s a)) :: e19 :: e9 :: (@List.drop _ (0 + ([(int (@quoK s a)), e19, e9]).length) [e9, e11, e9])))), (int (@quoE s a))]))) (.need e16 (.fork (!(leI e20 e5)) (.need (@isSo (@And ((@HAppend.hAppend _ _ _ _ (@HAppend.hAppend _ _ _ _ [] [e2, (int a), (int e20)]) []) = [e2, (int a), (int e20)]) (@And e4 (@And (e5 ≤ a) (@And (e5 < e20) ((a + e20) ≤ e6)))))) (.leaf (@AV.tup [(@AV.agg (@List.take _ 3 ((int (@meaK s a e20)) :: e21 :: (int (@meaN s a e20)) :: (@List.drop _ (0 + ([(int (@meaK s a e20)), e21, (int (@meaN s a e20))]).length) [e9, e11, e9])))), (int (@meaE s a e20))]))) (.need e23 (.fork (eqI e12 (35 : Int)) (.fork (!(leI (@spnI Pl.goesB s e22) e5)) (.need e25 (.leaf (@AV.tup [(@AV.agg (@List.take _ 3 ((int (4 : Int)) :: (e26 :: (e9 :: (@List.drop _ (0 + (((int (4 : Int)) :: (e26 :: (@List.drop _ (1 + ([e26]).length) ((int (4 : Int)) :: e18))))).length) [e9, e11, e9])))))), (int e24)]))) (.fork (eqI e12 (64 : Int)) (.need e23 (.fork (@startsI s e22) (.need e23 (.need e25 (.leaf (@AV.tup [(@AV.agg (@List.take _ 3 ((int (3 : Int)) :: (e26 :: (e9 :: (@List.drop _ (0 + (((int (3 : Int)) :: (e26 :: (@List.drop _ (1 + ([e26]).length) ((int (3 : Int)) :: e18))))).length) [e9, e11, e9])))))), (int e24)])))) (.need e16 (.fork (@startsI s a) (.need e16 (.need (@isSo (@And ((@HAppend.hAppend _ _ _ _ (@HAppend.hAppend _ _ _ _ [] [e2, (int e27), e29]) []) = [e2, (int e27), e29]) (@And (@And e4 ((@ByteArray.size e28) ≤ 100000000)) (@And (e5 ≤ e27) (e27 ≤ e6))))) (.fork (@hsI s e28 e27) (.need e30 (.leaf (@AV.tup [(@AV.agg (@List.take _ 3 ((int (2 : Int)) :: (e31 :: (e9 :: (@List.drop _ (0 + (((int (2 : Int)) :: (e31 :: (@List.drop _ (1 + ([e31]).length) ((int (2 : Int)) :: e18))))).length) [e9, e11, e9])))))), (int (w64 (e27 + (1 : Int))))]))) (.need e30 (.leaf (@AV.tup [(@AV.agg (@List.take _ 3 ((int (1 : Int)) :: (e31 :: (e9 :: (@List.drop _ (0 + (((int (1 : Int)) :: (e31 :: (@List.drop _ (1 + ([e31]).length) ((int (1 : Int)) :: e18))))).length) [e9, e11, e9])))))), (int e27)])))))) (.need e14 (.fork (!(leI (@sgnI e12) e5)) (.leaf (@AV.tup [(@AV.agg (@List.take _ 3 (e32 :: (e11 :: e9 :: (@List.drop _ (0 + ((e32 :: (@List.drop _ (0 + ([e32]).length) e17))).length) [e9, e11, e9]))))), (int e22)])) (.need ((leI e5 a) && ((leI a e22) && (leI e22 e6))) (.leaf (@AV.tup [(@AV.agg (@List.take _ 3 ((int (19 : Int)) :: (e33 :: (e9 :: (@List.drop _ (0 + (((int (19 : Int)) :: (e33 :: (@List.drop _ (1 + ([e33]).length) ((int (19 : Int)) :: e18))))).length) [e9, e11, e9])))))), (int e22)]))))))))) (.need e16 (.fork (@startsI s a) (.need e16 (.need (@isSo (@And ((@HAppend.hAppend _ _ _ _ (@HAppend.hAppend _ _ _ _ [] [e2, (int e27), e29]) []) = [e2, (int e27), e29]) (@And (@And e4 ((@ByteArray.size e28) ≤ 100000000)) (@And (e5 ≤ e27) (e27 ≤ e6))))) (.fork (@hsI s e28 e27) (.need e30 (.leaf (@AV.tup [(@AV.agg (@List.take _ 3 ((int (2 : Int)) :: (e31 :: (e9 :: (@List.drop _ (0 + (((int (2 : Int)) :: (e31 :: (@List.drop _ (1 + ([e31]).length) ((int (2 : Int)) :: e18))))).length) [e9, e11, e9])))))), (int (w64 (e27 + (1 : Int))))]))) (.need e30 (.leaf (@AV.tup [(@AV.agg (@List.take _ 3 ((int (1 : Int)) :: (e31 :: (e9 :: (@List.drop _ (0 + (((int (1 : Int)) :: (e31 :: (@List.drop _ (1 + ([e31]).length) ((int (1 : Int)) :: e18))))).length) [e9, e11, e9])))))), (int e27)])))))) (.need e14 (.fork (!(leI (@sgnI e12) e5)) (.leaf (@AV.tup [(@AV.agg (@List.take _ 3 (e32 :: (e11 :: e9 :: (@List.drop _ (0 + ((e32 :: (@List.drop _ (0 + ([e32]).length) e17))).length) [e9, e11, e9]))))), (int e22)])) (.need ((leI e5 a) && ((leI a e22) && (leI e22 e6))) (.leaf (@AV.tup [(@AV.agg (@List.take _ 3 ((int (19 : Int)) :: (e33 :: (e9 :: (@List.drop _ (0 + (((int (19 : Int)) :: (e33 :: (@List.drop _ (1 + ([e33]).length) ((int (19 : Int)) :: e18))))).length) [e9, e11, e9])))))), (int e22)]))))))))) (.fork (eqI e12 (64 : Int)) (.need e23 (.fork (@startsI s e22) (.need e23 (.need e25 (.leaf (@AV.tup [(@AV.agg (@List.take _ 3 ((int (3 : Int)) :: (e26 :: (e9 :: (@List.drop _ (0 + (((int (3 : Int)) :: (e26 :: (@List.drop _ (1 + ([e26]).length) ((int (3 : Int)) :: e18))))).length) [e9, e11, e9])))))), (int e24)])))) (.need e16 (.fork (@startsI s a) (.need e16 (.need (@isSo (@And ((@HAppend.hAppend _ _ _ _ (@HAppend.hAppend _ _ _ _ [] [e2, (int e27), e29]) []) = [e2, (int e27), e29]) (@And (@And e4 ((@ByteArray.size e28) ≤ 100000000)) (@And (e5 ≤ e27) (e27 ≤ e6))))) (.fork (@hsI s e28 e27) (.need e30 (.leaf (@AV.tup [(@AV.agg (@List.take _ 3 ((int (2 : Int)) :: (e31 :: (e9 :: (@List.drop _ (0 + (((int (2 : Int)) :: (e31 :: (@List.drop _ (1 + ([e31]).length) ((int (2 : Int)) :: e18))))).length) [e9, e11, e9])))))), (int (w64 (e27 + (1 : Int))))]))) (.need e30 (.leaf (@AV.tup [(@AV.agg (@List.take _ 3 ((int (1 : Int)) :: (e31 :: (e9 :: (@List.drop _ (0 + (((int (1 : Int)) :: (e31 :: (@List.drop _ (1 + ([e31]).length) ((int (1 : Int)) :: e18))))).length) [e9, e11, e9])))))), (int e27)])))))) (.need e14 (.fork (!(leI (@sgnI e12) e5)) (.leaf (@AV.tup [(@AV.agg (@List.take _ 3 (e32 :: (e11 :: e9 :: (@List.drop _ (0 + ((e32 :: (@List.drop _ (0 + ([e32]).length) e17))).length) [e9, e11, e9]))))), (int e22)])) (.need ((leI e5 a) && ((leI a e22) && (leI e22 e6))) (.leaf (@AV.tup [(@AV.agg (@List.take _ 3 ((int (19 : Int)) :: (e33 :: (e9 :: (@List.drop _ (0 + (((int (19 : Int)) :: (e33 :: (@List.drop _ (1 + ([e33]).length) ((int (19 : Int)) :: e18))))).length) [e9, e11, e9])))))), (int e22)]))))))))) (.need e16 (.fork (@startsI s a) (.need e16 (.need (@isSo (@And ((@HAppend.hAppend _ _ _ _ (@HAppend.hAppend _ _ _ _ [] [e2, (int e27), e29]) []) = [e2, (int e27), e29]) (@And (@And e4 ((@ByteArray.size e28) ≤ 100000000)) (@And (e5 ≤ e27) (e27 ≤ e6))))) (.fork (@hsI s e28 e27) (.need e30 (.leaf (@AV.tup [(@AV.agg (@List.take _ 3 ((int (2 : Int)) :: (e31 :: (e9 :: (@List.drop _ (0 + (((int (2 : Int)) :: (e31 :: (@List.drop _ (1 + ([e31]).length) ((int (2 : Int)) :: e18))))).length) [e9, e11, e9])))))), (int (w64 (e27 + (1 : Int))))]))) (.need e30 (.leaf (@AV.tup [(@AV.agg (@List.take _ 3 ((int (1 : Int)) :: (e31 :: (e9 :: (@List.drop _ (0 + (((int (1 : Int)) :: (e31 :: (@List.drop _ (1 + ([e31]).length) ((int (1 : Int)) :: e18))))).length) [e9, e11, e9])))))), (int e27)])))))) (.need e14 (.fork (!(leI (@sgnI e12) e5)) (.leaf (@AV.tup [(@AV.agg (@List.take _ 3 (e32 :: (e11 :: e9 :: (@List.drop _ (0 + ((e32 :: (@List.drop _ (0 + ([e32]).length) e17))).length) [e9, e11, e9]))))), (int e22)])) (.need ((leI e5 a) && ((leI a e22) && (leI e22 e6))) (.leaf (@AV.tup [(@AV.agg (@List.take _ 3 ((int (19 : Int)) :: (e33 :: (e9 :: (@List.drop _ (0 + (((int (19 : Int)) :: (e33 :: (@List.drop _ (1 + ([e33]).length) ((int (19 : Int)) :: e18))))).length) [e9, e11, e9])))))), (int e22)]))))))))))))) (.need (@isSo (@And e15 (@And e4 (@And (e5 ≤ a) (a < e6))))) (.leaf (@AV.tup [(@AV.agg (@List.take _ 3 ((int (@quoK s a)) :: e19 :: e9 :: (@List.drop _ (0 + ([(int (@quoK s a)), e19, e9]).length) [e9, e11, e9])))), (int (@quoE s a))])))))))))) (by kernel_rfl) ?_
  conv => zeta
  have b1 := spnI_bd goesB s a h0
  have b2 := spnI_bd goesB s (a + 1) (by omega)
  have b3 := spnI_bd blankB s a h0
  have b4 := num_le s a h0 (by omega)
  rw [w64_in (r := a + 1) (by omega), w64_in (r := a + 2) (by omega), w64_in (r := a + spnI goesB s a) (by omega), w64_in (r := a + 1 + spnI goesB s (a + 1)) (by omega), w64_in (r := a + spnI blankB s a) (by omega), w64_in (r := a + spnI goesB s a + 1) (by omega)]
  have hr : inR a s.size = true := by rw [inR_t]; omega
  have key : ∀ (t : TokV) (e : Int), oneT s a = (t, e) → (Tr.leaf (tokV t.kind t.text t.n e)).Ok (fun v => v = tokV (oneK s a) (oneX s a) (oneN s a) (oneE s a)) := fun t e h => leaf_tok h
  refine need_t hr (need_so ⟨rfl, ⟨hs', by decide⟩, h0, by omega⟩ (fork_ok (fun c1 => ?_) (fun c1 => need_so ⟨rfl, trivial⟩ (fork_ok (fun c2 => ?_) (fun c2 => ?_)))))
  · have := hsI_le c1
    have h2 : a + 2 ≤ s.size := this
    refine need_so ⟨rfl, ⟨hs', by decide⟩, by omega, by omega⟩ ?_
    exact key ⟨0, ⟨⟨[]⟩⟩, 0⟩ _ (by unfold oneT; exact if_pos c1)
  · refine need_so ⟨rfl, hs', h0, by omega⟩ ?_
    exact key ⟨20, ⟨⟨[]⟩⟩, 0⟩ _ (by unfold oneT; rw [if_neg (by rw [show hsI s wSl a = false from c1]; simp), if_pos c2])
  · have e0 : oneT s a = if (eqI (byteAt s a.toNat) 34 || eqI (byteAt s a.toNat) 39) = true then (⟨quoK s a, quoX s a, 0⟩, quoE s a) else if (!leI (numI s a) 0) = true then (⟨meaK s a (numI s a), meaX s a (numI s a), meaN s a (numI s a)⟩, meaE s a (numI s a)) else hashT s a := by
      unfold oneT
      rw [if_neg (by rw [show hsI s wSl a = false from c1]; simp), if_neg (by rw [c2]; simp)]
    rw [e0] at key
    clear e0 c1 c2
    refine fork_ok (fun c3 => ?_) (fun c3 => need_so ⟨rfl, hs', h0, h1⟩ ?_)
    · simp only [Bool.not_eq_true'] at c3
      rw [c3] at key
      refine fork_ok (fun c4 => need_so ⟨rfl, hs', h0, h1⟩ ?_) (fun c4 => ?_)
      · exact key _ _ (by rw [c4])
      · rw [c4] at key
        refine need_so ⟨rfl, hs', h0, by omega⟩ (fork_ok (fun c5 => ?_) (fun c5 => ?_))
        · have c5' := c5
          simp only [Bool.not_eq_true', leI_f] at c5'
          refine need_so ⟨rfl, hs', h0, by omega, b4⟩ ?_
          exact key _ _ (by rw [c5])
        · rw [c5] at key
          have key : ∀ (t : TokV) (e : Int), hashT s a = (t, e) → (Tr.leaf (tokV t.kind t.text t.n e)).Ok (fun v => v = tokV (oneK s a) (oneX s a) (oneN s a) (oneE s a)) := fun t e h => key t e (by rw [← h]; rfl)
          unfold hashT at key
          refine need_so ⟨rfl, hs', by omega, by omega⟩ (fork_ok (fun g1 => fork_ok (fun g2 => need_t (by simp only [Bool.and_eq_true, leI_t]; omega) ?_) (fun g2 => ?_)) (fun g1 => ?_))
          · rw [g1, g2] at key
            exact key ⟨4, s.extract (a + 1).toNat (a + 1 + spnI goesB s (a + 1)).toNat, 0⟩ _ rfl
          · rw [g1, g2] at key
            have key : ∀ (t : TokV) (e : Int), atT s a = (t, e) → (Tr.leaf (tokV t.kind t.text t.n e)).Ok (fun v => v = tokV (oneK s a) (oneX s a) (oneN s a) (oneE s a)) := fun t e h => key t e h
            unfold atT at key
            refine fork_ok (fun f1 => need_so ⟨rfl, hs', by omega, by omega⟩ (fork_ok (fun f2 => need_so ⟨rfl, hs', by omega, by omega⟩ (need_t (by simp only [Bool.and_eq_true, leI_t]; omega) ?_)) (fun f2 => ?_))) (fun f1 => ?_)
            · rw [f1, f2] at key
              exact key ⟨3, s.extract (a + 1).toNat (a + 1 + spnI goesB s (a + 1)).toNat, 0⟩ _ rfl
            · rw [f1, f2] at key
              have key : ∀ (t : TokV) (e : Int), nameT s a = (t, e) → (Tr.leaf (tokV t.kind t.text t.n e)).Ok (fun v => v = tokV (oneK s a) (oneX s a) (oneN s a) (oneE s a)) := fun t e h => key t e h
              unfold nameT at key
              refine need_so ⟨rfl, hs', h0, by omega⟩ (fork_ok (fun d1 => need_so ⟨rfl, hs', h0, by omega⟩ (need_so ⟨rfl, ⟨hs', by decide⟩, by omega, by omega⟩ (fork_ok (fun d2 => need_t (by simp only [Bool.and_eq_true, leI_t]; omega) ?_) (fun d2 => need_t (by simp only [Bool.and_eq_true, leI_t]; omega) ?_)))) (fun d1 => need_so ⟨rfl, trivial⟩ (fork_ok (fun d2 => ?_) (fun d2 => need_t (by simp only [Bool.and_eq_true, leI_t]; omega) ?_))))
              · rw [d1, show hsI s wOp (a + spnI goesB s a) = true from d2] at key
                exact key ⟨2, s.extract a.toNat (a + spnI goesB s a).toNat, 0⟩ _ rfl
              · rw [d1, show hsI s wOp (a + spnI goesB s a) = false from d2] at key
                exact key ⟨1, s.extract a.toNat (a + spnI goesB s a).toNat, 0⟩ _ rfl
              · rw [d1, d2] at key
                exact key ⟨sgnI (byteAt s a.toNat), ⟨⟨[]⟩⟩, 0⟩ _ rfl
              · rw [d1, d2] at key
                exact key ⟨19, s.extract a.toNat (a + 1).toNat, 0⟩ _ rfl
            · rw [f1] at key
              have key : ∀ (t : TokV) (e : Int), nameT s a = (t, e) → (Tr.leaf (tokV t.kind t.text t.n e)).Ok (fun v => v = tokV (oneK s a) (oneX s a) (oneN s a) (oneE s a)) := fun t e h => key t e h
              unfold nameT at key
              refine need_so ⟨rfl, hs', h0, by omega⟩ (fork_ok (fun d1 => need_so ⟨rfl, hs', h0, by omega⟩ (need_so ⟨rfl, ⟨hs', by decide⟩, by omega, by omega⟩ (fork_ok (fun d2 => need_t (by simp only [Bool.and_eq_true, leI_t]; omega) ?_) (fun d2 => need_t (by simp only [Bool.and_eq_true, leI_t]; omega) ?_)))) (fun d1 => need_so ⟨rfl, trivial⟩ (fork_ok (fun d2 => ?_) (fun d2 => need_t (by simp only [Bool.and_eq_true, leI_t]; omega) ?_))))
              · rw [d1, show hsI s wOp (a + spnI goesB s a) = true from d2] at key
                exact key ⟨2, s.extract a.toNat (a + spnI goesB s a).toNat, 0⟩ _ rfl
              · rw [d1, show hsI s wOp (a + spnI goesB s a) = false from d2] at key
                exact key ⟨1, s.extract a.toNat (a + spnI goesB s a).toNat, 0⟩ _ rfl
              · rw [d1, d2] at key
                exact key ⟨sgnI (byteAt s a.toNat), ⟨⟨[]⟩⟩, 0⟩ _ rfl
              · rw [d1, d2] at key
                exact key ⟨19, s.extract a.toNat (a + 1).toNat, 0⟩ _ rfl
          · rw [g1] at key
            have key : ∀ (t : TokV) (e : Int), atT s a = (t, e) → (Tr.leaf (tokV t.kind t.text t.n e)).Ok (fun v => v = tokV (oneK s a) (oneX s a) (oneN s a) (oneE s a)) := fun t e h => key t e h
            unfold atT at key
            refine fork_ok (fun f1 => need_so ⟨rfl, hs', by omega, by omega⟩ (fork_ok (fun f2 => need_so ⟨rfl, hs', by omega, by omega⟩ (need_t (by simp only [Bool.and_eq_true, leI_t]; omega) ?_)) (fun f2 => ?_))) (fun f1 => ?_)
            · rw [f1, f2] at key
              exact key ⟨3, s.extract (a + 1).toNat (a + 1 + spnI goesB s (a + 1)).toNat, 0⟩ _ rfl
            · rw [f1, f2] at key
              have key : ∀ (t : TokV) (e : Int), nameT s a = (t, e) → (Tr.leaf (tokV t.kind t.text t.n e)).Ok (fun v => v = tokV (oneK s a) (oneX s a) (oneN s a) (oneE s a)) := fun t e h => key t e h
              unfold nameT at key
              refine need_so ⟨rfl, hs', h0, by omega⟩ (fork_ok (fun d1 => need_so ⟨rfl, hs', h0, by omega⟩ (need_so ⟨rfl, ⟨hs', by decide⟩, by omega, by omega⟩ (fork_ok (fun d2 => need_t (by simp only [Bool.and_eq_true, leI_t]; omega) ?_) (fun d2 => need_t (by simp only [Bool.and_eq_true, leI_t]; omega) ?_)))) (fun d1 => need_so ⟨rfl, trivial⟩ (fork_ok (fun d2 => ?_) (fun d2 => need_t (by simp only [Bool.and_eq_true, leI_t]; omega) ?_))))
              · rw [d1, show hsI s wOp (a + spnI goesB s a) = true from d2] at key
                exact key ⟨2, s.extract a.toNat (a + spnI goesB s a).toNat, 0⟩ _ rfl
              · rw [d1, show hsI s wOp (a + spnI goesB s a) = false from d2] at key
                exact key ⟨1, s.extract a.toNat (a + spnI goesB s a).toNat, 0⟩ _ rfl
              · rw [d1, d2] at key
                exact key ⟨sgnI (byteAt s a.toNat), ⟨⟨[]⟩⟩, 0⟩ _ rfl
              · rw [d1, d2] at key
                exact key ⟨19, s.extract a.toNat (a + 1).toNat, 0⟩ _ rfl
            · rw [f1] at key
              have key : ∀ (t : TokV) (e : Int), nameT s a = (t, e) → (Tr.leaf (tokV t.kind t.text t.n e)).Ok (fun v => v = tokV (oneK s a) (oneX s a) (oneN s a) (oneE s a)) := fun t e h => key t e h
              unfold nameT at key
              refine need_so ⟨rfl, hs', h0, by omega⟩ (fork_ok (fun d1 => need_so ⟨rfl, hs', h0, by omega⟩ (need_so ⟨rfl, ⟨hs', by decide⟩, by omega, by omega⟩ (fork_ok (fun d2 => need_t (by simp only [Bool.and_eq_true, leI_t]; omega) ?_) (fun d2 => need_t (by simp only [Bool.and_eq_true, leI_t]; omega) ?_)))) (fun d1 => need_so ⟨rfl, trivial⟩ (fork_ok (fun d2 => ?_) (fun d2 => need_t (by simp only [Bool.and_eq_true, leI_t]; omega) ?_))))
              · rw [d1, show hsI s wOp (a + spnI goesB s a) = true from d2] at key
                exact key ⟨2, s.extract a.toNat (a + spnI goesB s a).toNat, 0⟩ _ rfl
              · rw [d1, show hsI s wOp (a + spnI goesB s a) = false from d2] at key
                exact key ⟨1, s.extract a.toNat (a + spnI goesB s a).toNat, 0⟩ _ rfl
              · rw [d1, d2] at key
                exact key ⟨sgnI (byteAt s a.toNat), ⟨⟨[]⟩⟩, 0⟩ _ rfl
              · rw [d1, d2] at key
                exact key ⟨19, s.extract a.toNat (a + 1).toNat, 0⟩ _ rfl
    · simp only [Bool.not_eq_false'] at c3
      exact key _ _ (by rw [c3])
end Go.Proofs.Ytlmanlpgknhfpaa
namespace Go.Proofs.Ytlmanlpgknhfpaa
open Go Go.RowKit Pl Sy
namespace Sy
abbrev rdB (T : List TokV) (a : Int) : Blk := ⟨[kv T, int a], 55, none⟩
abbrev rdM (T : List TokV) (a : Int) : Mem := ⟨1, 0, [some (rdB T a)]⟩
end Sy
namespace Sy
abbrev spcF (a : Int) : Fr := (some ((@AV.ptr 0 0)) :: (nn11 []))
end Sy
def skp (l : List TokV) (k : Nat) : Nat := Sy.hops (fun j => !spB (tokAt l j)) (fun j => j + 1) l.length k
theorem skp_step (l : List TokV) (k : Nat) : skp l k = if k < l.length ∧ spB (tokAt l k) = true then skp l (k + 1) else k := by
  unfold skp
  rw [Sy.hops_step (fun k _ => Nat.lt_succ_self k)]
  simp
theorem skp_le (l : List TokV) (k : Nat) (h : k ≤ l.length) : k ≤ skp l k ∧ skp l k ≤ l.length := Sy.hops_le (fun k _ => Nat.lt_succ_self k) (fun k h => h) _ k (Nat.le_refl _) h
theorem Sy.LoopTo.stampA {P : Program} {b : Code} {n : Nat} {F : Fr} {T s : Nat} {bs : List (Option Blk)} {G : Ex → Fr → Mem → Prop} (s' : Nat) (h : LoopTo P b n F ⟨T, s', bs⟩ G) : LoopTo P b n F ⟨T, s, bs⟩ G := fun w0 ρ a w Q hF hW hQ => h w0 ρ a w Q hF (hW.restamp s') hQ
theorem Sy.spc_scan (T : List TokV) (hl : lim T) (a : Int) (k0 : Nat) (h1 : k0 ≤ T.length) : LoopTo Try.prog (theBody Try.prog 73 1) (T.length - k0 + 1) (spcF a) (rdM T k0) fun ex F' M' => ex = .exit 0 ∧ F' = spcF a ∧ M' = rdM T (skp T k0 : Nat) := by
  have key := hopL (P := Try.prog) (body := theBody Try.prog 73 1) T.length (fun j => !spB (tokAt T j)) (fun j => j + 1) (fun k _ => Nat.lt_succ_self k) (fun k h => h) (fun k => spcF a) (fun k => spcF a) (fun k => rdM T (k : Nat)) (.exit 0) (fun κ n G h0 c1 c2 c3 => by
    generalize hκ : (κ : Int) = b at *
    refine roundL [] [] 400 30 73 1 Try.func73 rfl (by kernel_rfl) (true :: (ff11 [])) (.br (.auto 0 .done) (.yes (.br .done .done))) (let e1 := (@AV.view (T).length 3 (fun y0 => (fun y1 => (@AV.lit ([(@Value.int IntKind.i64 ((T.getD y0 tok0)).kind), (@Value.string ((T.getD y0 tok0)).text), (@Value.int IntKind.i64 ((T.getD y0 tok0)).n)].getD y1 (@Value.tuple (@Array.mk _ []))))))); (.fork (leI (((T).length : Nat) : Int) b) (.leaf ((@Ex.exit 0), (((some (@AV.ptr 0 0)) :: (nn11 [])), (@Mem.mk 1 0 [(some (@Blk.mk [e1, (int b)] 55 none))])))) (.need (@inR b (T).length) (.fork (eqI ((T.getD (b).toNat tok0)).kind (20 : Int)) (.leaf (Ex.norm, (((some (@AV.ptr 0 0)) :: (nn11 [])), (@Mem.mk 1 (0 + 1) [(some (@Blk.mk (e1 :: [(int (w64 (b + (1 : Int))))]) 55 none))])))) (.leaf ((@Ex.exit 0), (((some (@AV.ptr 0 0)) :: (nn11 [])), (@Mem.mk 1 0 [(some (@Blk.mk [e1, (int b)] 55 none))])))))))) (by kernel_rfl) ?_
    have hl' : T.length ≤ 17592186044416 := hl
    refine fork_ok (fun h => ?_) (fun h => ?_)
    · simp only [Bool.not_eq_true', Bool.not_eq_false', leI_t, leI_f, eqI_t, eqI_f, inR_t, inR_f, isSo_t, isSo_f] at h
      have hk : κ = T.length := by omega
      have := c3 hk
      rw [← hk, hκ] at this
      exact this
    · simp only [Bool.not_eq_true', Bool.not_eq_false', leI_t, leI_f, eqI_t, eqI_f, inR_t, inR_f, isSo_t, isSo_f] at h
      have hk : κ < T.length := by omega
      have hr : inR b T.length = true := by rw [inR_t]; omega
      have hκ' : tokAt T κ = T.getD b.toNat tok0 := by rw [← hκ]; rfl
      refine need_t hr (fork_ok (fun h2 => ?_) (fun h2 => c2 hk (by rw [hκ']; unfold spB; rw [h2]; rfl)))
      have := c1 hk (by rw [hκ']; unfold spB; rw [h2]; rfl)
      rw [show ((κ + 1 : Nat) : Int) = b + 1 by omega] at this
      rw [w64_in (r := b + 1) (by omega)]
      exact Sy.LoopTo.stampA 0 this) k0 h1
  refine key.mono fun ex F M hg => ?_
  obtain ⟨rfl, hg⟩ := hg
  rcases hg with ⟨q1, rfl, rfl⟩ | ⟨q1, rfl, rfl⟩
  · exact ⟨rfl, rfl, rfl⟩
  · exact ⟨rfl, rfl, rfl⟩
namespace Sy
noncomputable abbrev lpSpc (T : List TokV) (k0 : Nat) : Lp Try.prog where
  f := 73
  key := 1
  S := formS (fun F M => some ()) (fun _ => spcF k0) (fun _ => rdM T k0) (fun _ => lim T ∧ k0 ≤ T.length) (fun _ => .leaf (.exit 0, spcF k0, rdM T (skp T k0 : Nat))) (true :: (ff11 []))
  one := by kernel_rfl
  ok := formS_ok fun _ ⟨h1, h2⟩ => by
    refine ⟨_, (Sy.spc_scan T h1 k0 k0 h2).mono fun ex F M hg => ?_⟩
    obtain ⟨rfl, rfl, rfl⟩ := hg
    rfl
end Sy
theorem Sy.spc_t (T : List TokV) (hl : lim T) (k0 : Nat) (h1 : k0 ≤ T.length) : CallTo Try.prog 73 [.ptr 0 0] (rdM T k0) fun v M' => v = .tup [] ∧ M' = rdM T (skp T k0 : Nat) :=
  to (G := fun r => r.1 = .tup [] ∧ r.2 = rdM T (skp T k0 : Nat)) [] [lpSpc T k0] 400 30 .done (let e1 := (@AV.view (T).length 3 (fun y0 => (fun y1 => (@AV.lit ([(@Value.int IntKind.i64 ((T.getD y0 tok0)).kind), (@Value.string ((T.getD y0 tok0)).text), (@Value.int IntKind.i64 ((T.getD y0 tok0)).n)].getD y1 (@Value.tuple (@Array.mk _ []))))))); let e2 := (@Mem.mk 1 0 [(some (@Blk.mk [e1, (int ((k0 : Nat) : Int))] 55 none))]); (.need (@isSo (@And (((some (@AV.ptr 0 0)) :: (nn11 [])) = ((some (@AV.ptr 0 0)) :: (nn11 []))) (e2 = e2))) (.need (@isSo (@And (@lim T) (k0 ≤ (T).length))) (.leaf ((@AV.tup []), (@Mem.mk 1 0 [(some (@Blk.mk [e1, (int (((@skp T k0) : Nat) : Int))] 55 none))])))))) (by kernel_rfl) (need_so ⟨rfl, rfl⟩ (need_so ⟨hl, h1⟩ ⟨rfl, rfl⟩))
def skI (T : List TokV) (a : Int) : Int := (skp T a.toNat : Nat)
theorem skI_le {T : List TokV} {a : Int} (h0 : 0 ≤ a) (h1 : a ≤ T.length) : a ≤ skI T a ∧ skI T a ≤ T.length := by
  have := skp_le T a.toNat (by omega)
  unfold skI
  omega
namespace Sy
structure RdX where
  rb : Nat
  a : Int
  rest : List AV
noncomputable def rdGet (args : List AV) (M : Mem) : Option RdX := match args with
  | .ptr rb 0 :: rest => match M.get rb with
    | some ⟨[_, .lit (.int .i64 a)], _, none⟩ => some ⟨rb, a, rest⟩
    | _ => none
  | _ => none
noncomputable def conR {Y : Type} (T : List TokV) (f : FuncId) (get : List AV → Option Y) (args0 : Y → List AV) (v0 : Int → Y → AV) (at2 : Int → Y → Int) (C : Int → Y → Prop) (h : ∀ a y, C a y → (Frees (args0 y) ∧ Free (v0 a y)) ∧ CallTo Try.prog f (.ptr 0 0 :: args0 y) (rdM T a) fun v M' => Frz true 1 M' v (v0 a y) ∧ M'.get 0 = some (rdB T (at2 a y))) : Con Try.prog where
  f := f
  run := fun args M => match rdGet args M with
    | some x => match get x.rest with
      | some y => some (v0 x.a y, M.put x.rb (some (rdB T (at2 x.a y))))
      | none => none
    | none => none
  ob := fun args M => match rdGet args M with
    | some x => match get x.rest with
      | some y => some (isSo (M.get x.rb = some (rdB T x.a) ∧ x.rest = args0 y ∧ C x.a y))
      | none => none
    | none => none
  ok := fun args M v M' hr hob => by
    cases hg : rdGet args M with
    | none => rw [hg] at hr; cases hr
    | some x =>
      rw [hg] at hr hob
      cases hy : get x.rest with
      | none => simp only [hy] at hr; cases hr
      | some y =>
        simp only [hy] at hr hob
        simp at hr
        obtain ⟨rfl, rfl⟩ := hr
        have h1 := hob _ rfl
        rw [isSo_t] at h1
        obtain ⟨hb, hrest, hC⟩ := h1
        have e : args = .ptr x.rb 0 :: x.rest := by
          unfold rdGet at hg
          split at hg
          · split at hg
            · simp at hg; subst hg; rfl
            · cases hg
          · cases hg
        obtain ⟨⟨hf, hv⟩, h2⟩ := h x.a y hC
        refine ⟨Grow.put _ _ _, ?_⟩
        rw [e, hrest]
        refine CallTo.frame1 (B0 := rdB T x.a) (B := rdB T x.a) (args1 := .ptr 0 0 :: args0 y) (h2.mono fun v M' ⟨q1, q2⟩ => ⟨q1, _, q2, rfl, Frz.free _ _ (kv_free T), Frz.lit _ _ _ _, trivial⟩) ⟨⟨rfl, rfl⟩, RenVs.free _ hf⟩ hb ⟨rfl, ⟨RenV.free _ (kv_free T), rfl, trivial⟩, trivial⟩ rfl rfl rfl ⟨kv_free T, trivial, trivial⟩ hv
def InT (T : List TokV) (a : Int) : Prop := (0 ≤ a ∧ a ≤ T.length) ∧ lim T
noncomputable abbrev cSpc (T : List TokV) : Con Try.prog := conR T 73 (fun r => match r with | [] => some () | _ => none) (fun _ => []) (fun a _ => .tup []) (fun a _ => skI T a) (fun a _ => InT T a) fun a _ h => by
  obtain ⟨k, rfl⟩ := Int.eq_ofNat_of_zero_le h.1.1
  refine ⟨⟨trivial, trivial⟩, (spc_t T h.2 k (by have := h.1.2; omega)).mono fun v M' ⟨q1, q2⟩ => ?_⟩
  subst q1 q2
  exact ⟨Frz.tup trivial, rfl⟩
end Sy
end Go.Proofs.Ytlmanlpgknhfpaa
namespace Go.Proofs.Ytlmanlpgknhfpaa
open Go Go.RowKit Pl Sy
def kindI (T : List TokV) (a : Int) : Int := if leI T.length a then 0 else (T.getD a.toNat tok0).kind
def signB (T : List TokV) (a : Int) (s : ByteArray) : Bool := eqI (kindI T a) 19 && bytesEq (T.getD a.toNat tok0).text.data.toList s.data.toList
def signA (T : List TokV) (a : Int) (s : ByteArray) : Int := if signB T a s then a + 1 else a
theorem kindI_in {T : List TokV} {a : Int} (h0 : 0 ≤ a) (h : kindI T a ≠ 0) : a < T.length := by
  unfold kindI at h
  split at h
  · exact absurd rfl h
  · rename_i h1
    rw [Bool.not_eq_true, leI_f] at h1
    omega
theorem signA_in {T : List TokV} {a : Int} {s : ByteArray} (h : InT T a) : InT T (signA T a s) := by
  obtain ⟨⟨h0, h1⟩, h2⟩ := h
  refine ⟨?_, h2⟩
  unfold signA
  split
  · rename_i h3
    have := kindI_in h0 (T := T) (by unfold signB at h3; rw [Bool.and_eq_true, eqI_t] at h3; omega)
    omega
  · exact ⟨h0, h1⟩
theorem skI_in {T : List TokV} {a : Int} (h : InT T a) : InT T (skI T a) := by
  have := skI_le h.1.1 h.1.2
  exact ⟨⟨by have := h.1.1; omega, this.2⟩, h.2⟩
theorem Sy.kind_t (T : List TokV) (a : Int) (h : InT T a) : CallTo Try.prog 24 [.ptr 0 0] (rdM T a) fun v M' => v = int (kindI T a) ∧ M' = rdM T a :=
  to (G := fun r => r.1 = int (kindI T a) ∧ r.2 = rdM T a) [] [] 400 30 (.br .done (.yes .done)) (.fork (leI (((T).length : Nat) : Int) a) (.leaf ((int (0 : Int)), (@Mem.mk 1 0 [(some (@Blk.mk [(@AV.view (T).length 3 (fun x489029 => (fun x269736 => (@AV.lit ([(@Value.int IntKind.i64 ((T.getD x489029 tok0)).kind), (@Value.string ((T.getD x489029 tok0)).text), (@Value.int IntKind.i64 ((T.getD x489029 tok0)).n)].getD x269736 (@Value.tuple (@Array.mk _ []))))))), (int a)] 55 none))]))) (.need (@inR a (T).length) (.leaf ((int ((T.getD (a).toNat tok0)).kind), (@Mem.mk 1 0 [(some (@Blk.mk [(@AV.view (T).length 3 (fun x649114 => (fun x55886 => (@AV.lit ([(@Value.int IntKind.i64 ((T.getD x649114 tok0)).kind), (@Value.string ((T.getD x649114 tok0)).text), (@Value.int IntKind.i64 ((T.getD x649114 tok0)).n)].getD x55886 (@Value.tuple (@Array.mk _ []))))))), (int a)] 55 none))]))))) (by kernel_rfl) (by
    obtain ⟨⟨h0, h1⟩, h2⟩ := h
    unfold kindI
    refine fork_ok (fun h => ?_) (fun h => need_t (by simp only [Bool.not_eq_true', Bool.not_eq_false', leI_t, leI_f, eqI_t, eqI_f, inR_t, inR_f, isSo_t, isSo_f] at h; rw [inR_t]; omega) ?_)
    · rw [if_pos h]; exact ⟨rfl, rfl⟩
    · rw [if_neg (by rw [h]; simp)]; exact ⟨rfl, rfl⟩)
noncomputable abbrev Sy.cKind (T : List TokV) : Con Try.prog := conR T 24 (fun r => match r with | [] => some () | _ => none) (fun _ => []) (fun a _ => int (kindI T a)) (fun a _ => a) (fun a _ => InT T a) fun a _ h => by
  refine ⟨⟨trivial, trivial⟩, (kind_t T a h).mono fun v M' ⟨q1, q2⟩ => ?_⟩
  subst q1 q2
  exact ⟨Frz.lit _ _ _ _, rfl⟩
theorem Sy.sign_t (T : List TokV) (a : Int) (s : ByteArray) (h : InT T a) : CallTo Try.prog 99 [.ptr 0 0, .lit (.string s)] (rdM T a) fun v M' => v = boo (signB T a s) ∧ M'.get 0 = some (rdB T (signA T a s)) :=
  to (G := fun r => r.1 = boo (signB T a s) ∧ r.2.get 0 = some (rdB T (signA T a s))) [cKind T] [] 400 30 (.yes (.br (.auto 7 (.yes (.auto 4 (.br .done .done)))) (.auto 13 .done))) (let e1 := (@AV.view (T).length 3 (fun y0 => (fun y1 => (@AV.lit ([(@Value.int IntKind.i64 ((T.getD y0 tok0)).kind), (@Value.string ((T.getD y0 tok0)).text), (@Value.int IntKind.i64 ((T.getD y0 tok0)).n)].getD y1 (@Value.tuple (@Array.mk _ []))))))); let e2 := (some (@Blk.mk [e1, (int a)] 55 none)); (.need (@isSo (@And (e2 = e2) (@And (([] : List AV) = []) (@InT T a)))) (.fork (eqI (@kindI T a) (19 : Int)) (.need (@inR a (T).length) (.fork (@bytesEq (@Array.toList _ (@ByteArray.data ((T.getD (a).toNat tok0)).text)) (@Array.toList _ (@ByteArray.data s))) (.leaf ((boo true), (@Mem.mk 1 ((0 + 1) + 1) [(some (@Blk.mk (e1 :: [(int (w64 (a + (1 : Int))))]) 55 none))]))) (.leaf ((boo false), (@Mem.mk 1 (0 + 1) [e2]))))) (.leaf ((boo false), (@Mem.mk 1 (0 + 1) [e2])))))) (by kernel_rfl) (by
    refine need_so ⟨rfl, rfl, h⟩ ?_
    obtain ⟨⟨h0, h1⟩, h2⟩ := h
    have hl : T.length ≤ 17592186044416 := h2
    unfold signA signB
    refine fork_ok (fun h3 => ?_) (fun h3 => ?_)
    · have h4 := kindI_in h0 (T := T) (by rw [eqI_t] at h3; omega)
      have e1 : w64 (a + 1) = a + 1 := w64_in (by omega)
      rw [h3]
      refine need_t (by rw [inR_t]; omega) (fork_ok (fun h5 => ?_) (fun h5 => ?_))
      · rw [h5, e1]
        exact ⟨rfl, rfl⟩
      · rw [h5]
        exact ⟨rfl, rfl⟩
    · rw [h3]
      exact ⟨rfl, rfl⟩)
noncomputable abbrev Sy.cSign (T : List TokV) : Con Try.prog := conR T 99 (fun r => match r with | [.lit (.string s)] => some s | _ => none) (fun s => [.lit (.string s)]) (fun a s => boo (signB T a s)) (fun a s => signA T a s) (fun a _ => InT T a) fun a s h => by
  refine ⟨⟨⟨trivial, trivial⟩, trivial⟩, (sign_t T a s h).mono fun v M' ⟨q1, q2⟩ => ?_⟩
  subst q1
  exact ⟨Frz.lit _ _ _ _, q2⟩
def nI (T : List TokV) (a : Int) : Int := (T.getD a.toNat tok0).n
def doneB (T : List TokV) (a : Int) : Bool := eqI (skI T a) T.length
theorem Sy.done_t (T : List TokV) (a : Int) (h : InT T a) : CallTo Try.prog 45 [.ptr 0 0] (rdM T a) fun v M' => v = boo (doneB T a) ∧ M'.get 0 = some (rdB T (skI T a)) :=
  to (G := fun r => r.1 = boo (doneB T a) ∧ r.2.get 0 = some (rdB T (skI T a))) [cSpc T] [] 400 30 (.yes .done) (let e1 := (@AV.view (T).length 3 (fun y0 => (fun y1 => (@AV.lit ([(@Value.int IntKind.i64 ((T.getD y0 tok0)).kind), (@Value.string ((T.getD y0 tok0)).text), (@Value.int IntKind.i64 ((T.getD y0 tok0)).n)].getD y1 (@Value.tuple (@Array.mk _ []))))))); let e2 := (some (@Blk.mk [e1, (int a)] 55 none)); (.need (@isSo (@And (e2 = e2) (@And (([] : List AV) = []) (@InT T a)))) (.leaf ((boo (eqI (@skI T a) (((T).length : Nat) : Int))), (@Mem.mk 1 (0 + 1) [(some (@Blk.mk [e1, (int (@skI T a))] 55 none))]))))) (by kernel_rfl) (need_so ⟨rfl, rfl, h⟩ ⟨rfl, rfl⟩)
noncomputable abbrev Sy.cDone (T : List TokV) : Con Try.prog := conR T 45 (fun r => match r with | [] => some () | _ => none) (fun _ => []) (fun a _ => boo (doneB T a)) (fun a _ => skI T a) (fun a _ => InT T a) fun a _ h => by
  refine ⟨⟨trivial, trivial⟩, (done_t T a h).mono fun v M' ⟨q1, q2⟩ => ?_⟩
  subst q1
  exact ⟨Frz.lit _ _ _ _, q2⟩
def wordB (T : List TokV) (a : Int) (s : ByteArray) : Bool := eqI (kindI T (skI T a)) 1 && bytesEq (T.getD (skI T a).toNat tok0).text.data.toList s.data.toList
def wordA (T : List TokV) (a : Int) (s : ByteArray) : Int := if wordB T a s then skI T a + 1 else skI T a
theorem wordA_in {T : List TokV} {a : Int} {s : ByteArray} (h : InT T a) : InT T (wordA T a s) := by
  obtain ⟨⟨h0, h1⟩, h2⟩ := skI_in h
  refine ⟨?_, h2⟩
  unfold wordA
  split
  · rename_i h3
    have := kindI_in h0 (T := T) (by unfold wordB at h3; rw [Bool.and_eq_true, eqI_t] at h3; omega)
    omega
  · exact ⟨h0, h1⟩
theorem Sy.word_t (T : List TokV) (a : Int) (s : ByteArray) (h : InT T a) : CallTo Try.prog 43 [.ptr 0 0, .lit (.string s)] (rdM T a) fun v M' => v = boo (wordB T a s) ∧ M'.get 0 = some (rdB T (wordA T a s)) :=
  to (G := fun r => r.1 = boo (wordB T a s) ∧ r.2.get 0 = some (rdB T (wordA T a s))) [cSpc T, cKind T] [] 400 30 (.yes (.yes (.br (.auto 7 (.yes (.auto 4 (.br .done .done)))) (.auto 13 .done)))) (let e1 := (@AV.view (T).length 3 (fun y0 => (fun y1 => (@AV.lit ([(@Value.int IntKind.i64 ((T.getD y0 tok0)).kind), (@Value.string ((T.getD y0 tok0)).text), (@Value.int IntKind.i64 ((T.getD y0 tok0)).n)].getD y1 (@Value.tuple (@Array.mk _ []))))))); let e2 := (some (@Blk.mk [e1, (int a)] 55 none)); let e3 := (@skI T a); let e4 := (some (@Blk.mk [e1, (int e3)] 55 none)); (.need (@isSo (@And (e2 = e2) (@And (([] : List AV) = []) (@InT T a)))) (.need (@isSo (@And (e4 = e4) (@And (([] : List AV) = []) (@InT T e3)))) (.fork (eqI (@kindI T e3) (1 : Int)) (.need (@inR e3 (T).length) (.fork (@bytesEq (@Array.toList _ (@ByteArray.data ((T.getD (e3).toNat tok0)).text)) (@Array.toList _ (@ByteArray.data s))) (.leaf ((boo true), (@Mem.mk 1 (((0 + 1) + 1) + 1) [(some (@Blk.mk (e1 :: [(int (w64 (e3 + (1 : Int))))]) 55 none))]))) (.leaf ((boo false), (@Mem.mk 1 ((0 + 1) + 1) [e4]))))) (.leaf ((boo false), (@Mem.mk 1 ((0 + 1) + 1) [e4]))))))) (by kernel_rfl) (by
    have hs := skI_in h
    refine need_so ⟨rfl, rfl, h⟩ (need_so ⟨rfl, rfl, hs⟩ ?_)
    obtain ⟨⟨h0, h1⟩, h2⟩ := hs
    have hl : T.length ≤ 17592186044416 := h2
    unfold wordA wordB
    refine fork_ok (fun h3 => ?_) (fun h3 => ?_)
    · have h4 := kindI_in h0 (T := T) (by rw [eqI_t] at h3; omega)
      have e1 : w64 (skI T a + 1) = skI T a + 1 := w64_in (by omega)
      rw [h3]
      refine need_t (by rw [inR_t]; omega) (fork_ok (fun h5 => ?_) (fun h5 => ?_))
      · rw [h5, e1]
        exact ⟨rfl, rfl⟩
      · rw [h5]
        exact ⟨rfl, rfl⟩
    · rw [h3]
      exact ⟨rfl, rfl⟩)
noncomputable abbrev Sy.cWord (T : List TokV) : Con Try.prog := conR T 43 (fun r => match r with | [.lit (.string s)] => some s | _ => none) (fun s => [.lit (.string s)]) (fun a s => boo (wordB T a s)) (fun a s => wordA T a s) (fun a _ => InT T a) fun a s h => by
  refine ⟨⟨⟨trivial, trivial⟩, trivial⟩, (word_t T a s h).mono fun v M' ⟨q1, q2⟩ => ?_⟩
  subst q1
  exact ⟨Frz.lit _ _ _ _, q2⟩
def numbB (T : List TokV) (a : Int) : Bool := eqI (kindI T a) 7
def numbN (T : List TokV) (a : Int) : Int := if numbB T a then nI T a else 0
def numbA (T : List TokV) (a : Int) : Int := if numbB T a then a + 1 else a
theorem kind_step {T : List TokV} {a k : Int} (h : InT T a) (h3 : eqI (kindI T a) k = true) (hk : k ≠ 0) : InT T (a + 1) := by
  obtain ⟨⟨h0, h1⟩, h2⟩ := h
  refine ⟨?_, h2⟩
  have := kindI_in h0 (T := T) (by rw [eqI_t] at h3; omega)
  omega
theorem numbA_in {T : List TokV} {a : Int} (h : InT T a) : InT T (numbA T a) := by
  unfold numbA
  split
  · rename_i h3
    exact kind_step h h3 (by decide)
  · exact h
theorem Sy.numb_t (T : List TokV) (a : Int) (h : InT T a) : CallTo Try.prog 100 [.ptr 0 0] (rdM T a) fun v M' => v = .tup [int (numbN T a), boo (numbB T a)] ∧ M'.get 0 = some (rdB T (numbA T a)) :=
  to (G := fun r => r.1 = .tup [int (numbN T a), boo (numbB T a)] ∧ r.2.get 0 = some (rdB T (numbA T a))) [cKind T] [] 400 30 (.yes (.br .done (.yes .done))) (let e1 := (@AV.view (T).length 3 (fun y0 => (fun y1 => (@AV.lit ([(@Value.int IntKind.i64 ((T.getD y0 tok0)).kind), (@Value.string ((T.getD y0 tok0)).text), (@Value.int IntKind.i64 ((T.getD y0 tok0)).n)].getD y1 (@Value.tuple (@Array.mk _ []))))))); let e2 := (some (@Blk.mk [e1, (int a)] 55 none)); let e3 := (w64 ((w64 (a + (1 : Int))) - (1 : Int))); (.need (@isSo (@And (e2 = e2) (@And (([] : List AV) = []) (@InT T a)))) (.fork (!(eqI (@kindI T a) (7 : Int))) (.leaf ((@AV.tup [(int (0 : Int)), (boo false)]), (@Mem.mk 1 (0 + 1) [e2]))) (.need (@inR e3 (T).length) (.leaf ((@AV.tup [(int ((T.getD (e3).toNat tok0)).n), (boo true)]), (@Mem.mk 1 ((0 + 1) + 1) [(some (@Blk.mk (e1 :: [(int (w64 (a + (1 : Int))))]) 55 none))]))))))) (by kernel_rfl) (by
    refine need_so ⟨rfl, rfl, h⟩ ?_
    obtain ⟨⟨h0, h1⟩, h2⟩ := h
    have hl : T.length ≤ 17592186044416 := h2
    refine fork_ok (fun h3 => ?_) (fun h3 => ?_)
    · have e : numbB T a = false := by unfold numbB; simpa using h3
      unfold numbN numbA
      rw [e]
      exact ⟨rfl, rfl⟩
    · have e : numbB T a = true := by unfold numbB; simpa using h3
      have h4 := kindI_in h0 (T := T) (by unfold numbB at e; rw [eqI_t] at e; omega)
      have e1 : w64 (a + 1) = a + 1 := w64_in (by omega)
      have e2 : w64 (a + 1 - 1) = a := by rw [show a + 1 - 1 = a by omega]; exact w64_in (by omega)
      rw [e1, e2]
      refine need_t (by rw [inR_t]; omega) ?_
      unfold numbN numbA nI
      rw [e]
      exact ⟨rfl, rfl⟩)
noncomputable abbrev Sy.cNumb (T : List TokV) : Con Try.prog := conR T 100 (fun r => match r with | [] => some () | _ => none) (fun _ => []) (fun a _ => .tup [int (numbN T a), boo (numbB T a)]) (fun a _ => numbA T a) (fun a _ => InT T a) fun a _ h => by
  refine ⟨⟨trivial, ⟨trivial, trivial, trivial⟩⟩, (numb_t T a h).mono fun v M' ⟨q1, q2⟩ => ?_⟩
  subst q1
  exact ⟨Frz.free _ _ ⟨trivial, trivial, trivial⟩, q2⟩
end Go.Proofs.Ytlmanlpgknhfpaa
namespace Go.Proofs.Ytlmanlpgknhfpaa
open Go Go.RowKit Pl Sy
def opL (T : List TokV) (a : Int) : Int := signA T (skI T a) ⟨⟨[60]⟩⟩
def opG (T : List TokV) (a : Int) : Int := signA T (opL T a) ⟨⟨[62]⟩⟩
def opI (T : List TokV) (a : Int) : Int := if signB T (skI T a) ⟨⟨[60]⟩⟩ then (if signB T (opL T a) ⟨⟨[61]⟩⟩ then 2 else 1) else if signB T (opL T a) ⟨⟨[62]⟩⟩ then (if signB T (opG T a) ⟨⟨[61]⟩⟩ then 4 else 5) else if signB T (opG T a) ⟨⟨[61]⟩⟩ then 3 else 0
def opA (T : List TokV) (a : Int) : Int := if signB T (skI T a) ⟨⟨[60]⟩⟩ then signA T (opL T a) ⟨⟨[61]⟩⟩ else signA T (opG T a) ⟨⟨[61]⟩⟩
theorem opA_in {T : List TokV} {a : Int} (h : InT T a) : InT T (opA T a) := by
  unfold opA opG opL
  split <;> (repeat' (first | assumption | with_reducible apply skI_in | with_reducible apply signA_in | with_reducible apply numbA_in | with_reducible apply wordA_in))
theorem Sy.op_t (T : List TokV) (a : Int) (h : InT T a) : CallTo Try.prog 93 [.ptr 0 0] (rdM T a) fun v M' => v = int (opI T a) ∧ M'.get 0 = some (rdB T (opA T a)) :=
  to (G := fun r => r.1 = int (opI T a) ∧ r.2.get 0 = some (rdB T (opA T a))) [cSpc T, cSign T] [] 400 30 (.yes (.yes (.br (.yes (.br .done .done)) (.yes (.br (.yes (.br .done .done)) (.yes (.br .done .done))))))) (let e1 := (@AV.view (T).length 3 (fun y0 => (fun y1 => (@AV.lit ([(@Value.int IntKind.i64 ((T.getD y0 tok0)).kind), (@Value.string ((T.getD y0 tok0)).text), (@Value.int IntKind.i64 ((T.getD y0 tok0)).n)].getD y1 (@Value.tuple (@Array.mk _ []))))))); let e2 := (some (@Blk.mk [e1, (int a)] 55 none)); let e3 := (some (@Blk.mk [e1, (int (@skI T a))] 55 none)); let e4 := (@ByteArray.mk (@Array.mk _ [(60 : UInt8)])); let e5 := (@signA T (@skI T a) e4); let e6 := (some (@Blk.mk [e1, (int e5)] 55 none)); let e7 := (@ByteArray.mk (@Array.mk _ [(61 : UInt8)])); let e8 := ([(@AV.lit (@Value.string e7))] = [(@AV.lit (@Value.string e7))]); let e9 := (@Mem.mk 1 (((0 + 1) + 1) + 1) [(some (@Blk.mk [e1, (int (@signA T e5 e7))] 55 none))]); let e10 := (@ByteArray.mk (@Array.mk _ [(62 : UInt8)])); let e11 := (@AV.lit (@Value.string e10)); let e12 := (@signA T e5 e10); let e13 := (some (@Blk.mk [e1, (int e12)] 55 none)); let e14 := (@isSo (@And (e13 = e13) (@And e8 (@InT T e12)))); let e15 := (@Mem.mk 1 ((((0 + 1) + 1) + 1) + 1) [(some (@Blk.mk [e1, (int (@signA T e12 e7))] 55 none))]); (.need (@isSo (@And (e2 = e2) (@And (([] : List AV) = []) (@InT T a)))) (.need (@isSo (@And (e3 = e3) (@And ([(@AV.lit (@Value.string e4))] = [(@AV.lit (@Value.string e4))]) (@InT T (@skI T a))))) (.fork (@signB T (@skI T a) e4) (.need (@isSo (@And (e6 = e6) (@And e8 (@InT T e5)))) (.fork (@signB T e5 e7) (.leaf ((int (2 : Int)), e9)) (.leaf ((int (1 : Int)), e9)))) (.need (@isSo (@And (e6 = e6) (@And ([e11] = [e11]) (@InT T e5)))) (.fork (@signB T e5 e10) (.need e14 (.fork (@signB T e12 e7) (.leaf ((int (4 : Int)), e15)) (.leaf ((int (5 : Int)), e15)))) (.need e14 (.fork (@signB T e12 e7) (.leaf ((int (3 : Int)), e15)) (.leaf ((int (0 : Int)), e15)))))))))) (by kernel_rfl) (by
    (repeat' (first
      | (refine need_so ?_ ?_; (focus (refine ⟨rfl, rfl, ?_⟩; (repeat' (first | assumption | with_reducible apply skI_in | with_reducible apply signA_in | with_reducible apply numbA_in | with_reducible apply wordA_in)); done)))
      | (refine fork_ok (fun _ => ?_) (fun _ => ?_))))
    all_goals (simp only [opI, opA, opG, opL, *, if_true, Bool.false_eq_true, if_false])
    all_goals exact ⟨rfl, rfl⟩)
noncomputable abbrev Sy.cOp (T : List TokV) : Con Try.prog := conR T 93 (fun r => match r with | [] => some () | _ => none) (fun _ => []) (fun a _ => int (opI T a)) (fun a _ => opA T a) (fun a _ => InT T a) fun a _ h => by
  refine ⟨⟨trivial, trivial⟩, (op_t T a h).mono fun v M' ⟨q1, q2⟩ => ?_⟩
  subst q1
  exact ⟨Frz.lit _ _ _ _, q2⟩
def pxB (T : List TokV) (a : Int) : Bool := eqI (kindI T a) 9 && bytesEq (T.getD a.toNat tok0).text.data.toList (⟨⟨[112, 120]⟩⟩ : ByteArray).data.toList
def lenN (T : List TokV) (a : Int) : Int := if pxB T a then nI T a else 0
def lenB (T : List TokV) (a : Int) : Bool := pxB T a || (numbB T a && eqI (numbN T a) 0)
def lenA (T : List TokV) (a : Int) : Int := if pxB T a then a + 1 else numbA T a
theorem lenA_in {T : List TokV} {a : Int} (h : InT T a) : InT T (lenA T a) := by
  unfold lenA
  split
  · rename_i h3
    unfold pxB at h3
    rw [Bool.and_eq_true] at h3
    exact kind_step h h3.1 (by decide)
  · exact numbA_in h
abbrev Sy.bndG (n d : Int) (b : Bool) : AV := .tup [.agg [int 0, int n, int d], boo b]
theorem Sy.bndG_free (n d : Int) (b : Bool) : Free (bndG n d b) := ⟨⟨trivial, trivial, trivial, trivial⟩, trivial, trivial⟩
theorem Sy.len_t (T : List TokV) (a : Int) (h : InT T a) : CallTo Try.prog 96 [.ptr 0 0] (rdM T a) fun v M' => v = bndG (lenN T a) 0 (lenB T a) ∧ M'.get 0 = some (rdB T (lenA T a)) :=
  to (G := fun r => r.1 = bndG (lenN T a) 0 (lenB T a) ∧ r.2.get 0 = some (rdB T (lenA T a))) [cKind T, cNumb T] [] 400 30 (.yes (.br (.auto 7 (.yes (.auto 3 (.br (.yes .done) (.yes (.br (.auto 1 .done) (.auto 1 .done))))))) (.auto 12 (.yes (.br (.auto 1 .done) (.auto 1 .done)))))) (let e1 := (@AV.view (T).length 3 (fun y0 => (fun y1 => (@AV.lit ([(@Value.int IntKind.i64 ((T.getD y0 tok0)).kind), (@Value.string ((T.getD y0 tok0)).text), (@Value.int IntKind.i64 ((T.getD y0 tok0)).n)].getD y1 (@Value.tuple (@Array.mk _ []))))))); let e2 := (some (@Blk.mk [e1, (int a)] 55 none)); let e3 := (@isSo (@And (e2 = e2) (@And (([] : List AV) = []) (@InT T a)))); let e4 := (w64 ((w64 (a + (1 : Int))) - (1 : Int))); let e5 := (int (0 : Int)); let e6 := (int ((T.getD (e4).toNat tok0)).n); let e7 := (@Value.int IntKind.i64 (0 : Int)); let e8 := (e5 :: (e6 :: (e5 :: (@List.drop _ (0 + ((e5 :: (e6 :: (@List.drop _ (1 + ([e6]).length) (@List.map _ _ AV.lit (@Array.toList _ (@Array.mk _ [e7, e7, e7]))))))).length) [e5, e5, e5])))); let e9 := (e5 :: e5 :: e5 :: (@List.drop _ (0 + ([e5, e5, e5]).length) [e5, e5, e5])); let e10 := (@AV.agg (@List.take _ 3 e9)); let e11 := (@Mem.mk (1 + 1) (((0 + 1) + 1) + 1) [(some (@Blk.mk e9 43 none)), (some (@Blk.mk [e1, (int (@numbA T a))] 55 none))]); (.need e3 (.fork (eqI (@kindI T a) (9 : Int)) (.need (@inR a (T).length) (.fork (@bytesEq (@Array.toList _ (@ByteArray.data ((T.getD (a).toNat tok0)).text)) (@Array.toList _ (@ByteArray.data (@ByteArray.mk (@Array.mk _ [(112 : UInt8), (120 : UInt8)]))))) (.need (@inR e4 (T).length) (.leaf ((@AV.tup [(@AV.agg (@List.take _ 3 e8)), (boo true)]), (@Mem.mk (1 + 1) (((0 + 1) + 1) + 1) [(some (@Blk.mk e8 43 none)), (some (@Blk.mk (e1 :: [(int (w64 (a + (1 : Int))))]) 55 none))])))) (.need e3 (.fork (@numbB T a) (.leaf ((@AV.tup [e10, (boo (eqI (@numbN T a) (0 : Int)))]), e11)) (.leaf ((@AV.tup [e10, (boo false)]), e11)))))) (.need e3 (.fork (@numbB T a) (.leaf ((@AV.tup [e10, (boo (eqI (@numbN T a) (0 : Int)))]), e11)) (.leaf ((@AV.tup [e10, (boo false)]), e11))))))) (by kernel_rfl) (by
    refine need_so ⟨rfl, rfl, h⟩ (fork_ok (fun h3 => ?_) (fun h3 => ?_))
    · have h4 := kind_step h h3 (by decide)
      have hl : T.length ≤ 17592186044416 := h.2
      have h0 := h.1.1
      have h5 := h4.1.2
      have e1 : w64 (a + 1) = a + 1 := w64_in (by omega)
      have e2 : w64 (a + 1 - 1) = a := by rw [show a + 1 - 1 = a by omega]; exact w64_in (by omega)
      have hr : inR a T.length = true := by rw [inR_t]; omega
      rw [e1, e2]
      refine need_t hr (fork_ok (fun h6 => need_t hr ?_) (fun h6 => ?_))
      · have e : pxB T a = true := by unfold pxB; rw [h3, h6]; rfl
        simp only [lenN, lenB, lenA, e, if_true, Bool.true_or]
        exact ⟨rfl, rfl⟩
      · have e : pxB T a = false := by unfold pxB; rw [h3, h6]; rfl
        refine need_so ⟨rfl, rfl, h⟩ (fork_ok (fun h7 => ?_) (fun h7 => ?_))
        · simp only [lenN, lenB, lenA, e, h7, Bool.false_eq_true, if_false, Bool.false_or, Bool.true_and]
          exact ⟨rfl, rfl⟩
        · simp only [lenN, lenB, lenA, e, h7, Bool.false_eq_true, if_false, Bool.false_or, Bool.false_and]
          exact ⟨rfl, rfl⟩
    · have e : pxB T a = false := by unfold pxB; rw [h3]; rfl
      refine need_so ⟨rfl, rfl, h⟩ (fork_ok (fun h7 => ?_) (fun h7 => ?_))
      · simp only [lenN, lenB, lenA, e, h7, Bool.false_eq_true, if_false, Bool.false_or, Bool.true_and]
        exact ⟨rfl, rfl⟩
      · simp only [lenN, lenB, lenA, e, h7, Bool.false_eq_true, if_false, Bool.false_or, Bool.false_and]
        exact ⟨rfl, rfl⟩)
noncomputable abbrev Sy.cLen (T : List TokV) : Con Try.prog := conR T 96 (fun r => match r with | [] => some () | _ => none) (fun _ => []) (fun a _ => bndG (lenN T a) 0 (lenB T a)) (fun a _ => lenA T a) (fun a _ => InT T a) fun a _ h => by
  refine ⟨⟨trivial, bndG_free _ _ _⟩, (len_t T a h).mono fun v M' ⟨q1, q2⟩ => ?_⟩
  subst q1
  exact ⟨Frz.free _ _ (bndG_free _ _ _), q2⟩
def ratS (T : List TokV) (a : Int) : Int := skI T (numbA T a)
def ratK (T : List TokV) (a : Int) : Int := skI T (signA T (ratS T a) ⟨⟨[47]⟩⟩)
def ratD (T : List TokV) (a : Int) : Int := if signB T (ratS T a) ⟨⟨[47]⟩⟩ then numbN T (ratK T a) else 1000
def ratB (T : List TokV) (a : Int) : Bool := if signB T (ratS T a) ⟨⟨[47]⟩⟩ then numbB T a && (numbB T (ratK T a) && (!leI (numbN T a) 0 && !leI (numbN T (ratK T a)) 0)) else numbB T a && !leI (numbN T a) 0
def ratA (T : List TokV) (a : Int) : Int := if signB T (ratS T a) ⟨⟨[47]⟩⟩ then numbA T (ratK T a) else numbA T a
theorem ratA_in {T : List TokV} {a : Int} (h : InT T a) : InT T (ratA T a) := by
  unfold ratA ratK ratS
  split <;> (repeat' (first | assumption | with_reducible apply skI_in | with_reducible apply signA_in | with_reducible apply numbA_in | with_reducible apply wordA_in))
theorem Sy.rat_t (T : List TokV) (a : Int) (h : InT T a) : CallTo Try.prog 97 [.ptr 0 0] (rdM T a) fun v M' => v = bndG (numbN T a) (ratD T a) (ratB T a) ∧ M'.get 0 = some (rdB T (ratA T a)) :=
  to (G := fun r => r.1 = bndG (numbN T a) (ratD T a) (ratB T a) ∧ r.2.get 0 = some (rdB T (ratA T a))) [cSpc T, cSign T, cNumb T] [] 400 30 (.yes (.yes (.yes (.br (.br (.auto 1 .done) (.auto 1 .done)) (.yes (.yes (.br (.auto 0 (.br (.auto 1 (.br (.auto 1 .done) (.auto 1 .done))) (.auto 4 .done))) (.auto 6 .done)))))))) (let e1 := (@AV.view (T).length 3 (fun y0 => (fun y1 => (@AV.lit ([(@Value.int IntKind.i64 ((T.getD y0 tok0)).kind), (@Value.string ((T.getD y0 tok0)).text), (@Value.int IntKind.i64 ((T.getD y0 tok0)).n)].getD y1 (@Value.tuple (@Array.mk _ []))))))); let e2 := (some (@Blk.mk [e1, (int a)] 55 none)); let e3 := (([] : List AV) = []); let e4 := (some (@Blk.mk [e1, (int (@numbA T a))] 55 none)); let e5 := (@skI T (@numbA T a)); let e6 := (some (@Blk.mk [e1, (int e5)] 55 none)); let e7 := (@ByteArray.mk (@Array.mk _ [(47 : UInt8)])); let e8 := (int (0 : Int)); let e9 := (int (@numbN T a)); let e10 := (int (1000 : Int)); let e11 := (e8 :: (e9 :: e10 :: (@List.drop _ (0 + ((e8 :: [e9, e10])).length) [e8, e8, e8]))); let e12 := (@AV.agg (@List.take _ 3 e11)); let e13 := (!(leI (@numbN T a) (0 : Int))); let e14 := ((((((0 + 1) + 1) + 1) + 1) + 1) + 1); let e15 := (@Mem.mk ((1 + 1) + 1) e14 ((some (@Blk.mk (e8 :: (e9 :: e10 :: [])) 43 none)) :: [(some (@Blk.mk e11 43 none)), (some (@Blk.mk (e1 :: [(int (@numbA T a))]) 55 none))])); let e16 := (some (@Blk.mk [e1, (int (@signA T e5 e7))] 55 none)); let e17 := (@skI T (@signA T e5 e7)); let e18 := (some (@Blk.mk [e1, (int e17)] 55 none)); let e19 := (int (@numbN T e17)); let e20 := (e8 :: (e9 :: (e19 :: (@List.drop _ (0 + ((e8 :: (e9 :: [e19]))).length) [e8, e8, e8])))); let e21 := (@AV.agg (@List.take _ 3 e20)); let e22 := (@Mem.mk ((1 + 1) + 1) ((e14 + 1) + 1) ((some (@Blk.mk (e8 :: (e9 :: (e19 :: (@List.drop _ (2 + ([e19]).length) (e8 :: (e9 :: e10 :: [])))))) 43 none)) :: [(some (@Blk.mk e20 43 none)), (some (@Blk.mk [e1, (int (@numbA T e17))] 55 none))])); (.need (@isSo (@And (e2 = e2) (@And e3 (@InT T a)))) (.need (@isSo (@And (e4 = e4) (@And e3 (@InT T (@numbA T a))))) (.need (@isSo (@And (e6 = e6) (@And ([(@AV.lit (@Value.string e7))] = [(@AV.lit (@Value.string e7))]) (@InT T e5)))) (.fork (!(@signB T e5 e7)) (.fork (@numbB T a) (.leaf ((@AV.tup [e12, (boo e13)]), e15)) (.leaf ((@AV.tup [e12, (boo false)]), e15))) (.need (@isSo (@And (e16 = e16) (@And e3 (@InT T (@signA T e5 e7))))) (.need (@isSo (@And (e18 = e18) (@And e3 (@InT T e17)))) (.fork (@numbB T a) (.fork (@numbB T e17) (.fork e13 (.leaf ((@AV.tup [e21, (boo (!(leI (@numbN T e17) (0 : Int))))]), e22)) (.leaf ((@AV.tup [e21, (boo false)]), e22))) (.leaf ((@AV.tup [e21, (boo false)]), e22))) (.leaf ((@AV.tup [e21, (boo false)]), e22)))))))))) (by kernel_rfl) (by
    (repeat' (first
      | (refine need_so ?_ ?_; (focus (refine ⟨rfl, rfl, ?_⟩; (repeat' (first | assumption | with_reducible apply skI_in | with_reducible apply signA_in | with_reducible apply numbA_in | with_reducible apply wordA_in)); done)))
      | (refine fork_ok (fun _ => ?_) (fun _ => ?_))))
    (all_goals (simp only [Bool.not_eq_true', Bool.not_eq_false'] at *))
    all_goals (simp only [ratD, ratB, ratA, ratK, ratS, *, if_true, Bool.false_eq_true, if_false, Bool.true_and, Bool.false_and, Bool.and_false, Bool.not_true, Bool.not_false])
    all_goals exact ⟨rfl, rfl⟩)
noncomputable abbrev Sy.cRat (T : List TokV) : Con Try.prog := conR T 97 (fun r => match r with | [] => some () | _ => none) (fun _ => []) (fun a _ => bndG (numbN T a) (ratD T a) (ratB T a)) (fun a _ => ratA T a) (fun a _ => InT T a) fun a _ h => by
  refine ⟨⟨trivial, bndG_free _ _ _⟩, (rat_t T a h).mono fun v M' ⟨q1, q2⟩ => ?_⟩
  subst q1
  exact ⟨Frz.free _ _ (bndG_free _ _ _), q2⟩
def trnP (T : List TokV) (a : Int) : Int := wordA T a ⟨⟨[112, 111, 114, 116, 114, 97, 105, 116]⟩⟩
def trnN (T : List TokV) (a : Int) : Int := if wordB T a ⟨⟨[112, 111, 114, 116, 114, 97, 105, 116]⟩⟩ then 1 else if wordB T (trnP T a) ⟨⟨[108, 97, 110, 100, 115, 99, 97, 112, 101]⟩⟩ then 2 else 0
def trnB (T : List TokV) (a : Int) : Bool := wordB T a ⟨⟨[112, 111, 114, 116, 114, 97, 105, 116]⟩⟩ || wordB T (trnP T a) ⟨⟨[108, 97, 110, 100, 115, 99, 97, 112, 101]⟩⟩
def trnA (T : List TokV) (a : Int) : Int := if wordB T a ⟨⟨[112, 111, 114, 116, 114, 97, 105, 116]⟩⟩ then trnP T a else wordA T (trnP T a) ⟨⟨[108, 97, 110, 100, 115, 99, 97, 112, 101]⟩⟩
theorem trnA_in {T : List TokV} {a : Int} (h : InT T a) : InT T (trnA T a) := by
  unfold trnA trnP
  split <;> (repeat' (first | assumption | with_reducible apply skI_in | with_reducible apply signA_in | with_reducible apply numbA_in | with_reducible apply wordA_in))
theorem Sy.trn_t (T : List TokV) (a : Int) (h : InT T a) : CallTo Try.prog 98 [.ptr 0 0] (rdM T a) fun v M' => v = bndG (trnN T a) 0 (trnB T a) ∧ M'.get 0 = some (rdB T (trnA T a)) :=
  to (G := fun r => r.1 = bndG (trnN T a) 0 (trnB T a) ∧ r.2.get 0 = some (rdB T (trnA T a))) [cWord T] [] 400 30 (.yes (.br .done (.yes (.br .done .done)))) (let e1 := (@AV.view (T).length 3 (fun y0 => (fun y1 => (@AV.lit ([(@Value.int IntKind.i64 ((T.getD y0 tok0)).kind), (@Value.string ((T.getD y0 tok0)).text), (@Value.int IntKind.i64 ((T.getD y0 tok0)).n)].getD y1 (@Value.tuple (@Array.mk _ []))))))); let e2 := (some (@Blk.mk [e1, (int a)] 55 none)); let e3 := (@ByteArray.mk (@Array.mk _ [(112 : UInt8), (111 : UInt8), (114 : UInt8), (116 : UInt8), (114 : UInt8), (97 : UInt8), (105 : UInt8), (116 : UInt8)])); let e4 := (int (0 : Int)); let e5 := (@Value.int IntKind.i64 (0 : Int)); let e6 := (@List.drop _ 2 (@List.map _ _ AV.lit (@Array.toList _ (@Array.mk _ [e5, e5, e5])))); let e7 := (e4 :: (int (1 : Int)) :: e4 :: (@List.drop _ (0 + ((e4 :: (int (1 : Int)) :: e6)).length) [e4, e4, e4])); let e8 := (@wordA T a e3); let e9 := (some (@Blk.mk [e1, (int e8)] 55 none)); let e10 := (@ByteArray.mk (@Array.mk _ [(108 : UInt8), (97 : UInt8), (110 : UInt8), (100 : UInt8), (115 : UInt8), (99 : UInt8), (97 : UInt8), (112 : UInt8), (101 : UInt8)])); let e11 := (@AV.lit (@Value.string e10)); let e12 := (e4 :: (int (2 : Int)) :: e4 :: (@List.drop _ (0 + ((e4 :: (int (2 : Int)) :: e6)).length) [e4, e4, e4])); let e13 := (some (@Blk.mk [e1, (int (@wordA T e8 e10))] 55 none)); let e14 := (e4 :: e4 :: e4 :: (@List.drop _ (0 + ([e4, e4, e4]).length) [e4, e4, e4])); (.need (@isSo (@And (e2 = e2) (@And ([(@AV.lit (@Value.string e3))] = [(@AV.lit (@Value.string e3))]) (@InT T a)))) (.fork (@wordB T a e3) (.leaf ((@AV.tup [(@AV.agg (@List.take _ 3 e7)), (boo true)]), (@Mem.mk (1 + 1) ((0 + 1) + 1) [(some (@Blk.mk e7 43 none)), e9]))) (.need (@isSo (@And (e9 = e9) (@And ([e11] = [e11]) (@InT T e8)))) (.fork (@wordB T e8 e10) (.leaf ((@AV.tup [(@AV.agg (@List.take _ 3 e12)), (boo true)]), (@Mem.mk (1 + 1) (((0 + 1) + 1) + 1) [(some (@Blk.mk e12 43 none)), e13]))) (.leaf ((@AV.tup [(@AV.agg (@List.take _ 3 e14)), (boo false)]), (@Mem.mk (1 + 1) (((0 + 1) + 1) + 1) [(some (@Blk.mk e14 43 none)), e13])))))))) (by kernel_rfl) (by
    (repeat' (first
      | (refine need_so ?_ ?_; (focus (refine ⟨rfl, rfl, ?_⟩; (repeat' (first | assumption | with_reducible apply skI_in | with_reducible apply signA_in | with_reducible apply numbA_in | with_reducible apply wordA_in)); done)))
      | (refine fork_ok (fun _ => ?_) (fun _ => ?_))))
    all_goals (simp only [trnN, trnB, trnA, trnP, *, if_true, Bool.false_eq_true, if_false, Bool.true_or, Bool.false_or])
    all_goals exact ⟨rfl, rfl⟩)
noncomputable abbrev Sy.cTrn (T : List TokV) : Con Try.prog := conR T 98 (fun r => match r with | [] => some () | _ => none) (fun _ => []) (fun a _ => bndG (trnN T a) 0 (trnB T a)) (fun a _ => trnA T a) (fun a _ => InT T a) fun a _ h => by
  refine ⟨⟨trivial, bndG_free _ _ _⟩, (trn_t T a h).mono fun v M' ⟨q1, q2⟩ => ?_⟩
  subst q1
  exact ⟨Frz.free _ _ (bndG_free _ _ _), q2⟩
end Go.Proofs.Ytlmanlpgknhfpaa
namespace Go.Proofs.Ytlmanlpgknhfpaa
open Go Go.RowKit Pl Sy
def bnN (T : List TokV) (a f : Int) : Int := if eqI f 5 then numbN T (skI T a) else if eqI f 6 then trnN T (skI T a) else lenN T (skI T a)
def bnD (T : List TokV) (a f : Int) : Int := if eqI f 5 then ratD T (skI T a) else 0
def bnB (T : List TokV) (a f : Int) : Bool := if eqI f 5 then ratB T (skI T a) else if eqI f 6 then trnB T (skI T a) else lenB T (skI T a)
def bnA (T : List TokV) (a f : Int) : Int := if eqI f 5 then ratA T (skI T a) else if eqI f 6 then trnA T (skI T a) else lenA T (skI T a)
theorem bnA_in {T : List TokV} {a f : Int} (h : InT T a) : InT T (bnA T a f) := by
  unfold bnA
  split
  · (repeat' (first | assumption | with_reducible apply skI_in | with_reducible apply signA_in | with_reducible apply numbA_in | with_reducible apply wordA_in | with_reducible apply opA_in | with_reducible apply lenA_in | with_reducible apply ratA_in | with_reducible apply trnA_in))
  · split <;> (repeat' (first | assumption | with_reducible apply skI_in | with_reducible apply signA_in | with_reducible apply numbA_in | with_reducible apply wordA_in | with_reducible apply opA_in | with_reducible apply lenA_in | with_reducible apply ratA_in | with_reducible apply trnA_in))
theorem Sy.bnd_t (T : List TokV) (a f o : Int) (h : InT T a) : CallTo Try.prog 92 [.ptr 0 0, int f, int o] (rdM T a) fun v M' => v = .tup [.agg [int o, int (bnN T a f), int (bnD T a f)], boo (bnB T a f)] ∧ M'.get 0 = some (rdB T (bnA T a f)) :=
  to (G := fun r => r.1 = .tup [.agg [int o, int (bnN T a f), int (bnD T a f)], boo (bnB T a f)] ∧ r.2.get 0 = some (rdB T (bnA T a f))) [cSpc T, cLen T, cRat T, cTrn T] [] 400 30 (.br (.yes (.yes .done)) (.br (.yes (.yes .done)) (.yes (.yes .done)))) (let e1 := (@AV.view (T).length 3 (fun y0 => (fun y1 => (@AV.lit ([(@Value.int IntKind.i64 ((T.getD y0 tok0)).kind), (@Value.string ((T.getD y0 tok0)).text), (@Value.int IntKind.i64 ((T.getD y0 tok0)).n)].getD y1 (@Value.tuple (@Array.mk _ []))))))); let e2 := (some (@Blk.mk [e1, (int a)] 55 none)); let e3 := (@isSo (@And (e2 = e2) (@And (([] : List AV) = []) (@InT T a)))); let e4 := (@skI T a); let e5 := (some (@Blk.mk [e1, (int e4)] 55 none)); let e6 := (@isSo (@And (e5 = e5) (@And (([] : List AV) = []) (@InT T e4)))); let e7 := (int o); let e8 := (int (@numbN T e4)); let e9 := (int (@ratD T e4)); let e10 := (int (0 : Int)); let e11 := (e7 :: (e8 :: e9 :: (@List.drop _ (0 + ((e7 :: [e8, e9])).length) [e10, e10, e10]))); let e12 := (((((0 + 1) + 1) + 1) + 1) + 1); let e13 := (0 + ([e7]).length); let e14 := (int (@trnN T e4)); let e15 := (e7 :: (e14 :: e10 :: (@List.drop _ (0 + ((e7 :: [e14, e10])).length) [e10, e10, e10]))); let e16 := (int (@lenN T e4)); let e17 := (e7 :: (e16 :: e10 :: (@List.drop _ (0 + ((e7 :: [e16, e10])).length) [e10, e10, e10]))); (.fork (eqI f (5 : Int)) (.need e3 (.need e6 (.leaf ((@AV.tup [(@AV.agg (@List.take _ 3 e11)), (boo (@ratB T e4))]), (@Mem.mk ((1 + 1) + 1) e12 ((some (@Blk.mk (e7 :: (@List.drop _ e13 (e10 :: e8 :: e9 :: (@List.drop _ (0 + ([e10, e8, e9]).length) [e10, e10, e10])))) 43 none)) :: [(some (@Blk.mk e11 43 none)), (some (@Blk.mk [e1, (int (@ratA T e4))] 55 none))])))))) (.fork (eqI f (6 : Int)) (.need e3 (.need e6 (.leaf ((@AV.tup [(@AV.agg (@List.take _ 3 e15)), (boo (@trnB T e4))]), (@Mem.mk ((1 + 1) + 1) e12 ((some (@Blk.mk (e7 :: (@List.drop _ e13 (e10 :: e14 :: e10 :: (@List.drop _ (0 + ([e10, e14, e10]).length) [e10, e10, e10])))) 43 none)) :: [(some (@Blk.mk e15 43 none)), (some (@Blk.mk [e1, (int (@trnA T e4))] 55 none))])))))) (.need e3 (.need e6 (.leaf ((@AV.tup [(@AV.agg (@List.take _ 3 e17)), (boo (@lenB T e4))]), (@Mem.mk ((1 + 1) + 1) e12 ((some (@Blk.mk (e7 :: (@List.drop _ e13 (e10 :: e16 :: e10 :: (@List.drop _ (0 + ([e10, e16, e10]).length) [e10, e10, e10])))) 43 none)) :: [(some (@Blk.mk e17 43 none)), (some (@Blk.mk [e1, (int (@lenA T e4))] 55 none))]))))))))) (by kernel_rfl) (by
    refine fork_ok (fun h1 => need_so ⟨rfl, rfl, h⟩ (need_so ⟨rfl, rfl, skI_in h⟩ ?_)) (fun h1 => fork_ok (fun h2 => need_so ⟨rfl, rfl, h⟩ (need_so ⟨rfl, rfl, skI_in h⟩ ?_)) (fun h2 => need_so ⟨rfl, rfl, h⟩ (need_so ⟨rfl, rfl, skI_in h⟩ ?_)))
    all_goals (simp only [bnN, bnD, bnB, bnA, *, if_true, Bool.false_eq_true, if_false])
    all_goals exact ⟨rfl, rfl⟩)
structure FoY where
  f : Int
  o : Int
noncomputable abbrev Sy.cBnd (T : List TokV) : Con Try.prog := conR T 92 (fun r => match r with | [.lit (.int .i64 f), .lit (.int .i64 o)] => some (FoY.mk f o) | _ => none) (fun y => [int y.f, int y.o]) (fun a y => .tup [.agg [int y.o, int (bnN T a y.f), int (bnD T a y.f)], boo (bnB T a y.f)]) (fun a y => bnA T a y.f) (fun a _ => InT T a) fun a y h => by
  refine ⟨⟨⟨trivial, trivial, trivial⟩, ⟨⟨trivial, trivial, trivial, trivial⟩, trivial, trivial⟩⟩, (bnd_t T a y.f y.o h).mono fun v M' ⟨q1, q2⟩ => ?_⟩
  subst q1
  exact ⟨Frz.free _ _ ⟨⟨trivial, trivial, trivial, trivial⟩, trivial, trivial⟩, q2⟩
def featS (f : Int) : ByteArray := if eqI f 1 then ⟨⟨[119, 105, 100, 116, 104]⟩⟩ else if eqI f 2 then ⟨⟨[104, 101, 105, 103, 104, 116]⟩⟩ else if eqI f 3 then ⟨⟨[105, 110, 108, 105, 110, 101, 45, 115, 105, 122, 101]⟩⟩ else if eqI f 4 then ⟨⟨[98, 108, 111, 99, 107, 45, 115, 105, 122, 101]⟩⟩ else if eqI f 5 then ⟨⟨[97, 115, 112, 101, 99, 116, 45, 114, 97, 116, 105, 111]⟩⟩ else if eqI f 6 then ⟨⟨[111, 114, 105, 101, 110, 116, 97, 116, 105, 111, 110]⟩⟩ else ⟨⟨[]⟩⟩
theorem Sy.fea_t (f : Int) : CallTo Try.prog 65 [int f] M0 fun v _ => v = .lit (.string (featS f)) :=
  toV [] [] 400 30 (.br .done (.br .done (.br .done (.br .done (.br .done (.br .done .done)))))) (let e1 := (105 : UInt8); let e2 := (116 : UInt8); let e3 := (101 : UInt8); let e4 := (110 : UInt8); let e5 := (111 : UInt8); (.fork (eqI f (1 : Int)) (.leaf (@AV.lit (@Value.string (@ByteArray.mk (@Array.mk _ [(119 : UInt8), e1, (100 : UInt8), e2, (104 : UInt8)]))))) (.fork (eqI f (2 : Int)) (.leaf (@AV.lit (@Value.string (@ByteArray.mk (@Array.mk _ [(104 : UInt8), e3, e1, (103 : UInt8), (104 : UInt8), e2]))))) (.fork (eqI f (3 : Int)) (.leaf (@AV.lit (@Value.string (@ByteArray.mk (@Array.mk _ [e1, e4, (108 : UInt8), e1, e4, e3, (45 : UInt8), (115 : UInt8), e1, (122 : UInt8), e3]))))) (.fork (eqI f (4 : Int)) (.leaf (@AV.lit (@Value.string (@ByteArray.mk (@Array.mk _ [(98 : UInt8), (108 : UInt8), e5, (99 : UInt8), (107 : UInt8), (45 : UInt8), (115 : UInt8), e1, (122 : UInt8), e3]))))) (.fork (eqI f (5 : Int)) (.leaf (@AV.lit (@Value.string (@ByteArray.mk (@Array.mk _ [(97 : UInt8), (115 : UInt8), (112 : UInt8), e3, (99 : UInt8), e2, (45 : UInt8), (114 : UInt8), (97 : UInt8), e2, e1, e5]))))) (.fork (eqI f (6 : Int)) (.leaf (@AV.lit (@Value.string (@ByteArray.mk (@Array.mk _ [e5, (114 : UInt8), e1, e3, e4, e2, (97 : UInt8), e2, e1, e5, e4]))))) (.leaf (@AV.lit (@Value.string (@ByteArray.mk (@Array.mk _ [])))))))))))) (by kernel_rfl) (by
    repeat' (first | refine fork_ok (fun _ => ?_) (fun _ => ?_))
    all_goals (simp only [featS, *, if_true, Bool.false_eq_true, if_false])
    all_goals rfl)
noncomputable abbrev Sy.cFea : Con Try.prog := int1 65 (fun f => .lit (.string (featS f))) (fun _ => trivial) fea_t
def calI (s : ByteArray) : Int := if bytesEq (⟨⟨[119, 105, 100, 116, 104]⟩⟩ : ByteArray).data.toList s.data.toList then 1 else if bytesEq (⟨⟨[104, 101, 105, 103, 104, 116]⟩⟩ : ByteArray).data.toList s.data.toList then 2 else if bytesEq (⟨⟨[105, 110, 108, 105, 110, 101, 45, 115, 105, 122, 101]⟩⟩ : ByteArray).data.toList s.data.toList then 3 else if bytesEq (⟨⟨[98, 108, 111, 99, 107, 45, 115, 105, 122, 101]⟩⟩ : ByteArray).data.toList s.data.toList then 4 else if bytesEq (⟨⟨[97, 115, 112, 101, 99, 116, 45, 114, 97, 116, 105, 111]⟩⟩ : ByteArray).data.toList s.data.toList then 5 else if bytesEq (⟨⟨[111, 114, 105, 101, 110, 116, 97, 116, 105, 111, 110]⟩⟩ : ByteArray).data.toList s.data.toList then 6 else 0
theorem Sy.cal_t (s : ByteArray) : CallTo Try.prog 94 [.lit (.string s)] M0 fun v _ => v = int (calI s) :=
  toV [] [] 400 30 (.auto 1 (.br .done (.auto 2 (.br .done (.auto 3 (.br .done (.auto 4 (.br .done (.auto 5 (.br .done (.auto 6 (.br .done (.auto 0 .done))))))))))))) (let e1 := (105 : UInt8); let e2 := (116 : UInt8); let e3 := (@Array.toList _ (@ByteArray.data s)); let e4 := (101 : UInt8); let e5 := (110 : UInt8); let e6 := (111 : UInt8); (.fork (@bytesEq (@Array.toList _ (@ByteArray.data (@ByteArray.mk (@Array.mk _ [(119 : UInt8), e1, (100 : UInt8), e2, (104 : UInt8)])))) e3) (.leaf (int (1 : Int))) (.fork (@bytesEq (@Array.toList _ (@ByteArray.data (@ByteArray.mk (@Array.mk _ [(104 : UInt8), e4, e1, (103 : UInt8), (104 : UInt8), e2])))) e3) (.leaf (int (2 : Int))) (.fork (@bytesEq (@Array.toList _ (@ByteArray.data (@ByteArray.mk (@Array.mk _ [e1, e5, (108 : UInt8), e1, e5, e4, (45 : UInt8), (115 : UInt8), e1, (122 : UInt8), e4])))) e3) (.leaf (int (3 : Int))) (.fork (@bytesEq (@Array.toList _ (@ByteArray.data (@ByteArray.mk (@Array.mk _ [(98 : UInt8), (108 : UInt8), e6, (99 : UInt8), (107 : UInt8), (45 : UInt8), (115 : UInt8), e1, (122 : UInt8), e4])))) e3) (.leaf (int (4 : Int))) (.fork (@bytesEq (@Array.toList _ (@ByteArray.data (@ByteArray.mk (@Array.mk _ [(97 : UInt8), (115 : UInt8), (112 : UInt8), e4, (99 : UInt8), e2, (45 : UInt8), (114 : UInt8), (97 : UInt8), e2, e1, e6])))) e3) (.leaf (int (5 : Int))) (.fork (@bytesEq (@Array.toList _ (@ByteArray.data (@ByteArray.mk (@Array.mk _ [e6, (114 : UInt8), e1, e4, e5, e2, (97 : UInt8), e2, e1, e6, e5])))) e3) (.leaf (int (6 : Int))) (.leaf (int (0 : Int)))))))))) (by kernel_rfl) (by
    repeat' (first | refine fork_ok (fun _ => ?_) (fun _ => ?_))
    all_goals (simp only [calI, *, if_true, Bool.false_eq_true, if_false])
    all_goals rfl)
noncomputable abbrev Sy.cCal : Con Try.prog := str1 94 (fun s => int (calI s)) (fun _ => True) (fun _ => trivial) fun s _ => cal_t s
def minB (s : ByteArray) : Bool := !leI (s.size : Nat) 4 && bytesEq (s.extract 0 4).data.toList (⟨⟨[109, 105, 110, 45]⟩⟩ : ByteArray).data.toList
def maxB (s : ByteArray) : Bool := !leI (s.size : Nat) 4 && bytesEq (s.extract 0 4).data.toList (⟨⟨[109, 97, 120, 45]⟩⟩ : ByteArray).data.toList
def tailI (s : ByteArray) : Int := calI (s.extract 4 s.size)
def nmdF (s : ByteArray) : Int := if leI (calI s) 0 then (if minB s || maxB s then (if leI (tailI s) 0 || eqI (tailI s) 6 then 0 else tailI s) else 0) else calI s
def nmdO (s : ByteArray) : Int := if leI (calI s) 0 then (if minB s || maxB s then (if leI (tailI s) 0 || eqI (tailI s) 6 then 0 else if minB s then 4 else 2) else 0) else 3
theorem Sy.nmd_t (s : ByteArray) (hs : s.size ≤ 9223372036854775807) : CallTo Try.prog 91 [.lit (.string s)] M0 fun v _ => v = .tup [int (nmdF s), int (nmdO s)] :=
  toV [cCal] [] 400 30 (.yes (.br .done (.br (.auto 0 (.yes (.auto 1 (.br (.yes (.yes (.br (.auto 1 (.br .done .done)) (.auto 2 .done)))) (.yes (.auto 0 (.yes (.auto 1 (.br (.yes (.yes (.br (.auto 1 (.br .done .done)) (.auto 2 .done)))) .done))))))))) (.auto 3 (.no (.auto 3 .done)))))) (let e1 := (((@ByteArray.size s) : Nat) : Int); let e2 := (!(leI e1 (4 : Int))); let e3 := (true && (true && (leI (4 : Int) e1))); let e4 := (@Array.toList _ (@ByteArray.data (@ByteArray.extract s 0 4))); let e5 := (true && ((leI (4 : Int) e1) && (leI e1 e1))); let e6 := (@calI (@ByteArray.extract s 4 (e1).toNat)); (.need (@isSo True) (.fork (!(leI (@calI s) (0 : Int))) (.leaf (@AV.tup [(int (@calI s)), (int (3 : Int))])) (.fork e2 (.need e3 (.fork (@bytesEq e4 (@Array.toList _ (@ByteArray.data (@ByteArray.mk (@Array.mk _ [(109 : UInt8), (105 : UInt8), (110 : UInt8), (45 : UInt8)]))))) (.need e5 (.need (@isSo True) (.fork (!(leI e6 (0 : Int))) (.fork (!(eqI e6 (6 : Int))) (.leaf (@AV.tup [(int e6), (int (4 : Int))])) (.leaf (@AV.tup [(int (0 : Int)), (int (0 : Int))]))) (.leaf (@AV.tup [(int (0 : Int)), (int (0 : Int))]))))) (.need e2 (.need e3 (.fork (@bytesEq e4 (@Array.toList _ (@ByteArray.data (@ByteArray.mk (@Array.mk _ [(109 : UInt8), (97 : UInt8), (120 : UInt8), (45 : UInt8)]))))) (.need e5 (.need (@isSo True) (.fork (!(leI e6 (0 : Int))) (.fork (!(eqI e6 (6 : Int))) (.leaf (@AV.tup [(int e6), (int (2 : Int))])) (.leaf (@AV.tup [(int (0 : Int)), (int (0 : Int))]))) (.leaf (@AV.tup [(int (0 : Int)), (int (0 : Int))]))))) (.leaf (@AV.tup [(int (0 : Int)), (int (0 : Int))]))))))) (.need (!e2) (.leaf (@AV.tup [(int (0 : Int)), (int (0 : Int))]))))))) (by kernel_rfl) (by
    refine need_so trivial (fork_ok (fun h1 => ?_) (fun h1 => ?_))
    · rw [Bool.not_eq_true'] at h1
      simp only [nmdF, nmdO, h1, Bool.false_eq_true, if_false]
      rfl
    · rw [Bool.not_eq_false'] at h1
      refine fork_ok (fun h2 => ?_) (fun h2 => need_t (by rw [h2]; rfl) ?_)
      · have h2' := h2
        rw [Bool.not_eq_true', leI_f] at h2'
        have r1 : (true && (true && leI 4 ((s.size : Nat) : Int))) = true := by simp only [Bool.true_and, leI_t]; omega
        have r2 : (true && (leI 4 ((s.size : Nat) : Int) && leI ((s.size : Nat) : Int) ((s.size : Nat) : Int))) = true := by simp only [Bool.true_and, Bool.and_eq_true, leI_t]; omega
        have e4 : calI (s.extract 4 (((s.size : Nat) : Int)).toNat) = tailI s := rfl
        refine need_t r1 (fork_ok (fun h3 => need_t r2 (need_so trivial ?_)) (fun h3 => need_t h2 (need_t r1 (fork_ok (fun h4 => need_t r2 (need_so trivial ?_)) (fun h4 => ?_)))))
        · have hm : minB s = true := by unfold minB; rw [h2, h3]; rfl
          rw [e4]
          refine fork_ok (fun h5 => fork_ok (fun h6 => ?_) (fun h6 => ?_)) (fun h5 => ?_)
          all_goals (simp only [Bool.not_eq_true', Bool.not_eq_false'] at *)
          all_goals (simp only [nmdF, nmdO, *, if_true, Bool.true_or, Bool.or_true, Bool.or_self, Bool.false_or, Bool.false_eq_true, if_false])
          all_goals rfl
        · have hm : minB s = false := by unfold minB; rw [h2, h3]; rfl
          have hm2 : maxB s = true := by unfold maxB; rw [h2, h4]; rfl
          rw [e4]
          refine fork_ok (fun h5 => fork_ok (fun h6 => ?_) (fun h6 => ?_)) (fun h5 => ?_)
          all_goals (simp only [Bool.not_eq_true', Bool.not_eq_false'] at *)
          all_goals (simp only [nmdF, nmdO, *, if_true, Bool.true_or, Bool.or_true, Bool.or_self, Bool.false_or, Bool.false_eq_true, if_false])
          all_goals rfl
        · have hm : minB s = false := by unfold minB; rw [h2, h3]; rfl
          have hm2 : maxB s = false := by unfold maxB; rw [h2, h4]; rfl
          simp only [nmdF, nmdO, h1, hm, hm2, if_true, Bool.or_self, Bool.false_eq_true, if_false]
          rfl
      · have hm : minB s = false := by unfold minB; rw [h2]; rfl
        have hm2 : maxB s = false := by unfold maxB; rw [h2]; rfl
        simp only [nmdF, nmdO, h1, hm, hm2, if_true, Bool.or_self, Bool.false_eq_true, if_false]
        rfl)
noncomputable abbrev Sy.cNmd : Con Try.prog := str1 91 (fun s => .tup [int (nmdF s), int (nmdO s)]) (fun s => s.size ≤ 9223372036854775807) (fun _ => ⟨trivial, trivial, trivial⟩) fun s h => nmd_t s h
end Go.Proofs.Ytlmanlpgknhfpaa
namespace Go.Proofs.Ytlmanlpgknhfpaa
open Go.RowKit Pl
theorem begins_p (c : Int) (w : World) (h0 : 0 ≤ c) (h1 : c ≤ 255) : Calls Try.prog 58 #[.int .u8 c] w fun e w' => e = .returned (.bool (begB c)) ∧ w = w' := by
  go_enter Try.func58, Try.ntmps58
  go_wp2
  all_goals
    go_ret
    exact ⟨ret_bool (by unfold begB; rw [Bool.eq_iff_iff]; simp_all <;> omega), rfl⟩
theorem goes_p (c : Int) (w : World) (h0 : 0 ≤ c) (h1 : c ≤ 255) : Calls Try.prog 59 #[.int .u8 c] w fun e w' => e = .returned (.bool (goesB c)) ∧ w = w' := by
  go_enter Try.func59, Try.ntmps59
  go_wp2_with (go_at_call 58; refine (begins_p _ _ h0 h1).mono ?_; rintro e w' ⟨rfl, rfl⟩)
  all_goals
    go_ret
    exact ⟨ret_bool (by unfold goesB; rw [Bool.eq_iff_iff]; simp_all <;> omega), rfl⟩
theorem u8_bd (c : UInt8) : (0 : Int) ≤ (c.toNat : Int) ∧ (c.toNat : Int) ≤ 255 := by have := c.toNat_lt; omega
theorem size_zero {s : ByteArray} (h : s.size = 0) : s = ByteArray.empty := by
  cases s with | mk d =>
  show (⟨d⟩ : ByteArray) = ⟨#[]⟩
  congr 1
  exact Array.eq_empty_of_size_eq_zero h
theorem starts_nil {s : ByteArray} (h : s.size = 0) : startsL s.data.toList = false := by
  have : s.data.toList = [] := List.eq_nil_of_length_eq_zero (by simpa using h)
  rw [this]; rfl
theorem starts_one {s : ByteArray} (h : s.size = 1) : startsL s.data.toList = (!decide ((s[0].toNat : Int) = 45) && begB s[0].toNat) := by
  have e : s.data.toList = [s[0]] := by
    have hl : s.data.toList.length = 1 := by simpa using h
    match hd : s.data.toList, hl with
    | [c], _ =>
      have : s[0] = s.data.toList[0]'(by simp; omega) := rfl
      rw [this]; simp [hd]
  rw [e]; rfl
theorem starts_more {s : ByteArray} (h : 1 < s.size) : startsL s.data.toList = if (s[0].toNat : Int) = 45 then begB s[1].toNat || decide ((s[1].toNat : Int) = 45) else begB s[0].toNat := by
  have e : ∃ r, s.data.toList = s[0] :: s[1] :: r := by
    have hl : 1 < s.data.toList.length := by simpa using h
    have key : ∀ (l : List UInt8) (hl : 1 < l.length), ∃ r, l = l[0] :: l[1] :: r := fun l hl => by
      match l, hl with
      | c :: d :: r, _ => exact ⟨r, rfl⟩
    exact key s.data.toList hl
  obtain ⟨r, e⟩ := e
  rw [e]; rfl
set_option maxHeartbeats 1000000 in
theorem name_p (s : ByteArray) (w : World) (hs : s.size ≤ maxLen) : Calls Try.prog 31 #[.string s] w fun e w' => e = .returned (.bool (nameL s.data.toList)) ∧ w = w' := by
  unfold maxLen at hs
  have hlen : s.data.toList.length = s.size := by simp
  have HL := Lib.hid hlen; clear hlen
  have HT := Lib.hid (show nameL s.data.toList = (startsL s.data.toList && s.data.toList.all (fun c => goesB c.toNat) && decide (s.size ≤ 32)) by unfold nameL; rw [HL.out])
  by_cases he : s.toList.isEmpty = true
  · have h0 : s.size = 0 := by rw [str_emp] at he; have := of_decide_eq_true he; rw [this]; rfl
    have HF := Lib.hid (starts_nil h0)
    go_enter Try.func31, Try.ntmps31
    go_wp2_with fail
    go_ret
    exact ⟨ret_bool (by rw [HT.out, HF.out]; rfl), rfl⟩
  have he' : s.toList.isEmpty = false := by simpa using he
  have h0 : 0 < s.size := by
    rcases Nat.eq_zero_or_pos s.size with h | h
    · exfalso; apply he
      rw [str_emp]
      have : s = ⟨#[]⟩ := size_zero h
      simp [this]
    · exact h
  clear he
  by_cases h32 : 32 < s.size
  · go_enter Try.func31, Try.ntmps31
    go_wp2_with fail
    go_ret
    exact ⟨ret_bool (by rw [HT.out]; simp; omega), rfl⟩
  have h32' : s.size ≤ 32 := by omega
  clear h32
  have b0 := u8_bd s[0]
  have hcases : (∃ h1 : s.size = 1, ((s[0].toNat : Int) == 45) = true ∧ Hid (startsL s.data.toList = false)) ∨
      (∃ h1 : 1 < s.size, ((s[0].toNat : Int) == 45) = true ∧ begB s[1].toNat = false ∧ ((s[1].toNat : Int) == 45) = false ∧ Hid (startsL s.data.toList = false)) ∨
      (((s[0].toNat : Int) == 45) = false ∧ begB s[0].toNat = false ∧ Hid (startsL s.data.toList = false)) ∨
      (∃ h1 : 1 < s.size, ((s[0].toNat : Int) == 45) = true ∧ begB s[1].toNat = true ∧ Hid (startsL s.data.toList = true)) ∨
      (∃ h1 : 1 < s.size, ((s[0].toNat : Int) == 45) = true ∧ begB s[1].toNat = false ∧ ((s[1].toNat : Int) == 45) = true ∧ Hid (startsL s.data.toList = true)) ∨
      (((s[0].toNat : Int) == 45) = false ∧ begB s[0].toNat = true ∧ Hid (startsL s.data.toList = true)) := by
    by_cases h1 : s.size = 1
    · have hs1 := starts_one h1
      by_cases h45 : (s[0].toNat : Int) = 45
      · exact .inl ⟨h1, by simpa using h45, by rw [Hid, hs1]; simp [h45]⟩
      · by_cases hb : begB s[0].toNat = true
        · exact .inr (.inr (.inr (.inr (.inr ⟨by simpa using h45, hb, by rw [Hid, hs1, hb]; simpa using h45⟩))))
        · exact .inr (.inr (.inl ⟨by simpa using h45, by simpa using hb, by rw [Hid, hs1]; simp [hb]⟩))
    · have h2 : 1 < s.size := by omega
      have hs1 := starts_more h2
      by_cases h45 : (s[0].toNat : Int) = 45
      · rw [if_pos h45] at hs1
        by_cases hb : begB s[1].toNat = true
        · exact .inr (.inr (.inr (.inl ⟨h2, by simpa using h45, hb, by rw [Hid, hs1, hb]; rfl⟩)))
        · by_cases h5 : (s[1].toNat : Int) = 45
          · exact .inr (.inr (.inr (.inr (.inl ⟨h2, by simpa using h45, by simpa using hb, by simpa using h5, by rw [Hid, hs1]; simp [h5]⟩))))
          · exact .inr (.inl ⟨h2, by simpa using h45, by simpa using hb, by simpa using h5, by rw [Hid, hs1]; simp [hb]; simpa using h5⟩)
      · rw [if_neg h45] at hs1
        by_cases hb : begB s[0].toNat = true
        · exact .inr (.inr (.inr (.inr (.inr ⟨by simpa using h45, hb, by rw [Hid, hs1, hb]⟩))))
        · exact .inr (.inr (.inl ⟨by simpa using h45, by simpa using hb, by rw [Hid, hs1]; simpa using hb⟩))
  rcases hcases with ⟨h1, q0, HF⟩ | ⟨h1, q0, q1, q2, HF⟩ | ⟨q0, q1, HF⟩ | ⟨h1, q0, q1, HF⟩ | ⟨h1, q0, q1, q2, HF⟩ | ⟨q0, q1, HF⟩
  · have h1' := Nat.le_of_eq h1
    clear h1
    go_enter Try.func31, Try.ntmps31
    go_wp2_with fail
    go_ret
    exact ⟨ret_bool (by rw [HT.out, HF.out]; rfl), rfl⟩
  · have b1 := u8_bd s[1]
    have z1 : ((s.size : Int) == 1) = false := by simp; omega
    have z2 : ((s[1].toNat : Int) != 45) = true := by simp only [bne, q2]; rfl
    go_enter Try.func31, Try.ntmps31
    go_wp2_with (go_at_call 58; refine (begins_p _ _ b1.1 b1.2).mono ?_; rintro e w' ⟨rfl, rfl⟩)
    go_ret
    exact ⟨ret_bool (by rw [HT.out, HF.out]; rfl), rfl⟩
  · go_enter Try.func31, Try.ntmps31
    go_wp2_with (go_at_call 58; refine (begins_p _ _ b0.1 b0.2).mono ?_; rintro e w' ⟨rfl, rfl⟩)
    go_ret
    exact ⟨ret_bool (by rw [HT.out, HF.out]; rfl), rfl⟩
  all_goals
    have z0 : decide ((32 : Int) < (s.size : Int)) = false := by simp; omega
    (try have z1 : ((s.size : Int) == 1) = false := by simp; omega)
    (try have z2 : ((s[1].toNat : Int) != 45) = false := by simp only [bne, q2]; rfl)
    first
      | (have b1 := u8_bd s[1]
         go_enter Try.func31, Try.ntmps31
         go_wp2_with (go_at_call 58; refine (begins_p _ _ b1.1 b1.2).mono ?_; rintro e w' ⟨rfl, rfl⟩))
      | (go_enter Try.func31, Try.ntmps31
         go_wp2_with (go_at_call 58; refine (begins_p _ _ b0.1 b0.2).mono ?_; rintro e w' ⟨rfl, rfl⟩))
    go_loop [34] (fun t => ∃ k : Nat, t = .int .i64 k ∧ k ≤ s.size ∧ Hid ((s.data.toList.take k).all (fun c => goesB c.toNat) = true)) (fun t => s.size - (intOf t).toNat)
    case atStart => exact ⟨0, rfl, Nat.zero_le _, rfl⟩
    case round =>
      obtain ⟨k, rfl, hk, hx⟩ := hrel
      by_cases hlt : k < s.size
      · have hb := u8_bd s[k]
        have HS := Lib.hid (show (goesB s[k].toNat = true → (s.data.toList.take (k + 1)).all (fun c => goesB c.toNat) = true) ∧ (goesB s[k].toNat = false → s.data.toList.all (fun c => goesB c.toNat) = false) from
          all_step (fun c : UInt8 => goesB c.toNat) s.data.toList k (by rw [HL.out]; exact hlt) hx.out)
        by_cases hg : goesB s[k].toNat = true
        · go_wp2_with (go_at_call 59; refine (goes_p _ _ hb.1 hb.2).mono ?_; rintro e w' ⟨rfl, rfl⟩)
          go_round
          case rel => exact ⟨k + 1, by go_num, by omega, HS.out.1 hg⟩
          case measure => simp [intOf]; omega
        · have hg' : goesB s[k].toNat = false := by simpa using hg
          clear hg
          go_wp2_with (go_at_call 59; refine (goes_p _ _ hb.1 hb.2).mono ?_; rintro e w' ⟨rfl, rfl⟩)
          go_ret
          exact ⟨ret_bool (by rw [HT.out, HS.out.2 hg']; simp), rfl⟩
      · go_wp2_with fail
        go_ret
        exact ⟨ret_bool (by rw [HT.out, HF.out, ← List.take_of_length_le (l := s.data.toList) (i := k) (by rw [HL.out]; omega), hx.out]; simp; omega), rfl⟩
end Go.Proofs.Ytlmanlpgknhfpaa
namespace Go.Proofs.Ytlmanlpgknhfpaa
open Go Go.RowKit Pl Sy
def resB (s : ByteArray) : Bool := bytesEq s.data.toList [97, 110, 100] || bytesEq s.data.toList [111, 114] || bytesEq s.data.toList [110, 111, 116] || bytesEq s.data.toList [110, 111, 110, 101]
theorem Sy.reserved_q (s : ByteArray) : CallTo Try.prog 25 [.lit (.string s)] M0 fun v _ => v = boo (resB s) :=
  toV [] [] 400 30 (.br (.auto 1 (.br (.auto 1 (.br (.auto 1 .done) (.auto 1 .done))) (.auto 4 .done))) (.auto 7 .done)) (.fork (!(@bytesEq (@Array.toList _ (@ByteArray.data s)) (@Array.toList _ (@ByteArray.data (@ByteArray.mk (@Array.mk _ [(97 : UInt8), (110 : UInt8), (100 : UInt8)])))))) (.fork (!(@bytesEq (@Array.toList _ (@ByteArray.data s)) (@Array.toList _ (@ByteArray.data (@ByteArray.mk (@Array.mk _ [(111 : UInt8), (114 : UInt8)])))))) (.fork (!(@bytesEq (@Array.toList _ (@ByteArray.data s)) (@Array.toList _ (@ByteArray.data (@ByteArray.mk (@Array.mk _ [(110 : UInt8), (111 : UInt8), (116 : UInt8)])))))) (.leaf (boo (@bytesEq (@Array.toList _ (@ByteArray.data s)) (@Array.toList _ (@ByteArray.data (@ByteArray.mk (@Array.mk _ [(110 : UInt8), (111 : UInt8), (110 : UInt8), (101 : UInt8)]))))))) (.leaf (boo true))) (.leaf (boo true))) (.leaf (boo true))) (by kernel_rfl) (by
    simp only [Tr.Ok, Bool.not_eq_true', Bool.not_eq_false', boo_iff, resB]
    repeat' (first | (intro _) | apply And.intro)
    all_goals simp_all)
theorem Sy.wrong_q (k c f lo ln ld ho hn hd : Int) : CallTo Try.prog 34 [qa k c f lo ln ld ho hn hd] M0 fun v _ => v = boo (!rightV k c f lo ln ld ho hn hd) :=
  toV [cRight1] [] 400 30 .done (.leaf (boo (!(@rightV k c f lo ln ld ho hn hd)))) (by kernel_rfl) rfl
noncomputable abbrev Sy.cWrong : Con Try.prog := ints9 34 [10] (fun k c f lo ln ld ho hn hd => boo (!rightV k c f lo ln ld ho hn hd)) (fun _ _ _ _ _ _ _ _ _ => trivial) Sy.wrong_q
abbrev Sy.idxF (xs : List QNodeV) (i : Int) : Fr := [some ((@qview xs)), some ((@AV.fn (@Fn.func 34) [] [])), none, none, some ((int (0 : Int))), none, some (qview xs), some ((int (((xs).length : Nat) : Int))), some (int i), none, none, none, none, none, none, none, none, none, none]
def wrongL : List QNodeV → Option Nat
  | [] => none
  | n :: l => if rightV n.kind n.count n.feat n.lo n.ln n.ld n.ho n.hn n.hd = true then (wrongL l).map (· + 1) else some 0
theorem Sy.idx_loop (xs : List QNodeV) (hx : xs.length ≤ 17592186044416) : ∀ (l pre : List QNodeV) (i : Int), xs = pre ++ l → i = pre.length →
    LoopTo Try.prog (theBody Try.prog 61 3) (l.length + 1) (idxF xs i) M0 fun ex F M => M = M0 ∧ match wrongL l with
      | some k => ex = .ret ∧ F = [some ((@qview xs)), some ((@AV.fn (@Fn.func 34) [] [])), none, none, some (int (i + k)), none, some (qview xs), some ((int (((xs).length : Nat) : Int))), some (int (i + k)), none, none, none, none, none, none, none, none, none, none]
      | none => ex = .exit 0 ∧ ∃ j, F = idxF xs j := by
  intro l
  induction l with
  | nil =>
    intro pre i hxs hi
    have hl : xs.length = pre.length := by rw [hxs]; simp
    refine roundL [cWrong] [] 400 30 61 3 Try.func61 rfl (by kernel_rfl) [true, true, false, false, true, false, true, true, true, false, false, false, false, false, false, false, false, false, false] (.br (.yes (.br .done .done)) .done) (.fork (!(leI (((xs).length : Nat) : Int) i)) (.need (@inR i (xs).length) (.fork (!(@rightV ((xs.getD (i).toNat QNodeV.zero)).kind ((xs.getD (i).toNat QNodeV.zero)).count ((xs.getD (i).toNat QNodeV.zero)).feat ((xs.getD (i).toNat QNodeV.zero)).lo ((xs.getD (i).toNat QNodeV.zero)).ln ((xs.getD (i).toNat QNodeV.zero)).ld ((xs.getD (i).toNat QNodeV.zero)).ho ((xs.getD (i).toNat QNodeV.zero)).hn ((xs.getD (i).toNat QNodeV.zero)).hd)) (.leaf (Ex.ret, ([(some (@qview xs)), (some (@AV.fn (@Fn.func 34) [] [])), none, none, (some (int i)), none, (some (@qview xs)), (some (int (((xs).length : Nat) : Int))), (some (int i)), none, none, none, none, none, none, none, none, none, none], (@Mem.mk 0 0 [])))) (.leaf (Ex.norm, ([(some (@qview xs)), (some (@AV.fn (@Fn.func 34) [] [])), none, none, (some (int (0 : Int))), none, (some (@qview xs)), (some (int (((xs).length : Nat) : Int))), (some (int (w64 (i + (1 : Int))))), none, none, none, none, none, none, none, none, none, none], (@Mem.mk 0 0 [])))))) (.leaf ((@Ex.exit 0), ([(some (@qview xs)), (some (@AV.fn (@Fn.func 34) [] [])), none, none, (some (int (0 : Int))), none, (some (@qview xs)), (some (int (((xs).length : Nat) : Int))), (some (int i)), none, none, none, none, none, none, none, none, none, none], (@Mem.mk 0 0 []))))) (by kernel_rfl) ?_
    refine ⟨fun h => ?_, fun h => ⟨rfl, rfl, i, rfl⟩⟩
    simp only [Bool.not_eq_true', Bool.not_eq_false', leI_t, leI_f, eqI_t, eqI_f, inR_t, inR_f, isSo_t, isSo_f] at h
    omega
  | cons n l ih =>
    intro pre i hxs hi
    have hl : xs.length = pre.length + l.length + 1 := by rw [hxs]; simp; omega
    have hg : xs.getD i.toNat QNodeV.zero = n := by rw [hxs]; exact getD_at _ _ _ _ _ hi
    refine roundL [cWrong] [] 400 30 61 3 Try.func61 rfl (by kernel_rfl) [true, true, false, false, true, false, true, true, true, false, false, false, false, false, false, false, false, false, false] (.br (.yes (.br .done .done)) .done) (.fork (!(leI (((xs).length : Nat) : Int) i)) (.need (@inR i (xs).length) (.fork (!(@rightV ((xs.getD (i).toNat QNodeV.zero)).kind ((xs.getD (i).toNat QNodeV.zero)).count ((xs.getD (i).toNat QNodeV.zero)).feat ((xs.getD (i).toNat QNodeV.zero)).lo ((xs.getD (i).toNat QNodeV.zero)).ln ((xs.getD (i).toNat QNodeV.zero)).ld ((xs.getD (i).toNat QNodeV.zero)).ho ((xs.getD (i).toNat QNodeV.zero)).hn ((xs.getD (i).toNat QNodeV.zero)).hd)) (.leaf (Ex.ret, ([(some (@qview xs)), (some (@AV.fn (@Fn.func 34) [] [])), none, none, (some (int i)), none, (some (@qview xs)), (some (int (((xs).length : Nat) : Int))), (some (int i)), none, none, none, none, none, none, none, none, none, none], (@Mem.mk 0 0 [])))) (.leaf (Ex.norm, ([(some (@qview xs)), (some (@AV.fn (@Fn.func 34) [] [])), none, none, (some (int (0 : Int))), none, (some (@qview xs)), (some (int (((xs).length : Nat) : Int))), (some (int (w64 (i + (1 : Int))))), none, none, none, none, none, none, none, none, none, none], (@Mem.mk 0 0 [])))))) (.leaf ((@Ex.exit 0), ([(some (@qview xs)), (some (@AV.fn (@Fn.func 34) [] [])), none, none, (some (int (0 : Int))), none, (some (@qview xs)), (some (int (((xs).length : Nat) : Int))), (some (int i)), none, none, none, none, none, none, none, none, none, none], (@Mem.mk 0 0 []))))) (by kernel_rfl) ?_
    have hr : inR i xs.length = true := by rw [inR_t]; omega
    rw [hg]
    refine ⟨fun h => ⟨hr, fun h2 => ⟨rfl, ?_⟩, fun h2 => ?_⟩, fun h => ?_⟩
    · simp only [Bool.not_eq_true', Bool.not_eq_false', leI_t, leI_f, eqI_t, eqI_f, inR_t, inR_f, isSo_t, isSo_f] at h2
      have hw : wrongL (n :: l) = some 0 := by unfold wrongL; rw [if_neg (by rw [h2]; simp)]
      rw [hw]
      exact ⟨rfl, by simp⟩
    · simp only [Bool.not_eq_true', Bool.not_eq_false', leI_t, leI_f, eqI_t, eqI_f, inR_t, inR_f, isSo_t, isSo_f] at h2
      have hw : wrongL (n :: l) = (wrongL l).map (· + 1) := by rw [wrongL, if_pos h2]
      rw [w64_in (r := i + 1) (by omega)]
      refine (ih (pre ++ [n]) (i + 1) (by rw [hxs]; simp) (by simp; omega)).mono fun ex F M hg => ?_
      rw [hw]
      refine ⟨hg.1, ?_⟩
      have hg2 := hg.2
      cases hs : wrongL l with
      | none => rw [hs] at hg2; exact hg2
      | some k =>
        rw [hs] at hg2
        obtain ⟨q1, q2⟩ := hg2
        exact ⟨q1, by rw [q2, show i + 1 + (k : Int) = i + ((k + 1 : Nat) : Int) by omega]⟩
    · simp only [Bool.not_eq_true', Bool.not_eq_false', leI_t, leI_f, eqI_t, eqI_f, inR_t, inR_f, isSo_t, isSo_f] at h
      omega
noncomputable abbrev Sy.idxRes (xs : List QNodeV) (x : Int) : Tr (Ex × Fr × Mem) :=
  .fork (isSo ((wrongL (xs.drop x.toNat)).isSome = true)) (.leaf (.ret, [some ((@qview xs)), some ((@AV.fn (@Fn.func 34) [] [])), none, none, some (int (x + ((wrongL (xs.drop x.toNat)).getD 0 : Nat))), none, some (qview xs), some ((int (((xs).length : Nat) : Int))), none, none, none, none, none, none, none, none, none, none, none], M0)) (.leaf (.exit 0, [some ((@qview xs)), some ((@AV.fn (@Fn.func 34) [] [])), none, none, some ((int (0 : Int))), none, some (qview xs), some ((int (((xs).length : Nat) : Int))), none, none, none, none, none, none, none, none, none, none, none], M0))
noncomputable abbrev Sy.idxLp (xs : List QNodeV) : Lp Try.prog where
  f := 61
  key := 3
  S := formS (fun F M => slotI F 8) (fun x => idxF xs x) (fun _ => M0) (fun x => xs.length ≤ 17592186044416 ∧ 0 ≤ x ∧ x ≤ xs.length) (idxRes xs) [true, true, false, false, true, false, true, true, true, false, false, false, false, false, false, false, false, false, false]
  one := by kernel_rfl
  ok := formS_ok fun x ⟨h1, h2, h3⟩ => by
    refine ⟨(xs.drop x.toNat).length + 1, ?_⟩
    have h6 := Sy.idx_loop xs h1 (xs.drop x.toNat) (xs.take x.toNat) x (by simp) (by simp; omega)
    cases hs : wrongL (xs.drop x.toNat) with
    | none =>
      refine (h6.out [true, true, false, false, true, false, true, true, false, false, false, false, false, false, false, false, false, false, false]).mono fun ex F M hg => .inr ⟨by simp [hs, isSo], ?_⟩
      obtain ⟨F0, ⟨hM, hg⟩, rfl⟩ := hg
      rw [hs] at hg
      obtain ⟨rfl, j, rfl⟩ := hg
      rw [hM]; rfl
    | some k =>
      refine (h6.out [true, true, false, false, true, false, true, true, false, false, false, false, false, false, false, false, false, false, false]).mono fun ex F M hg => .inl ⟨by simp [hs, isSo], ?_⟩
      obtain ⟨F0, ⟨hM, hg⟩, rfl⟩ := hg
      rw [hs] at hg
      obtain ⟨rfl, rfl⟩ := hg
      rw [hM, hs]; rfl
theorem Sy.contains_q (xs : List QNodeV) (hx : xs.length ≤ 17592186044416) : CallTo Try.prog 33 [Sy.qview xs, .fn (.func 34) [] []] M0 fun v _ => v = boo (wrongL xs).isSome :=
  toV [cWrong] [idxLp xs] 400 30 (.br .done .done) (.need (@isSo (@And (((some (@AV.view (xs).length 9 (fun x486513 => (fun x503844 => (@AV.lit ([(@Value.int IntKind.i64 ((xs.getD x486513 QNodeV.zero)).kind), (@Value.int IntKind.i64 ((xs.getD x486513 QNodeV.zero)).count), (@Value.int IntKind.i64 ((xs.getD x486513 QNodeV.zero)).feat), (@Value.int IntKind.i64 ((xs.getD x486513 QNodeV.zero)).lo), (@Value.int IntKind.i64 ((xs.getD x486513 QNodeV.zero)).ln), (@Value.int IntKind.i64 ((xs.getD x486513 QNodeV.zero)).ld), (@Value.int IntKind.i64 ((xs.getD x486513 QNodeV.zero)).ho), (@Value.int IntKind.i64 ((xs.getD x486513 QNodeV.zero)).hn), (@Value.int IntKind.i64 ((xs.getD x486513 QNodeV.zero)).hd)].getD x503844 (@Value.tuple (@Array.mk _ [])))))))) :: (some (@AV.fn (@Fn.func 34) [] [])) :: [none, none, (some (int (0 : Int))), none, (some (@AV.view (xs).length 9 (fun x737988 => (fun x870439 => (@AV.lit ([(@Value.int IntKind.i64 ((xs.getD x737988 QNodeV.zero)).kind), (@Value.int IntKind.i64 ((xs.getD x737988 QNodeV.zero)).count), (@Value.int IntKind.i64 ((xs.getD x737988 QNodeV.zero)).feat), (@Value.int IntKind.i64 ((xs.getD x737988 QNodeV.zero)).lo), (@Value.int IntKind.i64 ((xs.getD x737988 QNodeV.zero)).ln), (@Value.int IntKind.i64 ((xs.getD x737988 QNodeV.zero)).ld), (@Value.int IntKind.i64 ((xs.getD x737988 QNodeV.zero)).ho), (@Value.int IntKind.i64 ((xs.getD x737988 QNodeV.zero)).hn), (@Value.int IntKind.i64 ((xs.getD x737988 QNodeV.zero)).hd)].getD x870439 (@Value.tuple (@Array.mk _ [])))))))), (some (int (((xs).length : Nat) : Int))), (some (int (0 : Int))), none, none, none, none, none, none, none, none, none, none]) = [(some (@qview xs)), (some (@AV.fn (@Fn.func 34) [] [])), none, none, (some (int (0 : Int))), none, (some (@qview xs)), (some (int (((xs).length : Nat) : Int))), (some (int (0 : Int))), none, none, none, none, none, none, none, none, none, none]) ((@Mem.mk 0 0 []) = M0))) (.need (@isSo (@And ((xs).length ≤ 17592186044416) (@And ((0 : Int) ≤ (0 : Int)) ((0 : Int) ≤ (((xs).length : Nat) : Int))))) (.fork (@isSo ((@Option.isSome _ (@wrongL xs)) = true)) (.leaf (boo (leI (0 : Int) ((0 : Int) + (((@Option.getD _ (@wrongL xs) 0) : Nat) : Int))))) (.leaf (boo false))))) (by kernel_rfl) (by
    refine need_so ⟨rfl, rfl⟩ (need_so ⟨hx, by decide, by omega⟩ ⟨fun h => ?_, fun h => ?_⟩)
    · simp only [Bool.not_eq_true', Bool.not_eq_false', leI_t, leI_f, eqI_t, eqI_f, inR_t, inR_f, isSo_t, isSo_f] at h
      have h' : (wrongL xs).isSome = true := h
      show boo _ = boo _
      rw [h', boo_iff, leI_t]
      constructor
      · intro _; rfl
      · intro _; omega
    · simp only [Bool.not_eq_true', Bool.not_eq_false', leI_t, leI_f, eqI_t, eqI_f, inR_t, inR_f, isSo_t, isSo_f] at h
      have h' : ¬ (wrongL xs).isSome = true := h
      show boo _ = boo _
      rw [Bool.not_eq_true] at h'
      rw [h'])
noncomputable abbrev Sy.cContains (xs : List QNodeV) : Con Try.prog := at1 33 [qview xs, .fn (.func 34) [] []] (boo (wrongL xs).isSome) (xs.length ≤ 17592186044416) fun h => ⟨⟨⟨viewOf_free QNodeV.cells QNodeV.zero 9 xs, ⟨trivial, trivial⟩, trivial⟩, trivial⟩, contains_q xs h⟩
noncomputable abbrev Sy.cSpan0 (s : ByteArray) (xs : List QNodeV) : Con Try.prog := at1 32 [query s xs, int 0] (int (spanI xs 0)) (xs.length ≤ 1000) fun h => ⟨⟨⟨⟨trivial, viewOf_free QNodeV.cells QNodeV.zero 9 xs, trivial⟩, trivial, trivial⟩, trivial⟩, span_q s xs h 0⟩
noncomputable abbrev Sy.cNameP : Con Try.prog := str1 31 (fun s => boo (nameL s.data.toList)) (fun s => s.size ≤ maxLen) (fun _ => trivial) fun s h => old (us := [.string s]) fun w => name_p s w h
noncomputable abbrev Sy.cReserved : Con Try.prog := str1 25 (fun s => boo (resB s)) (fun _ => True) (fun _ => trivial) fun s _ => reserved_q s
def rightQ (s : ByteArray) (xs : List QNodeV) : Bool :=
  (bytesEq s.data.toList [] || (nameL s.data.toList && !resB s)) && (decide (1 ≤ xs.length ∧ xs.length ≤ 32) && (decide (spanI xs 0 = xs.length) && !(wrongL xs).isSome))
theorem Sy.right_q0 (s : ByteArray) (xs : List QNodeV) (hs : s.size ≤ maxLen) (hx : xs.length ≤ 17592186044416) : CallTo Try.prog 15 [Sy.query s xs] M0 fun v _ => v = boo (rightQ s xs) :=
  toV [cContains xs, cSpan0 s xs, cNameP, cReserved] [] 400 30 (.br (.auto 1 (.yes (.auto 1 (.br (.auto 1 (.yes (.auto 2 (.br .done (.br (.auto 3 (.br (.auto 0 (.yes (.auto 4 (.br .done (.yes .done))))) (.auto 6 .done))) (.auto 11 .done)))))) (.auto 5 .done))))) (.auto 9 (.br (.auto 3 (.br (.auto 0 (.yes (.auto 4 (.br .done (.yes .done))))) (.auto 6 .done))) (.auto 11 .done)))) (.fork (!(@bytesEq (@Array.toList _ (@ByteArray.data s)) (@Array.toList _ (@ByteArray.data (@ByteArray.mk (@Array.mk _ [])))))) (.need (@isSo ((@ByteArray.size s) ≤ 9223372036854775807)) (.fork (!(!(@Pl.nameL (@Array.toList _ (@ByteArray.data s))))) (.need (@isSo True) (.fork (@resB s) (.leaf (boo false)) (.fork (!(eqI (((xs).length : Nat) : Int) (0 : Int))) (.fork (!(!(leI (((xs).length : Nat) : Int) (32 : Int)))) (.need (@isSo (@And ((@HAppend.hAppend _ _ _ _ (@HAppend.hAppend _ _ _ _ [] [(@AV.agg [(@AV.lit (@Value.string s)), (@qview xs)]), (int (0 : Int))]) []) = [(@query s xs), (int (0 : Int))]) ((xs).length ≤ 1000))) (.fork (!(eqI (@spanI xs (0 : Int)) (((xs).length : Nat) : Int))) (.leaf (boo false)) (.need (@isSo (@And ((@HAppend.hAppend _ _ _ _ (@HAppend.hAppend _ _ _ _ [] [(@AV.view (xs).length 9 (fun x926525 => (fun x548734 => (@AV.lit ([(@Value.int IntKind.i64 ((xs.getD x926525 QNodeV.zero)).kind), (@Value.int IntKind.i64 ((xs.getD x926525 QNodeV.zero)).count), (@Value.int IntKind.i64 ((xs.getD x926525 QNodeV.zero)).feat), (@Value.int IntKind.i64 ((xs.getD x926525 QNodeV.zero)).lo), (@Value.int IntKind.i64 ((xs.getD x926525 QNodeV.zero)).ln), (@Value.int IntKind.i64 ((xs.getD x926525 QNodeV.zero)).ld), (@Value.int IntKind.i64 ((xs.getD x926525 QNodeV.zero)).ho), (@Value.int IntKind.i64 ((xs.getD x926525 QNodeV.zero)).hn), (@Value.int IntKind.i64 ((xs.getD x926525 QNodeV.zero)).hd)].getD x548734 (@Value.tuple (@Array.mk _ []))))))), (@AV.fn (@Fn.func 34) [] [])]) []) = [(@qview xs), (@AV.fn (@Fn.func 34) [] [])]) ((xs).length ≤ 17592186044416))) (.leaf (boo (!(@Option.isSome _ (@wrongL xs)))))))) (.leaf (boo false))) (.leaf (boo false))))) (.leaf (boo false)))) (.fork (!(eqI (((xs).length : Nat) : Int) (0 : Int))) (.fork (!(!(leI (((xs).length : Nat) : Int) (32 : Int)))) (.need (@isSo (@And ((@HAppend.hAppend _ _ _ _ (@HAppend.hAppend _ _ _ _ [] [(@AV.agg [(@AV.lit (@Value.string s)), (@qview xs)]), (int (0 : Int))]) []) = [(@query s xs), (int (0 : Int))]) ((xs).length ≤ 1000))) (.fork (!(eqI (@spanI xs (0 : Int)) (((xs).length : Nat) : Int))) (.leaf (boo false)) (.need (@isSo (@And ((@HAppend.hAppend _ _ _ _ (@HAppend.hAppend _ _ _ _ [] [(@AV.view (xs).length 9 (fun x547864 => (fun x961301 => (@AV.lit ([(@Value.int IntKind.i64 ((xs.getD x547864 QNodeV.zero)).kind), (@Value.int IntKind.i64 ((xs.getD x547864 QNodeV.zero)).count), (@Value.int IntKind.i64 ((xs.getD x547864 QNodeV.zero)).feat), (@Value.int IntKind.i64 ((xs.getD x547864 QNodeV.zero)).lo), (@Value.int IntKind.i64 ((xs.getD x547864 QNodeV.zero)).ln), (@Value.int IntKind.i64 ((xs.getD x547864 QNodeV.zero)).ld), (@Value.int IntKind.i64 ((xs.getD x547864 QNodeV.zero)).ho), (@Value.int IntKind.i64 ((xs.getD x547864 QNodeV.zero)).hn), (@Value.int IntKind.i64 ((xs.getD x547864 QNodeV.zero)).hd)].getD x961301 (@Value.tuple (@Array.mk _ []))))))), (@AV.fn (@Fn.func 34) [] [])]) []) = [(@qview xs), (@AV.fn (@Fn.func 34) [] [])]) ((xs).length ≤ 17592186044416))) (.leaf (boo (!(@Option.isSome _ (@wrongL xs)))))))) (.leaf (boo false))) (.leaf (boo false)))) (by kernel_rfl) (by
    repeat' (first
      | refine fork_ok (fun _ => ?_) (fun _ => ?_)
      | refine need_so ⟨rfl, by (first | assumption | trivial | (try simp only [eqI_t, eqI_f, leI_t, leI_f, inR_t, inR_f, isSo_t, isSo_f, eqI_d, leI_d, decide_eq_true_eq, decide_eq_false_iff_not, Bool.not_eq_true', Bool.not_eq_false', Bool.false_eq_true, Bool.and_eq_true, Bool.or_eq_true, Bool.not_not, iff_false, false_iff, iff_true, true_iff] at *) <;> first | omega | grind)⟩ ?_
      | refine need_so (by (first | assumption | trivial | (try simp only [eqI_t, eqI_f, leI_t, leI_f, inR_t, inR_f, isSo_t, isSo_f, eqI_d, leI_d, decide_eq_true_eq, decide_eq_false_iff_not, Bool.not_eq_true', Bool.not_eq_false', Bool.false_eq_true, Bool.and_eq_true, Bool.or_eq_true, Bool.not_not, iff_false, false_iff, iff_true, true_iff] at *) <;> first | omega | grind)) ?_
      | refine need_t (by (first | assumption | trivial | (try simp only [eqI_t, eqI_f, leI_t, leI_f, inR_t, inR_f, isSo_t, isSo_f, eqI_d, leI_d, decide_eq_true_eq, decide_eq_false_iff_not, Bool.not_eq_true', Bool.not_eq_false', Bool.false_eq_true, Bool.and_eq_true, Bool.or_eq_true, Bool.not_not, iff_false, false_iff, iff_true, true_iff] at *) <;> first | omega | grind)) ?_)
    all_goals (first | refine leaf_boo ?_ | refine leaf_int ?_)
    all_goals (unfold rightQ; try simp only [eqI_t, eqI_f, leI_t, leI_f, inR_t, inR_f, isSo_t, isSo_f, eqI_d, leI_d, decide_eq_true_eq, decide_eq_false_iff_not, Bool.not_eq_true', Bool.not_eq_false', Bool.false_eq_true, Bool.and_eq_true, Bool.or_eq_true, Bool.not_not, iff_false, false_iff, iff_true, true_iff] at *)
    all_goals (first | omega | grind))
end Go.Proofs.Ytlmanlpgknhfpaa
namespace Go.Proofs.Ytlmanlpgknhfpaa
open Go Go.RowKit Pl Sy
theorem fork_t {β : Type} {c : Bool} {t f : Tr β} {G : β → Prop} (hc : c = true) (ht : t.Ok G) : (Tr.fork c t f).Ok G := fork_ok (fun _ => ht) (fun h => absurd (hc.symm.trans h) (by decide))
theorem fork_f {β : Type} {c : Bool} {t f : Tr β} {G : β → Prop} (hc : c = false) (hf : f.Ok G) : (Tr.fork c t f).Ok G := fork_ok (fun h => absurd (hc.symm.trans h) (by decide)) (fun _ => hf)
theorem eqI_self (x : Int) : eqI x x = true := by rw [eqI_t]
theorem n_t {x : Bool} (h : (!x) = true) : x = false := by cases x <;> simp_all
theorem n_f {x : Bool} (h : (!x) = false) : x = true := by cases x <;> simp_all
def frF (T : List TokV) (a : Int) : Int := nmdF (T.getD a.toNat tok0).text
def frO (T : List TokV) (a : Int) : Int := nmdO (T.getD a.toNat tok0).text
def frS (T : List TokV) (a : Int) : Int := skI T (a + 1)
def frQ (T : List TokV) (a : Int) : Int := opA T (skI T (frS T a))
def frG {α : Type} (T : List TokV) (a : Int) (no col opm emp bad full : α) : α :=
  if leI (frF T a) 0 then no else if eqI (kindI T (frS T a)) 10 then col else if eqI (frO T a) 3 then (if doneB T (frS T a) then emp else if eqI (opI T (skI T (frS T a))) 0 || eqI (frF T a) 6 then bad else full) else opm
def frHo (T : List TokV) (a : Int) : Int := frG T a 0 (frO T a) 0 0 0 (opI T (skI T (frS T a)))
def frHn (T : List TokV) (a : Int) : Int := frG T a 0 (bnN T (frS T a + 1) (frF T a)) 0 0 0 (bnN T (frQ T a) (frF T a))
def frHd (T : List TokV) (a : Int) : Int := frG T a 0 (bnD T (frS T a + 1) (frF T a)) 0 0 0 (bnD T (frQ T a) (frF T a))
def frB (T : List TokV) (a : Int) : Bool := frG T a false (bnB T (frS T a + 1) (frF T a) && doneB T (bnA T (frS T a + 1) (frF T a))) false (doneB T (skI T (frS T a))) false (bnB T (frQ T a) (frF T a) && doneB T (bnA T (frQ T a) (frF T a)))
def frA (T : List TokV) (a : Int) : Int := frG T a (frS T a) (if bnB T (frS T a + 1) (frF T a) then skI T (bnA T (frS T a + 1) (frF T a)) else bnA T (frS T a + 1) (frF T a)) (frS T a) (skI T (skI T (frS T a))) (frQ T a) (if bnB T (frQ T a) (frF T a) then skI T (bnA T (frQ T a) (frF T a)) else bnA T (frQ T a) (frF T a))
def frV (T : List TokV) (a : Int) : QNodeV := ⟨4, 0, frF T a, 0, 0, 0, frHo T a, frHn T a, frHd T a⟩
abbrev Sy.qG (q : QNodeV) : AV := qa q.kind q.count q.feat q.lo q.ln q.ld q.ho q.hn q.hd
abbrev Sy.feG (q : QNodeV) (b : Bool) : AV := .tup [qG q, boo b]
theorem Sy.feG_free (q : QNodeV) (b : Bool) : Free (feG q b) := ⟨⟨trivial, trivial, trivial, trivial, trivial, trivial, trivial, trivial, trivial, trivial⟩, trivial, trivial⟩
theorem Sy.frn_t (T : List TokV) (a : Int) (h : InT T (a + 1)) (h0 : 0 ≤ a) (hs : (T.getD a.toNat tok0).text.size ≤ 9223372036854775807) : CallTo Try.prog 87 [.ptr 0 0] (rdM T a) fun v M' => v = feG (frV T a) (frB T a) ∧ M'.get 0 = some (rdB T (frA T a)) :=
  to (G := fun r => r.1 = feG (frV T a) (frB T a) ∧ r.2.get 0 = some (rdB T (frA T a))) [cSpc T, cKind T, cBnd T, cDone T, cOp T, cNmd] [] 400 30 (.yes (.yes (.yes (.br (.br (.auto 0 (.yes (.auto 2 (.yes (.auto 5 .done))))) (.auto 1 .done)) (.yes (.br (.yes (.br (.auto 0 (.yes (.auto 2 (.yes (.auto 2 (.yes (.yes (.yes .done)))))))) (.auto 1 .done))) (.br .done (.yes (.br (.yes (.br (.auto 1 (.br .done (.yes (.br (.auto 0 (.yes (.auto 2 (.yes (.auto 2 (.yes (.yes (.yes .done)))))))) (.auto 1 .done))))) (.auto 2 .done))) (.br (.auto 0 (.yes (.auto 2 (.yes (.auto 5 .done))))) (.auto 1 .done))))))))))) (let e1 := (@AV.view (T).length 3 (fun y0 => (fun y1 => (@AV.lit ([(@Value.int IntKind.i64 ((T.getD y0 tok0)).kind), (@Value.string ((T.getD y0 tok0)).text), (@Value.int IntKind.i64 ((T.getD y0 tok0)).n)].getD y1 (@Value.tuple (@Array.mk _ []))))))); let e2 := (w64 (a + (1 : Int))); let e3 := (([] : List AV) = []); let e4 := (@nmdF ((T.getD (a).toNat tok0)).text); let e5 := (!(leI e4 (0 : Int))); let e6 := (@skI T e2); let e7 := (some (@Blk.mk [e1, (int e6)] 55 none)); let e8 := (@isSo (@And (e7 = e7) (@And e3 (@InT T e6)))); let e9 := (int (4 : Int)); let e10 := (int (0 : Int)); let e11 := (int e4); let e12 := (e9 :: e10 :: (e11 :: (e10 :: e10 :: e10 :: e10 :: e10 :: e10 :: (@List.drop _ (0 + ((e9 :: e10 :: (e11 :: [e10, e10, e10, e10, e10, e10]))).length) [e10, e10, e10, e10, e10, e10, e10, e10, e10])))); let e13 := (@AV.agg (@List.take _ 9 e12)); let e14 := ((1 + 1) + 1); let e15 := (((((0 + 1) + 1) + 1) + 1) + 1); let e16 := (@Value.int IntKind.i64 (0 : Int)); let e17 := (e9 :: e10 :: (e11 :: (e10 :: e10 :: e10 :: e10 :: e10 :: e10 :: (@List.drop _ (0 + ((e9 :: e10 :: (e11 :: (@List.drop _ (2 + ([e11]).length) (e9 :: (@List.drop _ 1 (@List.map _ _ AV.lit (@Array.toList _ (@Array.mk _ [e16, e16, e16, e16, e16, e16, e16, e16, e16]))))))))).length) [e10, e10, e10, e10, e10, e10, e10, e10, e10])))); let e18 := (some (@Blk.mk e17 45 none)); let e19 := (some (@Blk.mk e12 45 none)); let e20 := (@skI T e6); let e21 := (some (@Blk.mk [e1, (int e20)] 55 none)); let e22 := (@AV.tup [e13, (boo false)]); let e23 := (w64 (e6 + (1 : Int))); let e24 := (@nmdO ((T.getD (a).toNat tok0)).text); let e25 := (int e24); let e26 := (@bnA T e23 e4); let e27 := (some (@Blk.mk [e1, (int e26)] 55 none)); let e28 := (int (@bnN T e23 e4)); let e29 := (int (@bnD T e23 e4)); let e30 := (e9 :: e10 :: (e11 :: (e10 :: e10 :: e10 :: e25 :: e28 :: e29 :: (@List.drop _ (0 + ((e9 :: e10 :: (e11 :: [e10, e10, e10, e25, e28, e29]))).length) [e10, e10, e10, e10, e10, e10, e10, e10, e10])))); let e31 := (@AV.agg (@List.take _ 9 e30)); let e32 := ((((e15 + 1) + 1) + 1) + 1); let e33 := (some (@Blk.mk (e9 :: e10 :: (e11 :: (e10 :: e10 :: e10 :: e25 :: e28 :: e29 :: (@List.drop _ (6 + ([e25, e28, e29]).length) e17)))) 45 none)); let e34 := (@isSo (@And (e21 = e21) (@And e3 (@InT T e20)))); let e35 := (@opA T e20); let e36 := (some (@Blk.mk [e1, (int e35)] 55 none)); let e37 := (int (@opI T e20)); let e38 := (@bnA T e35 e4); let e39 := (some (@Blk.mk [e1, (int e38)] 55 none)); let e40 := (int (@bnN T e35 e4)); let e41 := (int (@bnD T e35 e4)); let e42 := (e9 :: e10 :: (e11 :: (e10 :: e10 :: e10 :: e37 :: e40 :: e41 :: (@List.drop _ (0 + ((e9 :: e10 :: (e11 :: [e10, e10, e10, e37, e40, e41]))).length) [e10, e10, e10, e10, e10, e10, e10, e10, e10])))); let e43 := (@AV.agg (@List.take _ 9 e42)); let e44 := (some (@Blk.mk (e9 :: e10 :: (e11 :: (e10 :: e10 :: e10 :: e37 :: e40 :: e41 :: (@List.drop _ (6 + ([e37, e40, e41]).length) e17)))) 45 none)); (.need (@inR a (T).length) (.need (@isSo ((@ByteArray.size ((T.getD (a).toNat tok0)).text) ≤ 9223372036854775807)) (.need (@isSo (@And ((some (@Blk.mk (e1 :: [(int e2)]) 55 none)) = (some (@Blk.mk [e1, (int e2)] 55 none))) (@And e3 (@InT T e2)))) (.fork (!e5) (.fork e5 (.need e8 (.need (eqI e4 e4) (.leaf ((@AV.tup [e13, (boo (@doneB T e6))]), (@Mem.mk e14 e15 (e18 :: [e19, e21])))))) (.leaf (e22, (@Mem.mk e14 ((((0 + 1) + 1) + 1) + 1) (e18 :: [e19, e7]))))) (.need e8 (.fork (eqI (@kindI T e6) (10 : Int)) (.need (@isSo (@And ((some (@Blk.mk (e1 :: [(int e23)]) 55 none)) = (some (@Blk.mk [e1, (int e23)] 55 none))) (@And ([e11, e25] = [e11, e25]) (@InT T e23)))) (.fork (@bnB T e23 e4) (.need (@isSo (@And (e27 = e27) (@And e3 (@InT T e26)))) (.need (eqI e4 e4) (.need (eqI e24 e24) (.need (eqI (@bnN T e23 e4) (@bnN T e23 e4)) (.need (eqI (@bnD T e23 e4) (@bnD T e23 e4)) (.leaf ((@AV.tup [e31, (boo (@doneB T e26))]), (@Mem.mk e14 e32 (e33 :: [(some (@Blk.mk e30 45 none)), (some (@Blk.mk [e1, (int (@skI T e26))] 55 none))]))))))))) (.leaf ((@AV.tup [e31, (boo false)]), (@Mem.mk e14 (((e15 + 1) + 1) + 1) (e33 :: [(some (@Blk.mk e30 45 none)), e27])))))) (.fork (!(eqI e24 (3 : Int))) (.leaf (e22, (@Mem.mk e14 e15 (e18 :: [e19, e7])))) (.need e8 (.fork (!(@doneB T e6)) (.need e34 (.fork (!(eqI (@opI T e20) (0 : Int))) (.fork (!(!(eqI e4 (6 : Int)))) (.leaf (e22, (@Mem.mk e14 ((e15 + 1) + 1) (e18 :: [e19, e36])))) (.need (@isSo (@And (e36 = e36) (@And ([e11, e37] = [e11, e37]) (@InT T e35)))) (.fork (@bnB T e35 e4) (.need (@isSo (@And (e39 = e39) (@And e3 (@InT T e38)))) (.need (eqI e4 e4) (.need (eqI (@opI T e20) (@opI T e20)) (.need (eqI (@bnN T e35 e4) (@bnN T e35 e4)) (.need (eqI (@bnD T e35 e4) (@bnD T e35 e4)) (.leaf ((@AV.tup [e43, (boo (@doneB T e38))]), (@Mem.mk e14 (e32 + 1) (e44 :: [(some (@Blk.mk e42 45 none)), (some (@Blk.mk [e1, (int (@skI T e38))] 55 none))]))))))))) (.leaf ((@AV.tup [e43, (boo false)]), (@Mem.mk e14 e32 (e44 :: [(some (@Blk.mk e42 45 none)), e39]))))))) (.leaf (e22, (@Mem.mk e14 ((e15 + 1) + 1) (e18 :: [e19, e36])))))) (.fork e5 (.need e34 (.need (eqI e4 e4) (.leaf ((@AV.tup [e13, (boo (@doneB T e20))]), (@Mem.mk e14 ((e15 + 1) + 1) (e18 :: [e19, (some (@Blk.mk [e1, (int (@skI T e20))] 55 none))])))))) (.leaf (e22, (@Mem.mk e14 (e15 + 1) (e18 :: [e19, e21]))))))))))))))) (by kernel_rfl) (by
    have hl : T.length ≤ 17592186044416 := h.2
    have h1 := h.1.2
    have e1 : w64 (a + 1) = a + 1 := w64_in (by omega)
    have hS : InT T (frS T a) := skI_in h
    rw [e1]
    refine need_t (by rw [inR_t]; omega) (need_so hs (need_so ⟨rfl, rfl, h⟩ (fork_ok (fun c1 => ?_) (fun c1 => ?_))))
    · rw [Bool.not_eq_true', Bool.not_eq_false'] at c1
      refine fork_f (by rw [c1]; rfl) ?_
      have c1 : leI (frF T a) 0 = true := c1
      simp only [frV, frHo, frHn, frHd, frB, frA, frG, c1, if_true]
      exact ⟨rfl, rfl⟩
    · have c1' : leI (frF T a) 0 = false := n_t (n_f c1)
      refine need_so ⟨rfl, rfl, hS⟩ (fork_ok (fun c2 => ?_) (fun c2 => ?_))
      · have hS1 : InT T (frS T a + 1) := kind_step hS c2 (by decide)
        have e2 : w64 (skI T (a + 1) + 1) = skI T (a + 1) + 1 := w64_in (by have := hS1.1; unfold frS at this; omega)
        rw [e2]
        have c2' : eqI (kindI T (frS T a)) 10 = true := c2
        refine need_so ⟨rfl, rfl, hS1⟩ (fork_ok (fun c3 => need_so ⟨rfl, rfl, bnA_in hS1⟩ (need_t (eqI_self _) (need_t (eqI_self _) (need_t (eqI_self _) (need_t (eqI_self _) ?_))))) (fun c3 => ?_))
        · have c3' : bnB T (frS T a + 1) (frF T a) = true := c3
          simp only [frV, frHo, frHn, frHd, frB, frA, frG, c1', c2', c3', if_true, Bool.false_eq_true, if_false, Bool.true_and]
          exact ⟨rfl, rfl⟩
        · have c3' : bnB T (frS T a + 1) (frF T a) = false := c3
          simp only [frV, frHo, frHn, frHd, frB, frA, frG, c1', c2', c3', if_true, Bool.false_eq_true, if_false, Bool.false_and]
          exact ⟨rfl, rfl⟩
      · have c2' : eqI (kindI T (frS T a)) 10 = false := c2
        refine fork_ok (fun c3 => ?_) (fun c3 => need_so ⟨rfl, rfl, hS⟩ (fork_ok (fun c4 => need_so ⟨rfl, rfl, skI_in hS⟩ ?_) (fun c4 => ?_)))
        · have c3' : eqI (frO T a) 3 = false := n_t c3
          simp only [frV, frHo, frHn, frHd, frB, frA, frG, c1', c2', c3', Bool.false_eq_true, if_false]
          exact ⟨rfl, rfl⟩
        · have c3' : eqI (frO T a) 3 = true := n_f c3
          have c4' : doneB T (frS T a) = false := n_t c4
          have hQ : InT T (frQ T a) := opA_in (skI_in hS)
          refine fork_ok (fun c5 => ?_) (fun c5 => ?_)
          · have c5' : eqI (opI T (skI T (frS T a))) 0 = false := n_t c5
            refine fork_ok (fun c6 => ?_) (fun c6 => ?_)
            · have c6' : eqI (frF T a) 6 = true := n_f (n_t c6)
              simp only [frV, frHo, frHn, frHd, frB, frA, frG, c1', c2', c3', c4', c5', c6', if_true, Bool.false_eq_true, if_false, Bool.false_or]
              exact ⟨rfl, rfl⟩
            · have c6' : eqI (frF T a) 6 = false := n_t (n_f c6)
              refine need_so ⟨rfl, rfl, hQ⟩ (fork_ok (fun c7 => need_so ⟨rfl, rfl, bnA_in hQ⟩ (need_t (eqI_self _) (need_t (eqI_self _) (need_t (eqI_self _) (need_t (eqI_self _) ?_))))) (fun c7 => ?_))
              · have c7' : bnB T (frQ T a) (frF T a) = true := c7
                simp only [frV, frHo, frHn, frHd, frB, frA, frG, c1', c2', c3', c4', c5', c6', c7', if_true, Bool.false_eq_true, if_false, Bool.or_self, Bool.true_and]
                exact ⟨rfl, rfl⟩
              · have c7' : bnB T (frQ T a) (frF T a) = false := c7
                simp only [frV, frHo, frHn, frHd, frB, frA, frG, c1', c2', c3', c4', c5', c6', c7', if_true, Bool.false_eq_true, if_false, Bool.or_self, Bool.false_and]
                exact ⟨rfl, rfl⟩
          · have c5' : eqI (opI T (skI T (frS T a))) 0 = true := n_f c5
            simp only [frV, frHo, frHn, frHd, frB, frA, frG, c1', c2', c3', c4', c5', if_true, Bool.false_eq_true, if_false, Bool.true_or]
            exact ⟨rfl, rfl⟩
        · have c3' : eqI (frO T a) 3 = true := n_f c3
          have c4' : doneB T (frS T a) = true := n_f c4
          refine fork_t (n_f c1) (need_so ⟨rfl, rfl, skI_in hS⟩ (need_t (eqI_self _) ?_))
          simp only [frV, frHo, frHn, frHd, frB, frA, frG, c1', c2', c3', c4', if_true, Bool.false_eq_true, if_false]
          exact ⟨rfl, rfl⟩)
def TxtOk (T : List TokV) : Prop := ∀ t ∈ T, t.text.size ≤ 9223372036854775807
theorem TxtOk.at {T : List TokV} (h : TxtOk T) (k : Nat) : (T.getD k tok0).text.size ≤ 9223372036854775807 := by
  rw [List.getD_eq_getElem?_getD]
  cases hk : T[k]? with
  | none => show 0 ≤ _; omega
  | some x => exact h x (List.mem_of_getElem? hk)
noncomputable abbrev Sy.cFrn (T : List TokV) : Con Try.prog := conR T 87 (fun r => match r with | [] => some () | _ => none) (fun _ => []) (fun a _ => feG (frV T a) (frB T a)) (fun a _ => frA T a) (fun a _ => TxtOk T ∧ 0 ≤ a ∧ InT T (a + 1)) fun a _ h => by
  refine ⟨⟨trivial, feG_free _ _⟩, (frn_t T a h.2.2 h.2.1 (h.1.at _)).mono fun v M' ⟨q1, q2⟩ => ?_⟩
  subst q1
  exact ⟨Frz.free _ _ (feG_free _ _), q2⟩
namespace Sy
abbrev qzB : Blk := ⟨[int 0, int 0, int 0, int 0, int 0, int 0, int 0, int 0, int 0], 45, none⟩
abbrev bcM (T : List TokV) (a b : Int) : Mem := ⟨3, 0, [some (rdB T b), some qzB, some (rdB T a)]⟩
abbrev bcF : Fr := (some ((@AV.ptr 0 0)) :: none :: some (.ptr 1 0) :: none :: some (.ptr 2 0) :: (nn11 (nn48 (nn48 []))))
end Sy
end Go.Proofs.Ytlmanlpgknhfpaa
namespace Go.Proofs.Ytlmanlpgknhfpaa
open Go Go.RowKit Pl Sy
theorem Sy.Mem.put_same {M : Mem} {b : Nat} {B : Blk} (h : M.get b = some B) : M.put b (some B) = ⟨M.top, M.stamp + 1, M.bs⟩ := by
  have hlt := Mem.get_lt h
  rw [Mem.put_def]
  rw [Mem.get_def, if_pos hlt] at h
  congr 1
  have h2 : M.bs[M.top - 1 - b]? = some (some B) := by
    cases hx : M.bs[M.top - 1 - b]? with
    | none => rw [hx] at h; cases h
    | some x =>
      rw [hx] at h
      cases x with
      | none => cases h
      | some y => simp only [Option.some.injEq] at h; rw [h]
  obtain ⟨h3, h4⟩ := List.getElem?_eq_some_iff.1 h2
  rw [← h4]
  exact List.set_getElem_self h3
namespace Sy
noncomputable abbrev cKindS (T : List TokV) : Con Try.prog where
  f := 24
  run := fun args M => match rdGet args M with
    | some x => match x.rest with
      | [] => some (int (kindI T x.a), M)
      | _ => none
    | none => none
  ob := fun args M => match rdGet args M with
    | some x => match x.rest with
      | [] => some (isSo (M.get x.rb = some (rdB T x.a) ∧ InT T x.a))
      | _ => none
    | none => none
  ok := fun args M v M' hr hob => by
    cases hg : rdGet args M with
    | none => rw [hg] at hr; cases hr
    | some x =>
      rw [hg] at hr hob
      cases hy : x.rest with
      | cons y ys => simp only [hy] at hr; cases hr
      | nil =>
        simp only [hy] at hr hob
        simp at hr
        obtain ⟨rfl, rfl⟩ := hr
        have h1 := hob _ rfl
        rw [isSo_t] at h1
        obtain ⟨hb, hC⟩ := h1
        have e : args = .ptr x.rb 0 :: [] := by
          rw [← hy]
          unfold rdGet at hg
          split at hg
          · split at hg
            · simp at hg; subst hg; rfl
            · cases hg
          · cases hg
        refine ⟨Grow.refl _, ?_⟩
        rw [e]
        have key := CallTo.frame1 (P := Try.prog) (M := M) (b := x.rb) (B0 := rdB T x.a) (B := rdB T x.a) (B' := rdB T x.a) (args := [.ptr x.rb 0]) (args1 := [.ptr 0 0]) (v0 := int (kindI T x.a)) ((kind_t T x.a hC).mono fun v M' ⟨q1, q2⟩ => by
          subst q1 q2
          exact ⟨Frz.lit _ _ _ _, _, rfl, rfl, Frz.free _ _ (kv_free T), Frz.lit _ _ _ _, trivial⟩) ⟨⟨rfl, rfl⟩, trivial⟩ hb ⟨rfl, ⟨RenV.free _ (kv_free T), rfl, trivial⟩, trivial⟩ rfl rfl rfl ⟨kv_free T, trivial, trivial⟩ trivial
        rw [Mem.put_same hb] at key
        refine fun w0 ρ us w q1 q2 => (key w0 ρ us w q1 q2).mono ?_
        rintro ex w2 ⟨ρ', u, v, M2, r1, r2, r3, r4, rfl, rfl⟩
        exact ⟨ρ', u, _, M, r1, r2, r3, r4.restamp M.stamp, rfl, rfl⟩
end Sy
def idP (T : List TokV) (k : Nat) : Nat := Sy.hops (fun j => eqI (tokAt T j).kind 1) (fun j => j + 1) T.length k
def idI (T : List TokV) (a : Int) : Int := (idP T a.toNat : Nat)
theorem idP_le (T : List TokV) (k : Nat) (h : k ≤ T.length) : k ≤ idP T k ∧ idP T k ≤ T.length := Sy.hops_le (fun k _ => Nat.lt_succ_self k) (fun k h => h) _ k (Nat.le_refl _) h
theorem kindI_at (T : List TokV) (κ : Nat) (h : κ < T.length) : kindI T (κ : Int) = (tokAt T κ).kind := by
  unfold kindI
  rw [if_neg (by rw [leI_t]; omega)]
  rfl
theorem Sy.bck_scan (T : List TokV) (hl : lim T) (a : Int) (k0 : Nat) (h1 : k0 ≤ T.length) : LoopTo Try.prog (theBody Try.prog 88 3) (T.length - k0 + 1) bcF (bcM T a k0) fun ex F' M' => ex = .exit 0 ∧ F' = bcF ∧ M' = bcM T a (idP T k0 : Nat) := by
  have key := hopL (P := Try.prog) (body := theBody Try.prog 88 3) T.length (fun j => eqI (tokAt T j).kind 1) (fun j => j + 1) (fun k _ => Nat.lt_succ_self k) (fun k h => h) (fun k => bcF) (fun k => bcF) (fun k => bcM T a (k : Nat)) (.exit 0) (fun κ n G h0 c1 c2 c3 => by
    generalize hκ : (κ : Int) = b at *
    refine roundL [cKindS T] [] 400 30 88 3 Try.func88 rfl (by kernel_rfl) (true :: false :: true :: false :: true :: (ff11 (ff48 (ff48 [])))) (.br (.yes (.auto 1 (.br .done .done))) (.auto 2 .done)) (let e1 := (@AV.view (T).length 3 (fun y0 => (fun y1 => (@AV.lit ([(@Value.int IntKind.i64 ((T.getD y0 tok0)).kind), (@Value.string ((T.getD y0 tok0)).text), (@Value.int IntKind.i64 ((T.getD y0 tok0)).n)].getD y1 (@Value.tuple (@Array.mk _ []))))))); let e2 := (some (@Blk.mk [e1, (int b)] 55 none)); let e3 := (some (@Blk.mk [e1, (int a)] 55 none)); (.fork (!(leI (((T).length : Nat) : Int) b)) (.need (@isSo (@And (e2 = e2) (@InT T b))) (.fork (!(eqI (@kindI T b) (1 : Int))) (.leaf (Ex.norm, (((some (@AV.ptr 0 0)) :: none :: (some (@AV.ptr 1 0)) :: none :: (some (@AV.ptr 2 0)) :: (nn11 (nn48 (nn48 [])))), (@Mem.mk 3 (0 + 1) [(some (@Blk.mk (e1 :: [(int (w64 (b + (1 : Int))))]) 55 none)), (some qzB), e3])))) (.leaf ((@Ex.exit 0), (((some (@AV.ptr 0 0)) :: none :: (some (@AV.ptr 1 0)) :: none :: (some (@AV.ptr 2 0)) :: (nn11 (nn48 (nn48 [])))), (@Mem.mk 3 0 [e2, (some qzB), e3])))))) (.leaf ((@Ex.exit 0), (((some (@AV.ptr 0 0)) :: none :: (some (@AV.ptr 1 0)) :: none :: (some (@AV.ptr 2 0)) :: (nn11 (nn48 (nn48 [])))), (@Mem.mk 3 0 [e2, (some qzB), e3])))))) (by kernel_rfl) ?_
    have hl' : T.length ≤ 17592186044416 := hl
    refine fork_ok (fun h => ?_) (fun h => ?_)
    · simp only [Bool.not_eq_true', Bool.not_eq_false', leI_t, leI_f, eqI_t, eqI_f, inR_t, inR_f, isSo_t, isSo_f] at h
      have hk : κ < T.length := by omega
      have hκ' : eqI (tokAt T κ).kind 1 = eqI (kindI T b) 1 := by rw [← hκ, kindI_at T κ hk]
      refine need_so ⟨rfl, ⟨by omega, by omega⟩, hl⟩ (fork_ok (fun h2 => ?_) (fun h2 => c2 hk (by rw [hκ']; simpa using h2)))
      have := c1 hk (by rw [hκ']; simpa using h2)
      rw [show ((κ + 1 : Nat) : Int) = b + 1 by omega] at this
      rw [w64_in (r := b + 1) (by omega)]
      exact Sy.LoopTo.stampA 0 this
    · simp only [Bool.not_eq_true', Bool.not_eq_false', leI_t, leI_f, eqI_t, eqI_f, inR_t, inR_f, isSo_t, isSo_f] at h
      have hk : κ = T.length := by omega
      have := c3 hk
      rw [← hk, hκ] at this
      exact this) k0 h1
  refine key.mono fun ex F M hg => ?_
  obtain ⟨rfl, hg⟩ := hg
  rcases hg with ⟨q1, rfl, rfl⟩ | ⟨q1, rfl, rfl⟩
  · exact ⟨rfl, rfl, rfl⟩
  · exact ⟨rfl, rfl, rfl⟩
namespace Sy
noncomputable abbrev lpBck (T : List TokV) (a : Int) : Lp Try.prog where
  f := 88
  key := 3
  S := formS (fun F M => some M.stamp) (fun _ => bcF) (fun s => ⟨3, s, [some (rdB T a), some qzB, some (rdB T a)]⟩) (fun _ => lim T ∧ 0 ≤ a ∧ a ≤ T.length) (fun _ => .leaf (.exit 0, bcF, bcM T a (idI T a))) (true :: false :: true :: false :: true :: (ff11 (ff48 (ff48 []))))
  one := by kernel_rfl
  ok := formS_ok fun s ⟨h1, h2, h3⟩ => by
    obtain ⟨k0, rfl⟩ := Int.eq_ofNat_of_zero_le h2
    refine ⟨_, Sy.LoopTo.stampA 0 ((Sy.bck_scan T h1 k0 k0 (by omega)).mono fun ex F M hg => ?_)⟩
    obtain ⟨rfl, rfl, rfl⟩ := hg
    rfl
end Sy
def bkF (T : List TokV) (a : Int) : Int := calI (T.getD (idI T a).toNat tok0).text
def bk1 (T : List TokV) (a : Int) : Int := bnA T a (bkF T a)
def bk2 (T : List TokV) (a : Int) : Int := opA T (bk1 T a)
def bk3 (T : List TokV) (a : Int) : Int := wordA T (bk2 T a) (featS (bkF T a))
def bk5 (T : List TokV) (a : Int) : Int := opA T (skI T (bk3 T a))
def bk6 (T : List TokV) (a : Int) : Int := bnA T (bk5 T a) (bkF T a)
def bkG {α : Type} (T : List TokV) (a : Int) (none_ bad badv badw one two : α) : α :=
  if eqI (idI T a) T.length then none_ else if eqI (bkF T a) 0 then bad else if eqI (bkF T a) 6 then bad else if bnB T a (bkF T a) then (if eqI (opI T (bk1 T a)) 0 then badv else if wordB T (bk2 T a) (featS (bkF T a)) then (if doneB T (bk3 T a) then one else two) else badw) else badv
def bkQ0 (T : List TokV) (a : Int) : QNodeV := ⟨4, 0, bkF T a, 0, 0, 0, 0, 0, 0⟩
def bkQ1 (T : List TokV) (a : Int) : QNodeV := ⟨4, 0, bkF T a, 0, 0, 0, 6 - opI T (bk1 T a), bnN T a (bkF T a), bnD T a (bkF T a)⟩
def bkQ2 (T : List TokV) (a : Int) : QNodeV := ⟨4, 0, bkF T a, opI T (bk1 T a), bnN T a (bkF T a), bnD T a (bkF T a), opI T (skI T (bk3 T a)), bnN T (bk5 T a) (bkF T a), bnD T (bk5 T a) (bkF T a)⟩
def qfits (q : QNodeV) : Bool := fitsV q.feat q.lo q.ln q.ld q.ho q.hn q.hd
def bkV (T : List TokV) (a : Int) : QNodeV := bkG T a QNodeV.zero (bkQ0 T a) (bkQ0 T a) (bkQ0 T a) (bkQ1 T a) (bkQ2 T a)
def bkB (T : List TokV) (a : Int) : Bool := bkG T a false false false false true (bnB T (bk5 T a) (bkF T a) && (doneB T (bk6 T a) && qfits (bkQ2 T a)))
def bkA (T : List TokV) (a : Int) : Int := bkG T a a a (bk2 T a) (bk3 T a) (skI T (bk3 T a)) (if bnB T (bk5 T a) (bkF T a) then skI T (bk6 T a) else bk6 T a)
theorem opI_in (T : List TokV) (a : Int) : 0 ≤ opI T a ∧ opI T a ≤ 5 := by
  unfold opI
  repeat' split
  all_goals omega
theorem Sy.bck_t (T : List TokV) (a : Int) (h : InT T a) (hs : TxtOk T) : CallTo Try.prog 88 [.ptr 0 0] (rdM T a) fun v M' => v = feG (bkV T a) (bkB T a) ∧ M'.get 0 = some (rdB T (bkA T a)) :=
  to (G := fun r => r.1 = feG (bkV T a) (bkB T a) ∧ r.2.get 0 = some (rdB T (bkA T a))) [cSpc T, cKind T, cBnd T, cDone T, cOp T, cWord T, cCal, cFea, cFits] [lpBck T a] 400 30 (.br .done (.yes (.yes (.br (.auto 1 (.br .done (.yes (.yes (.br (.auto 2 (.br (.auto 2 (.yes (.auto 1 (.br .done (.yes (.br .done (.yes (.yes (.br (.auto 0 (.yes (.auto 0 (.br (.auto 3 (.yes (.yes (.yes (.yes (.yes (.yes (.yes (.auto 1 (.yes (.yes (.yes (.yes (.yes (.yes (.yes .done)))))))))))))))) (.auto 3 (.yes (.yes (.yes (.yes (.yes (.yes (.yes (.auto 1 (.yes (.yes (.yes (.yes (.yes (.yes (.yes .done)))))))))))))))))))) (.auto 4 .done)))))))))) (.auto 5 .done))) (.auto 9 .done)))))) (.auto 2 .done))))) (let e1 := (@AV.view (T).length 3 (fun y0 => (fun y1 => (@AV.lit ([(@Value.int IntKind.i64 ((T.getD y0 tok0)).kind), (@Value.string ((T.getD y0 tok0)).text), (@Value.int IntKind.i64 ((T.getD y0 tok0)).n)].getD y1 (@Value.tuple (@Array.mk _ []))))))); let e2 := (int (0 : Int)); let e3 := (some (@Blk.mk [e2, e2, e2, e2, e2, e2, e2, e2, e2] 45 none)); let e4 := (some (@Blk.mk [e1, (int a)] 55 none)); let e5 := (some (@Blk.mk [e1, (int (@idI T a))] 55 none)); let e6 := (@calI ((T.getD ((@idI T a)).toNat tok0)).text); let e7 := (int (4 : Int)); let e8 := (int e6); let e9 := (e7 :: e2 :: (e8 :: [e2, e2, e2, e2, e2, e2])); let e10 := (@AV.tup [(@AV.agg (@List.take _ 9 e9)), (boo false)]); let e11 := (@Value.int IntKind.i64 (0 : Int)); let e12 := (e7 :: e2 :: (e8 :: (e2 :: e2 :: e2 :: e2 :: e2 :: e2 :: (@List.drop _ (0 + ((e7 :: e2 :: (e8 :: (@List.drop _ (2 + ([e8]).length) (e7 :: (@List.drop _ 1 (@List.map _ _ AV.lit (@Array.toList _ (@Array.mk _ [e11, e11, e11, e11, e11, e11, e11, e11, e11]))))))))).length) [e2, e2, e2, e2, e2, e2, e2, e2, e2])))); let e13 := (some (@Blk.mk e12 45 none)); let e14 := (some (@Blk.mk e9 45 none)); let e15 := (int (Int.ofNat 0)); let e16 := (@bnA T a e6); let e17 := (some (@Blk.mk [e1, (int e16)] 55 none)); let e18 := (([] : List AV) = []); let e19 := (@opI T e16); let e20 := (some (@Blk.mk [e1, (int (@opA T e16))] 55 none)); let e21 := (@AV.lit (@Value.string (@featS e6))); let e22 := ((3 + 1) + 1); let e23 := ((((((0 + 1) + 1) + 1) + 1) + 1) + 1); let e24 := (int e19); let e25 := (@bnN T a e6); let e26 := (int e25); let e27 := (@bnD T a e6); let e28 := (int e27); let e29 := (e24 :: (@List.drop _ (0 + ([e24]).length) (e15 :: e26 :: e28 :: (@List.drop _ (0 + ([e15, e26, e28]).length) [e2, e2, e2])))); let e30 := (some (@Blk.mk e29 43 none)); let e31 := (@wordA T (@opA T e16) (@featS e6)); let e32 := (some (@Blk.mk [e1, (int e31)] 55 none)); let e33 := (int (w64 ((6 : Int) - e19))); let e34 := (e7 :: e2 :: (e8 :: (e2 :: e2 :: e2 :: (e33 :: [e26, e28])))); let e35 := (some (@Blk.mk [e1, (int (@skI T e31))] 55 none)); let e36 := (@opA T (@skI T e31)); let e37 := (some (@Blk.mk [e1, (int e36)] 55 none)); let e38 := (@opI T (@skI T e31)); let e39 := (@bnA T e36 e6); let e40 := (some (@Blk.mk [e1, (int e39)] 55 none)); let e41 := (eqI e19 e19); let e42 := (eqI e25 e25); let e43 := (eqI e27 e27); let e44 := (eqI e38 e38); let e45 := (@bnN T e36 e6); let e46 := (eqI e45 e45); let e47 := (@bnD T e36 e6); let e48 := (eqI e47 e47); let e49 := (e7 :: e2 :: (e8 :: (e24 :: [e26, e28, (int e38), (int e45), (int e47)]))); let e50 := (@AV.agg (@List.take _ 9 e49)); let e51 := ((((((e23 + 1) + 1) + 1) + 1) + 1) + 1); let e52 := (some (@Blk.mk (e7 :: e2 :: (e8 :: (e24 :: (e26 :: e28 :: (int e38) :: (int e45) :: (int e47) :: (@List.drop _ (6 + ([(int e38), (int e45), (int e47)]).length) (e7 :: e2 :: (e8 :: (e24 :: (e26 :: e28 :: (@List.drop _ (3 + ((e24 :: [e26, e28])).length) e12)))))))))) 45 none)); let e53 := (@Mem.mk e22 (e51 + 1) (e30 :: [e52, e5, (some (@Blk.mk e49 45 none)), (some (@Blk.mk [e1, (int (@skI T e39))] 55 none))])); (.need (@isSo (@And (((some (@AV.ptr 0 0)) :: none :: (some (@AV.ptr 1 0)) :: none :: (some (@AV.ptr (1 + 1) 0)) :: (nn11 (nn48 (nn48 [])))) = bcF) ((@Mem.mk ((1 + 1) + 1) (0 + 1) [(some (@Blk.mk (e1 :: (int a) :: (@List.drop _ (0 + ([e1, (int a)]).length) [(@AV.lit (@Value.slice none 0 0)), e2])) 55 none)), e3, e4]) = (@Mem.mk 3 (0 + 1) [e4, (some qzB), e4])))) (.need (@isSo (@And (@lim T) (@And ((0 : Int) ≤ a) (a ≤ (((T).length : Nat) : Int))))) (.fork (eqI (@idI T a) (((T).length : Nat) : Int)) (.leaf ((@AV.tup [(@AV.agg (@List.take _ 9 [e2, e2, e2, e2, e2, e2, e2, e2, e2])), (boo false)]), (@Mem.mk 3 (0 + 1) [e5, e3, e4]))) (.need (@inR (@idI T a) (T).length) (.need (@isSo True) (.fork (!(eqI e6 (0 : Int))) (.fork (eqI e6 (6 : Int)) (.leaf (e10, (@Mem.mk (3 + 1) ((0 + 1) + 1) [e13, e5, e14, e4]))) (.need (@isSo (@And (e4 = e4) (@And ([e8, e2] = [e8, e15]) (@InT T a)))) (.need (@isSo (@And (e17 = e17) (@And e18 (@InT T e16)))) (.fork (!(!(@bnB T a e6))) (.fork (!(eqI e19 (0 : Int))) (.need (@isSo (@And (e20 = e20) (@And ([e21] = [e21]) (@InT T (@opA T e16))))) (.fork (!(@wordB T (@opA T e16) (@featS e6))) (.leaf (e10, (@Mem.mk e22 (e23 + 1) (e30 :: [e13, e5, e14, e32])))) (.need (@isSo (@And (e32 = e32) (@And e18 (@InT T e31)))) (.fork (@doneB T e31) (.leaf ((@AV.tup [(@AV.agg (@List.take _ 9 e34)), (boo true)]), (@Mem.mk e22 ((((e23 + 1) + 1) + 1) + 1) ((some (@Blk.mk (e33 :: (@List.drop _ (0 + ([e33]).length) e29)) 43 none)) :: [(some (@Blk.mk (e7 :: e2 :: (e8 :: (e2 :: e2 :: e2 :: (e33 :: (e26 :: e28 :: (@List.drop _ (6 + ((e33 :: [e26, e28])).length) e12)))))) 45 none)), e5, (some (@Blk.mk e34 45 none)), e35])))) (.need (@isSo (@And (e35 = e35) (@And e18 (@InT T (@skI T e31))))) (.need (@isSo (@And (e37 = e37) (@And ([e8, (int e38)] = [e8, (int e38)]) (@InT T e36)))) (.fork (@bnB T e36 e6) (.need (@isSo (@And (e40 = e40) (@And e18 (@InT T e39)))) (.fork (@doneB T e39) (.need (eqI e6 e6) (.need e41 (.need e42 (.need e43 (.need e44 (.need e46 (.need e48 (.need (eqI e6 e6) (.need e41 (.need e42 (.need e43 (.need e44 (.need e46 (.need e48 (.leaf ((@AV.tup [e50, (boo (@fitsV e6 e19 e25 e27 e38 e45 e47))]), e53)))))))))))))))) (.need (eqI e6 e6) (.need e41 (.need e42 (.need e43 (.need e44 (.need e46 (.need e48 (.need (eqI e6 e6) (.need e41 (.need e42 (.need e43 (.need e44 (.need e46 (.need e48 (.leaf ((@AV.tup [e50, (boo false)]), e53)))))))))))))))))) (.leaf ((@AV.tup [e50, (boo false)]), (@Mem.mk e22 e51 (e30 :: [e52, e5, (some (@Blk.mk e49 45 none)), e40]))))))))))) (.leaf (e10, (@Mem.mk e22 e23 (e30 :: [e13, e5, e14, e20]))))) (.leaf (e10, (@Mem.mk e22 e23 (e30 :: [e13, e5, e14, e20])))))))) (.leaf (e10, (@Mem.mk (3 + 1) ((0 + 1) + 1) [e13, e5, e14, e4])))))))))) (by kernel_rfl) (by
    have hi := idP_le T a.toNat (by have := h.1; omega)
    refine need_so ⟨rfl, rfl⟩ (need_so ⟨h.2, h.1.1, h.1.2⟩ (fork_ok (fun c1 => ?_) (fun c1 => ?_)))
    · have c1 : eqI (idI T a) T.length = true := c1
      simp only [bkV, bkB, bkA, bkG, *, if_true, Bool.false_eq_true, if_false, Bool.true_and, Bool.false_and]
      exact ⟨rfl, rfl⟩
    · have hr : inR (idI T a) T.length = true := by
        rw [inR_t]
        rw [eqI_f] at c1
        unfold idI at c1 ⊢
        omega
      have c1 : eqI (idI T a) T.length = false := c1
      refine need_t hr (need_so trivial (fork_ok (fun c2 => fork_ok (fun c3 => ?_) (fun c3 => ?_)) (fun c2 => ?_)))
      · have c2 : eqI (bkF T a) 0 = false := n_t c2
        have c3 : eqI (bkF T a) 6 = true := c3
        simp only [bkV, bkB, bkA, bkG, *, if_true, Bool.false_eq_true, if_false, Bool.true_and, Bool.false_and]
        exact ⟨rfl, rfl⟩
      · have c2 : eqI (bkF T a) 0 = false := n_t c2
        have c3 : eqI (bkF T a) 6 = false := c3
        have h1 : InT T (bk1 T a) := bnA_in h
        have h2 : InT T (bk2 T a) := opA_in h1
        have h3 : InT T (bk3 T a) := wordA_in h2
        have h5 : InT T (bk5 T a) := opA_in (skI_in h3)
        have h6 : InT T (bk6 T a) := bnA_in h5
        refine need_so ⟨rfl, rfl, h⟩ (need_so ⟨rfl, rfl, h1⟩ (fork_ok (fun c4 => ?_) (fun c4 => ?_)))
        · have c4 : bnB T a (bkF T a) = true := n_f (n_t c4)
          refine fork_ok (fun c5 => ?_) (fun c5 => ?_)
          · have c5 : eqI (opI T (bk1 T a)) 0 = false := n_t c5
            refine need_so ⟨rfl, rfl, h2⟩ (fork_ok (fun c6 => ?_) (fun c6 => ?_))
            · have c6 : wordB T (bk2 T a) (featS (bkF T a)) = false := n_t c6
              simp only [bkV, bkB, bkA, bkG, *, if_true, Bool.false_eq_true, if_false, Bool.true_and, Bool.false_and]
              exact ⟨rfl, rfl⟩
            · have c6 : wordB T (bk2 T a) (featS (bkF T a)) = true := n_f c6
              refine need_so ⟨rfl, rfl, h3⟩ (fork_ok (fun c7 => ?_) (fun c7 => ?_))
              · have c7 : doneB T (bk3 T a) = true := c7
                have hw : w64 (6 - opI T (bk1 T a)) = 6 - opI T (bk1 T a) := w64_in (by have := opI_in T (bk1 T a); omega)
                have hw' : w64 (6 - opI T (bnA T a (calI (T.getD (idI T a).toNat tok0).text))) = 6 - opI T (bk1 T a) := hw
                rw [hw']
                simp only [bkV, bkB, bkA, bkG, *, if_true, Bool.false_eq_true, if_false, Bool.true_and, Bool.false_and]
                exact ⟨rfl, rfl⟩
              · have c7 : doneB T (bk3 T a) = false := c7
                refine need_so ⟨rfl, rfl, skI_in h3⟩ (need_so ⟨rfl, rfl, h5⟩ (fork_ok (fun c8 => ?_) (fun c8 => ?_)))
                · have c8 : bnB T (bk5 T a) (bkF T a) = true := c8
                  refine need_so ⟨rfl, rfl, h6⟩ (fork_ok (fun c9 => ?_) (fun c9 => ?_))
                  · have c9 : doneB T (bk6 T a) = true := c9
                    (repeat' (first | refine need_t (eqI_self _) ?_))
                    simp only [bkV, bkB, bkA, bkG, *, if_true, Bool.false_eq_true, if_false, Bool.true_and, Bool.false_and]
                    exact ⟨rfl, rfl⟩
                  · have c9 : doneB T (bk6 T a) = false := c9
                    (repeat' (first | refine need_t (eqI_self _) ?_))
                    simp only [bkV, bkB, bkA, bkG, *, if_true, Bool.false_eq_true, if_false, Bool.true_and, Bool.false_and]
                    exact ⟨rfl, rfl⟩
                · have c8 : bnB T (bk5 T a) (bkF T a) = false := c8
                  simp only [bkV, bkB, bkA, bkG, *, if_true, Bool.false_eq_true, if_false, Bool.true_and, Bool.false_and]
                  exact ⟨rfl, rfl⟩
          · have c5 : eqI (opI T (bk1 T a)) 0 = true := n_f c5
            simp only [bkV, bkB, bkA, bkG, *, if_true, Bool.false_eq_true, if_false, Bool.true_and, Bool.false_and]
            exact ⟨rfl, rfl⟩
        · have c4 : bnB T a (bkF T a) = false := n_t (n_f c4)
          simp only [bkV, bkB, bkA, bkG, *, if_true, Bool.false_eq_true, if_false, Bool.true_and, Bool.false_and]
          exact ⟨rfl, rfl⟩
      · have c2 : eqI (bkF T a) 0 = true := n_f c2
        simp only [bkV, bkB, bkA, bkG, *, if_true, Bool.false_eq_true, if_false, Bool.true_and, Bool.false_and]
        exact ⟨rfl, rfl⟩)
noncomputable abbrev Sy.cBck (T : List TokV) : Con Try.prog := conR T 88 (fun r => match r with | [] => some () | _ => none) (fun _ => []) (fun a _ => feG (bkV T a) (bkB T a)) (fun a _ => bkA T a) (fun a _ => TxtOk T ∧ InT T a) fun a _ h => by
  refine ⟨⟨trivial, feG_free _ _⟩, (bck_t T a h.2 h.1).mono fun v M' ⟨q1, q2⟩ => ?_⟩
  subst q1
  exact ⟨Frz.free _ _ (feG_free _ _), q2⟩
end Go.Proofs.Ytlmanlpgknhfpaa
namespace Go.Proofs.Ytlmanlpgknhfpaa
open Go Go.RowKit Pl Sy
def ftB0 (T : List TokV) (a : Int) : Bool := eqI (kindI T (skI T a)) 1
def ftV (T : List TokV) (a : Int) : QNodeV := if ftB0 T a then frV T (skI T a) else bkV T (skI T a)
def ftB (T : List TokV) (a : Int) : Bool := if ftB0 T a then frB T (skI T a) else bkB T (skI T a)
def ftA (T : List TokV) (a : Int) : Int := if ftB0 T a then frA T (skI T a) else bkA T (skI T a)
theorem Sy.ftr_t (T : List TokV) (a : Int) (h : InT T a) (hs : TxtOk T) : CallTo Try.prog 75 [.ptr 0 0] (rdM T a) fun v M' => v = feG (ftV T a) (ftB T a) ∧ M'.get 0 = some (rdB T (ftA T a)) :=
  to (G := fun r => r.1 = feG (ftV T a) (ftB T a) ∧ r.2.get 0 = some (rdB T (ftA T a))) [cSpc T, cKind T, cFrn T, cBck T] [] 400 30 (.yes (.yes (.br (.yes .done) (.yes .done)))) (let e1 := (@AV.view (T).length 3 (fun y0 => (fun y1 => (@AV.lit ([(@Value.int IntKind.i64 ((T.getD y0 tok0)).kind), (@Value.string ((T.getD y0 tok0)).text), (@Value.int IntKind.i64 ((T.getD y0 tok0)).n)].getD y1 (@Value.tuple (@Array.mk _ []))))))); let e2 := (some (@Blk.mk [e1, (int a)] 55 none)); let e3 := (([] : List AV) = []); let e4 := (@skI T a); let e5 := (some (@Blk.mk [e1, (int e4)] 55 none)); let e6 := (int (0 : Int)); let e7 := ((int ((@frV T e4)).kind) :: (int ((@frV T e4)).count) :: (int ((@frV T e4)).feat) :: (int ((@frV T e4)).lo) :: (int ((@frV T e4)).ln) :: (int ((@frV T e4)).ld) :: (int ((@frV T e4)).ho) :: (int ((@frV T e4)).hn) :: (int ((@frV T e4)).hd) :: (@List.drop _ (0 + ([(int ((@frV T e4)).kind), (int ((@frV T e4)).count), (int ((@frV T e4)).feat), (int ((@frV T e4)).lo), (int ((@frV T e4)).ln), (int ((@frV T e4)).ld), (int ((@frV T e4)).ho), (int ((@frV T e4)).hn), (int ((@frV T e4)).hd)]).length) [e6, e6, e6, e6, e6, e6, e6, e6, e6])); let e8 := ((int ((@bkV T e4)).kind) :: (int ((@bkV T e4)).count) :: (int ((@bkV T e4)).feat) :: (int ((@bkV T e4)).lo) :: (int ((@bkV T e4)).ln) :: (int ((@bkV T e4)).ld) :: (int ((@bkV T e4)).ho) :: (int ((@bkV T e4)).hn) :: (int ((@bkV T e4)).hd) :: (@List.drop _ (0 + ([(int ((@bkV T e4)).kind), (int ((@bkV T e4)).count), (int ((@bkV T e4)).feat), (int ((@bkV T e4)).lo), (int ((@bkV T e4)).ln), (int ((@bkV T e4)).ld), (int ((@bkV T e4)).ho), (int ((@bkV T e4)).hn), (int ((@bkV T e4)).hd)]).length) [e6, e6, e6, e6, e6, e6, e6, e6, e6])); (.need (@isSo (@And (e2 = e2) (@And e3 (@InT T a)))) (.need (@isSo (@And (e5 = e5) (@And e3 (@InT T e4)))) (.fork (eqI (@kindI T e4) (1 : Int)) (.need (@isSo (@And (e5 = e5) (@And e3 (@And ((∀ (t : TokV), t ∈ T → t.text.size ≤ 9223372036854775807)) (@And ((0 : Int) ≤ e4) (@InT T (e4 + (1 : Int)))))))) (.leaf ((@AV.tup [(@AV.agg (@List.take _ 9 e7)), (boo (@frB T e4))]), (@Mem.mk (1 + 1) ((((0 + 1) + 1) + 1) + 1) [(some (@Blk.mk e7 45 none)), (some (@Blk.mk [e1, (int (@frA T e4))] 55 none))])))) (.need (@isSo (@And (e5 = e5) (@And e3 (@And ((∀ (t : TokV), t ∈ T → t.text.size ≤ 9223372036854775807)) (@InT T e4))))) (.leaf ((@AV.tup [(@AV.agg (@List.take _ 9 e8)), (boo (@bkB T e4))]), (@Mem.mk (1 + 1) ((((0 + 1) + 1) + 1) + 1) [(some (@Blk.mk e8 45 none)), (some (@Blk.mk [e1, (int (@bkA T e4))] 55 none))])))))))) (by kernel_rfl) (by
    have h1 := skI_in h
    refine need_so ⟨rfl, rfl, h⟩ (need_so ⟨rfl, rfl, h1⟩ (fork_ok (fun c1 => need_so ⟨rfl, rfl, hs, h1.1.1, kind_step h1 c1 (by decide)⟩ ?_) (fun c1 => need_so ⟨rfl, rfl, hs, h1⟩ ?_)))
    · have c1 : ftB0 T a = true := c1
      simp only [ftV, ftB, ftA, c1, if_true]
      exact ⟨rfl, rfl⟩
    · have c1 : ftB0 T a = false := c1
      simp only [ftV, ftB, ftA, c1, Bool.false_eq_true, if_false]
      exact ⟨rfl, rfl⟩)
noncomputable abbrev Sy.cFtr (T : List TokV) : Con Try.prog := conR T 75 (fun r => match r with | [] => some () | _ => none) (fun _ => []) (fun a _ => feG (ftV T a) (ftB T a)) (fun a _ => ftA T a) (fun a _ => TxtOk T ∧ InT T a) fun a _ h => by
  refine ⟨⟨trivial, feG_free _ _⟩, (ftr_t T a h.2 h.1).mono fun v M' ⟨q1, q2⟩ => ?_⟩
  subst q1
  exact ⟨Frz.free _ _ (feG_free _ _), q2⟩
def innE (T : List TokV) (a : Int) : Int := mtI T (skI T a)
def innB (T : List TokV) (a : Int) : Bool := eqI (kindI T (skI T a)) 13 && !eqI (innE T a) T.length
def innL (T : List TokV) (a : Int) : List TokV := if innB T a then (T.drop (skI T a + 1).toNat).take (innE T a - (skI T a + 1)).toNat else []
def innA (T : List TokV) (a : Int) : Int := if innB T a then innE T a + 1 else skI T a
theorem inn_in {T : List TokV} {a : Int} (h : InT T a) (hb : innB T a = true) : skI T a + 1 ≤ innE T a ∧ innE T a < T.length := by
  have h1 := skI_in h
  unfold innB at hb
  rw [Bool.and_eq_true, Bool.not_eq_true', eqI_f] at hb
  obtain ⟨hk, he⟩ := hb
  have h2 := kind_step h1 hk (by decide)
  obtain ⟨κ, hκ⟩ := Int.eq_ofNat_of_zero_le h1.1.1
  have hlt : κ < T.length := by have := h2.1.2; omega
  have hm := mt_int T κ
  have hg : 0 ≤ innE T a ∧ (κ : Int) ≤ innE T a ∧ innE T a ≤ T.length := by
    unfold innE mtI
    rw [hκ]
    have := hm.2 hlt
    omega
  refine ⟨?_, by omega⟩
  rw [eqI_t, hκ, kindI_at T κ hlt, tokAt_eq hlt] at hk
  have hs := mt_some (l := T) hlt (by rw [hk]; decide)
  have hle := runs_le (kindsT T) _ (κ + 1) [clo T[κ].kind] (Nat.le_refl _)
  rw [kindsT_len] at hle
  have h3 := hle.2 (by omega)
  unfold innE mtI
  rw [hκ]
  show (κ : Int) + 1 ≤ mtc (kindsT T) (κ : Int)
  rw [hs]
  omega
theorem innA_in {T : List TokV} {a : Int} (h : InT T a) : InT T (innA T a) := by
  unfold innA
  split
  · rename_i hb
    have := inn_in h hb
    have h1 := skI_in h
    exact ⟨⟨by have := h1.1; omega, by omega⟩, h.2⟩
  · exact skI_in h
theorem innL_len {T : List TokV} {a : Int} (h : InT T a) (hb : innB T a = true) : ((innL T a).length : Int) = innE T a - (skI T a + 1) := by
  have h0 := inn_in h hb
  have h1 := skI_in h
  unfold innL
  rw [if_pos hb, List.length_take, List.length_drop]
  have := h1.1
  omega
theorem take_len {α : Type} (l : List α) (n : Nat) : l.take n = l.take (l.take n).length := by
  rw [List.length_take]
  rcases Nat.le_total n l.length with h | h
  · rw [Nat.min_eq_left h]
  · rw [Nat.min_eq_right h, List.take_of_length_le h, List.take_length]
theorem Sy.inn_t (T : List TokV) (a : Int) (h : InT T a) : CallTo Try.prog 74 [.ptr 0 0] (rdM T a) fun v M' => Frz true 1 M' v (.tup [kv (innL T a), boo (innB T a)]) ∧ M'.get 0 = some (rdB T (innA T a)) :=
  to (G := fun r => Frz true 1 r.2 r.1 (.tup [kv (innL T a), boo (innB T a)]) ∧ r.2.get 0 = some (rdB T (innA T a))) [cSpc T, cKind T, cMatch T] [] 400 30 (.yes (.yes (.yes (.br (.auto 6 (.br .done (.yes .done))) (.auto 7 .done))))) (let e1 := (@Value.tuple (@Array.mk _ [])); let e2 := (@AV.view (T).length 3 (fun y0 => (fun y1 => (@AV.lit ([(@Value.int IntKind.i64 ((T.getD y0 tok0)).kind), (@Value.string ((T.getD y0 tok0)).text), (@Value.int IntKind.i64 ((T.getD y0 tok0)).n)].getD y1 e1))))); let e3 := (some (@Blk.mk [e2, (int a)] 55 none)); let e4 := (some (@Blk.mk [e2, (int (@skI T a))] 55 none)); let e5 := (@mtI T (@skI T a)); let e6 := (w64 ((@skI T a) + (1 : Int))); (.need (@isSo (@And (e3 = e3) (@And (([] : List AV) = []) (@InT T a)))) (.need (@isSo (@And ((@HAppend.hAppend _ _ _ _ (@HAppend.hAppend _ _ _ _ [] [e2, (int (@skI T a))]) []) = [e2, (int (@skI T a))]) (@lim T))) (.need (@isSo (@And (e4 = e4) (@And (([] : List AV) = []) (@InT T (@skI T a))))) (.fork (!(!(eqI (@kindI T (@skI T a)) (13 : Int)))) (.fork (eqI e5 (((T).length : Nat) : Int)) (.leaf ((@AV.tup [(@AV.lit (@Value.slice none 0 0)), (boo false)]), (@Mem.mk 1 ((0 + 1) + 1) [e4]))) (.need ((leI (0 : Int) e6) && ((leI e6 e5) && (leI e5 (((T).length : Nat) : Int)))) (.leaf ((@AV.tup [(@AV.view ((e5).toNat - (e6).toNat) 3 (fun y0 => (fun y1 => (@AV.lit ([(@Value.int IntKind.i64 ((T.getD ((e6).toNat + y0) tok0)).kind), (@Value.string ((T.getD ((e6).toNat + y0) tok0)).text), (@Value.int IntKind.i64 ((T.getD ((e6).toNat + y0) tok0)).n)].getD y1 e1))))), (boo true)]), (@Mem.mk 1 (((0 + 1) + 1) + 1) [(some (@Blk.mk (e2 :: [(int (w64 (e5 + (1 : Int))))]) 55 none))]))))) (.leaf ((@AV.tup [(@AV.lit (@Value.slice none 0 0)), (boo false)]), (@Mem.mk 1 ((0 + 1) + 1) [e4])))))))) (by kernel_rfl) (by
    have h1 := skI_in h
    have hl : T.length ≤ 17592186044416 := h.2
    refine need_so ⟨rfl, rfl, h⟩ (need_so ⟨rfl, h.2⟩ (need_so ⟨rfl, rfl, h1⟩ (fork_ok (fun c1 => fork_ok (fun c2 => ?_) (fun c2 => ?_)) (fun c1 => ?_))))
    · have hb : innB T a = false := by unfold innB innE; rw [c2]; simp
      simp only [innL, innA, hb, Bool.false_eq_true, if_false]
      exact ⟨Frz.tup ⟨Frz.nil _ _ _ _ _, Frz.lit _ _ _ _, trivial⟩, rfl⟩
    · have hb : innB T a = true := by unfold innB innE; rw [c2, n_f (n_t c1)]; rfl
      have hn := inn_in h hb
      have hL := innL_len h hb
      have e1 : w64 (skI T a + 1) = skI T a + 1 := w64_in (by have := h1.1; omega)
      have e2 : w64 (mtI T (skI T a) + 1) = innE T a + 1 := w64_in (by have := h1.1; unfold innE at hn; omega)
      rw [e1, e2]
      have hn' : skI T a + 1 ≤ mtI T (skI T a) ∧ mtI T (skI T a) < T.length := hn
      refine need_t (by simp only [Bool.and_eq_true, leI_t]; have := h1.1; omega) ?_
      have eA : innA T a = innE T a + 1 := by unfold innA; rw [if_pos hb]
      rw [eA, hb]
      refine ⟨Frz.tup ⟨Frz.sub (Frz.free _ _ (fun i j => trivial)) (sub_part T (skI T a + 1).toNat (innL T a).length _ (by have := h1.1; omega) ?_ (innL T a) ?_), Frz.lit _ _ _ _, trivial⟩, rfl⟩
      · have : (mtI T (skI T a) - (skI T a + 1)).toNat = (innL T a).length := by unfold innE at hL; omega
        first | exact this | (have := h1.1; omega)
      · unfold innL
        rw [if_pos hb]
        exact take_len _ _
    · have hb : innB T a = false := by unfold innB; rw [n_t (n_f c1)]; rfl
      simp only [innL, innA, hb, Bool.false_eq_true, if_false]
      exact ⟨Frz.tup ⟨Frz.nil _ _ _ _ _, Frz.lit _ _ _ _, trivial⟩, rfl⟩)
end Go.Proofs.Ytlmanlpgknhfpaa
namespace Go.Proofs.Ytlmanlpgknhfpaa
open Go Go.RowKit Pl Sy
namespace Sy
theorem CallTo.post {P : Program} {f : FuncId} {args : List AV} {M : Mem} {G H : AV → Mem → Prop} (h : CallTo P f args M G) (hp : ∀ v M', G v M' → ∃ v2 M2, H v2 M2 ∧ ∀ w0 ρ w u, WR w0 ρ M' w → rel ρ v u → ∃ ρ2, Ext ρ ρ2 ∧ WR w0 ρ2 M2 w ∧ rel ρ2 v2 u) : CallTo P f args M H := fun w0 ρ us w hr hW => by
  refine (h w0 ρ us w hr hW).mono ?_
  rintro e w' ⟨ρ', u, v, M', rfl, hE, hv, hW', hg⟩
  obtain ⟨v2, M2, hH, hc⟩ := hp v M' hg
  obtain ⟨ρ2, e1, e2, e3⟩ := hc w0 ρ' w' u hW' hv
  exact ⟨ρ2, u, v2, M2, rfl, hE.trans e1, e3, e2, hH⟩
def qrow (xs : List QNodeV) (i j : Nat) : AV := .lit ((QNodeV.cells (xs.getD i QNodeV.zero)).getD j undef)
abbrev qB (xs : List QNodeV) : Blk := ⟨[], 45, some ⟨xs.length, 9, qrow xs⟩⟩
def QRows (n : Nat) (c : Nat → Nat → AV) (xs : List QNodeV) : Prop := n = xs.length ∧ ∀ i j, i < n → j < 9 → c i j = qrow xs i j
theorem QRows.base (xs : List QNodeV) : QRows xs.length (qrow xs) xs := ⟨rfl, fun i j _ _ => rfl⟩
theorem QRows.app {n m : Nat} {c c' : Nat → Nat → AV} {xs ys : List QNodeV} (h : QRows n c xs) (h' : QRows m c' ys) : QRows (n + m) (appc n c c') (xs ++ ys) := ⟨by rw [List.length_append, h.1, h'.1], fun i j hi hj => by
  have hn := h.1
  by_cases hlt : i < n
  · rw [appc_lt hlt, h.2 i j hlt hj]
    unfold qrow
    simp only [List.getD_eq_getElem?_getD]
    rw [List.getElem?_append_left (by omega)]
  · rw [appc_ge (by omega), h'.2 (i - n) j (by omega) hj]
    unfold qrow
    simp only [List.getD_eq_getElem?_getD]
    rw [List.getElem?_append_right (by omega), ← hn]⟩
def QEnd (T : List TokV) (a2 : Int) (xs : List QNodeV) (b : Bool) (v : AV) (M' : Mem) : Prop := ∃ x n cell, v = .tup [.own x n 9, boo b] ∧ M'.get 0 = some (rdB T a2) ∧ M'.get x = some ⟨[], 45, some ⟨n, 9, cell⟩⟩ ∧ x ≠ 0 ∧ QRows n cell xs
def QPre (T : List TokV) (a2 : Int) (xs : List QNodeV) (b : Bool) (v : AV) (M' : Mem) : Prop := QEnd T a2 xs b v M' ∨ (v = .tup [.lit (.slice none 0 0), boo b] ∧ M'.get 0 = some (rdB T a2) ∧ xs = []) ∨
  (∃ x n c M1, v = .tup [.sl x 0 n c 9, boo b] ∧ slRows M' (.sl x 0 n c 9) = some (M1, .own x n 9) ∧ QEnd T a2 xs b (.tup [.own x n 9, boo b]) M1)
theorem QPre.end {P : Program} {f : FuncId} {args : List AV} {M : Mem} {T : List TokV} {a2 : Int} {xs : List QNodeV} {b : Bool} (h : CallTo P f args M (QPre T a2 xs b)) : CallTo P f args M (QEnd T a2 xs b) := CallTo.post h fun v M' hv => by
  rcases hv with hv | ⟨rfl, h0, rfl⟩ | ⟨x, n, c, M1, rfl, hs, hv⟩
  · exact ⟨v, M', hv, fun w0 ρ w u hW hr => ⟨ρ, Ext.refl _, hW, hr⟩⟩
  · refine ⟨.tup [.own M'.top 0 9, boo b], M'.push ⟨[], 45, some ⟨0, 9, qrow []⟩⟩, ⟨M'.top, 0, qrow [], rfl, ?_, Mem.get_push_new _ _, ?_, QRows.base []⟩, fun w0 ρ w u hW hr => ?_⟩
    · rw [Mem.get_push_old _ _ (Mem.get_lt h0)]; exact h0
    · have := Mem.get_lt h0; omega
    · obtain ⟨q1, q2, q3⟩ := hW.virt 45 9 (qrow [])
      refine ⟨_, q1, q3, ?_⟩
      simp only [rel, rels] at hr ⊢
      obtain ⟨l, rfl, y, ys, rfl, hy, hys⟩ := hr
      exact ⟨_, rfl, _, _, rfl, .inl ⟨q2, trivial, hy⟩, hys⟩
  · refine ⟨_, M1, hv, fun w0 ρ w u hW hr => ?_⟩
    have hr' : rels ρ [.sl x 0 n c 9, boo b] (match u with | .tuple l => l.toList | _ => []) := by
      simp only [rel] at hr
      obtain ⟨l, rfl, hl⟩ := hr
      simpa using hl
    simp only [rel] at hr
    obtain ⟨l, rfl, hl⟩ := hr
    simp only [rels] at hl
    obtain ⟨y, ys, rfl, hy, hys⟩ := hl
    obtain ⟨q1, q2⟩ := slRows_sound hW hy hs
    refine ⟨ρ, Ext.refl _, q1, ?_⟩
    simp only [rel, rels]
    exact ⟨_, rfl, _, _, rfl, by simpa only [rel] using q2, by simpa only [rel, rels] using hys⟩
noncomputable def oRes (M : Mem) (rb : Nat) (T : List TokV) (a2 : Int) (xs : List QNodeV) : Mem := (M.put rb (some (rdB T a2))).push (qB xs)
noncomputable def conO {Y : Type} (T : List TokV) (f : FuncId) (get : List AV → Option Y) (args0 : Y → List AV) (xs0 : Int → Y → List QNodeV) (b0 : Int → Y → Bool) (at2 : Int → Y → Int) (C : Int → Y → Prop) (h : ∀ a y, C a y → Frees (args0 y) ∧ CallTo Try.prog f (.ptr 0 0 :: args0 y) (rdM T a) (QEnd T (at2 a y) (xs0 a y) (b0 a y))) : Con Try.prog where
  f := f
  run := fun args M => match rdGet args M with
    | some x => match get x.rest with
      | some y => some (.tup [.own M.top (xs0 x.a y).length 9, boo (b0 x.a y)], oRes M x.rb T (at2 x.a y) (xs0 x.a y))
      | none => none
    | none => none
  ob := fun args M => match rdGet args M with
    | some x => match get x.rest with
      | some y => some (isSo (M.get x.rb = some (rdB T x.a) ∧ x.rest = args0 y ∧ C x.a y))
      | none => none
    | none => none
  ok := fun args M v M' hr hob => by
    cases hg : rdGet args M with
    | none => rw [hg] at hr; cases hr
    | some x =>
      rw [hg] at hr hob
      cases hy : get x.rest with
      | none => simp only [hy] at hr; cases hr
      | some y =>
        simp only [hy] at hr hob
        simp at hr
        obtain ⟨rfl, rfl⟩ := hr
        have h1 := hob _ rfl
        rw [isSo_t] at h1
        obtain ⟨hb, hrest, hC⟩ := h1
        have e : args = .ptr x.rb 0 :: x.rest := by
          unfold rdGet at hg
          split at hg
          · split at hg
            · simp at hg; subst hg; rfl
            · cases hg
          · cases hg
        obtain ⟨hf, h2⟩ := h x.a y hC
        have hlt := Mem.get_lt hb
        refine ⟨by unfold oRes; exact (Grow.put _ _ _).trans (Grow.push _ _), ?_⟩
        rw [e, hrest]
        refine CallTo.frameG (σ := nm [x.rb]) h2 ⟨⟨rfl, rfl⟩, RenVs.free _ hf⟩ (.of rfl rfl (by simp) ⟨⟨x.rb, _, rfl, hb, rfl, ⟨RenV.free _ (kv_free T), rfl, trivial⟩, trivial⟩, trivial⟩) (fun z c hz => ?_) ?_
        · rcases z with _ | z
          · exact ⟨_, rfl⟩
          · cases hz
        · rintro v M2 ⟨b2, n2, cell2, rfl, q1, q2, q3, q4⟩
          have hn := q4.1
          refine ⟨fun z => if z = x.rb then some 0 else if z = M.top then some b2 else none, _, _, ⟨rfl, rfl⟩, ⟨⟨?_, hn, rfl⟩, rfl, trivial⟩, Nat.le_succ _, fun z c hz => ?_, fun z c hlt2 hz => ?_, fun z z' c hz hz' => ?_, fun z B' hz => ?_⟩
          · show (if M.top = x.rb then some 0 else if M.top = M.top then some b2 else none) = some b2
            rw [if_neg (by omega), if_pos rfl]
          · show z < M.top + 1
            split at hz
            · omega
            · split at hz
              · omega
              · cases hz
          · split at hz
            · rename_i e2; subst e2
              simp at hz; subst hz
              exact ⟨Nat.le_of_ble_eq_true rfl, rfl⟩
            · split at hz
              · omega
              · cases hz
          · split at hz <;> split at hz'
            · omega
            · split at hz'
              · simp at hz hz'; omega
              · cases hz'
            · split at hz
              · simp at hz hz'; omega
              · cases hz
            · split at hz
              · split at hz'
                · omega
                · cases hz'
              · cases hz
          · unfold oRes at hz
            rcases Mem.get_push hz with ⟨e1, e2⟩ | ⟨e1, e2⟩
            · have e1 : z = M.top := e1
              subst e1 e2
              refine .inr ⟨b2, _, by rw [if_neg (by omega), if_pos rfl], q2, rfl, trivial, hn.symm, rfl, fun i j hi hj => ?_⟩
              show RenV _ (cell2 i j) (qrow (xs0 x.a y) i j)
              rw [q4.2 i j (by have hi : i < (xs0 x.a y).length := hi; omega) hj]
              exact RenV.free _ trivial
            · have e1 : z < M.top := e1
              rcases Mem.get_put hlt e2 with ⟨rfl, e3⟩ | ⟨e3, e4⟩
              · simp at e3; subst e3
                exact .inr ⟨0, _, by rw [if_pos rfl], q1, rfl, ⟨RenV.free _ (kv_free T), rfl, trivial⟩, trivial⟩
              · refine .inl ⟨e1, fun c hc => ?_, e4⟩
                rcases c with _ | c
                · have : some x.rb = some z := hc
                  simp at this; omega
                · cases hc
end Sy
end Go.Proofs.Ytlmanlpgknhfpaa
namespace Go.Proofs.Ytlmanlpgknhfpaa
open Go Go.RowKit Pl Sy
theorem Sy.innG_free (T : List TokV) (b : Bool) : Free (.tup [kv T, boo b]) := ⟨kv_free T, trivial, trivial⟩
noncomputable abbrev Sy.cInn (T : List TokV) : Con Try.prog := conR T 74 (fun r => match r with | [] => some () | _ => none) (fun _ => []) (fun a _ => .tup [kv (innL T a), boo (innB T a)]) (fun a _ => innA T a) (fun a _ => InT T a) fun a _ h => ⟨⟨trivial, innG_free _ _⟩, inn_t T a h⟩
theorem Sy.qview_free (xs : List QNodeV) : Free (qview xs) := viewOf_free _ _ _ _
structure CnK where
  N : List TokV → List QNodeV
  B : List TokV → Bool
  A : List TokV → Int
  C : List TokV → Prop
structure CnK.Ok (K : CnK) : Prop where
  call : ∀ L, K.C L → CallTo Try.prog 26 [.ptr 0 0] (rdM L 0) (QEnd L (K.A L) (K.N L) (K.B L))
  len : ∀ L, K.C L → (K.N L).length ≤ L.length
noncomputable abbrev Sy.cCnd (K : CnK) (hK : K.Ok) (L : List TokV) : Con Try.prog := conO L 26 (fun r => match r with | [] => some () | _ => none) (fun _ => []) (fun _ _ => K.N L) (fun _ _ => K.B L) (fun _ _ => K.A L) (fun a _ => a = 0 ∧ K.C L) fun a _ h => by
  obtain ⟨rfl, h⟩ := h
  exact ⟨trivial, hK.call L h⟩
def trmN (K : CnK) (T : List TokV) (a : Int) : List QNodeV := if innB T a then (if ftB (innL T a) 0 then [ftV (innL T a) 0] else K.N (innL T a)) else []
def trmB (K : CnK) (T : List TokV) (a : Int) : Bool := innB T a && (ftB (innL T a) 0 || K.B (innL T a))
def TrmC (K : CnK) (T : List TokV) (a : Int) : Prop := (InT T a ∧ TxtOk T) ∧ (innB T a = true → ftB (innL T a) 0 = false → K.C (innL T a))
theorem innL_ok {T : List TokV} {a : Int} (h : InT T a) (hs : TxtOk T) : InT (innL T a) 0 ∧ TxtOk (innL T a) := by
  have hle : (innL T a).length ≤ T.length := by
    unfold innL
    split
    · rw [List.length_take, List.length_drop]; omega
    · exact Nat.zero_le _
  refine ⟨⟨⟨Int.le_refl 0, by omega⟩, Nat.le_trans hle h.2⟩, fun t ht => ?_⟩
  unfold innL at ht
  split at ht
  · exact hs t (List.mem_of_mem_drop (List.mem_of_mem_take ht))
  · cases ht
theorem Sy.trm_t (K : CnK) (hK : K.Ok) (T : List TokV) (a : Int) (h : TrmC K T a) : CallTo Try.prog 44 [.ptr 0 0] (rdM T a) (QEnd T (innA T a) (trmN K T a) (trmB K T a)) :=
  QPre.end (to (G := fun r => QPre T (innA T a) (trmN K T a) (trmB K T a) r.1 r.2) [cInn T, cFtr (innL T a), cCnd K hK (innL T a)] [] 400 30 (.yes (.br .done (.yes (.br .done (.yes .done))))) (let e1 := (@Value.tuple (@Array.mk _ [])); let e2 := (@AV.view (T).length 3 (fun y0 => (fun y1 => (@AV.lit ([(@Value.int IntKind.i64 ((T.getD y0 tok0)).kind), (@Value.string ((T.getD y0 tok0)).text), (@Value.int IntKind.i64 ((T.getD y0 tok0)).n)].getD y1 e1))))); let e3 := (some (@Blk.mk [e2, (int a)] 55 none)); let e4 := (([] : List AV) = []); let e5 := (some (@Blk.mk [e2, (int (@innA T a))] 55 none)); let e6 := (@innL T a); let e7 := (@AV.view (e6).length 3 (fun y0 => (fun y1 => (@AV.lit ([(@Value.int IntKind.i64 ((e6.getD y0 tok0)).kind), (@Value.string ((e6.getD y0 tok0)).text), (@Value.int IntKind.i64 ((e6.getD y0 tok0)).n)].getD y1 e1))))); let e8 := (@Value.int IntKind.i64 (0 : Int)); let e9 := (Int.ofNat 0); let e10 := ((some (@Blk.mk (e7 :: (@List.drop _ (0 + ([e7]).length) (@List.map _ _ AV.lit (@Array.toList _ (@Array.mk _ [(@Value.slice none 0 0), e8]))))) 55 none)) = (some (@Blk.mk [e7, (int e9)] 55 none))); let e11 := (((1 + 1) + 1) + 1); let e12 := (int ((@ftV e6 e9)).kind); let e13 := (int ((@ftV e6 e9)).count); let e14 := (int ((@ftV e6 e9)).feat); let e15 := (int ((@ftV e6 e9)).lo); let e16 := (int ((@ftV e6 e9)).ln); let e17 := (int ((@ftV e6 e9)).ld); let e18 := (int ((@ftV e6 e9)).ho); let e19 := (int ((@ftV e6 e9)).hn); let e20 := (int ((@ftV e6 e9)).hd); let e21 := (0 + ([e12, e13, e14, e15, e16, e17, e18, e19, e20]).length); let e22 := (@Array.toList _ (@Array.mk _ [e8, e8, e8, e8, e8, e8, e8, e8, e8])); let e23 := (int (0 : Int)); let e24 := ((some (@Blk.mk (e12 :: e13 :: e14 :: e15 :: e16 :: e17 :: e18 :: e19 :: e20 :: (@List.drop _ e21 [e23, e23, e23, e23, e23, e23, e23, e23, e23])) 45 none)) :: ((some (@Blk.mk [e7, (int (@ftA e6 e9))] 55 none)) :: [e5])); (.need (@isSo (@And (e3 = e3) (@And e4 (@InT T a)))) (.fork (!(@innB T a)) (.leaf ((@AV.tup [(@AV.lit (@Value.slice none 0 0)), (boo false)]), (@Mem.mk 1 (0 + 1) [e5]))) (.need (@isSo (@And e10 (@And e4 (@And ((∀ (t : TokV), t ∈ innL T a → t.text.size ≤ 9223372036854775807)) (@InT e6 e9))))) (.fork (@ftB e6 e9) (.leaf ((@AV.tup [(@AV.sl ((1 + 1) + 1) 0 1 (some 1) 9), (boo true)]), (@Mem.mk e11 (((0 + 1) + 1) + 1) ((some (@Blk.mk (e12 :: e13 :: e14 :: e15 :: e16 :: e17 :: e18 :: e19 :: e20 :: (@List.drop _ e21 (@List.map _ _ AV.lit (@Array.toList _ (@Array.mk _ [(@List.get _ e22 (@Fin.mk _ 0 (@Nat.le_of_ble_eq_true _ _ (@Eq.refl _ true)))), (@List.get _ e22 (@Fin.mk _ 1 (@Nat.le_of_ble_eq_true _ _ (@Eq.refl _ true)))), (@List.get _ e22 (@Fin.mk _ 2 (@Nat.le_of_ble_eq_true _ _ (@Eq.refl _ true)))), (@List.get _ e22 (@Fin.mk _ 3 (@Nat.le_of_ble_eq_true _ _ (@Eq.refl _ true)))), (@List.get _ e22 (@Fin.mk _ 4 (@Nat.le_of_ble_eq_true _ _ (@Eq.refl _ true)))), (@List.get _ e22 (@Fin.mk _ 5 (@Nat.le_of_ble_eq_true _ _ (@Eq.refl _ true)))), (@List.get _ e22 (@Fin.mk _ 6 (@Nat.le_of_ble_eq_true _ _ (@Eq.refl _ true)))), (@List.get _ e22 (@Fin.mk _ 7 (@Nat.le_of_ble_eq_true _ _ (@Eq.refl _ true)))), (@List.get _ e22 (@Fin.mk _ 8 (@Nat.le_of_ble_eq_true _ _ (@Eq.refl _ true))))]))))) 45 none)) :: e24)))) (.need (@isSo (@And e10 (@And e4 (@And (e9 = (0 : Int)) ((K).C e6))))) (.leaf ((@AV.tup [(@AV.own e11 (((K).N e6)).length 9), (boo ((K).B e6))]), (@Mem.mk (e11 + 1) ((((0 + 1) + 1) + 1) + 1) ((some (@Blk.mk [] 45 (some (@Rw.mk (((K).N e6)).length 9 (@qrow ((K).N e6)))))) :: ((some (@Blk.mk [e7, (int ((K).A e6))] 55 none)) :: e24))))))))))) (by kernel_rfl) (by
    obtain ⟨⟨h1, h2⟩, h3⟩ := h
    obtain ⟨h4, h5⟩ := innL_ok h1 h2
    refine need_so ⟨rfl, rfl, h1⟩ (fork_ok (fun c1 => ?_) (fun c1 => need_so ⟨rfl, rfl, h5, h4⟩ (fork_ok (fun c2 => ?_) (fun c2 => need_so ⟨rfl, rfl, rfl, h3 (n_f c1) c2⟩ ?_))))
    · have c1 := n_t c1
      simp only [trmN, trmB, c1, Bool.false_eq_true, if_false, Bool.false_and]
      exact .inr (.inl ⟨rfl, rfl, rfl⟩)
    · have c1 := n_f c1
      have c2 : ftB (innL T a) 0 = true := c2
      simp only [trmN, trmB, c1, c2, if_true, Bool.true_and, Bool.true_or]
      refine .inr (.inr ⟨3, 1, some 1, _, rfl, rfl, 3, 1, _, rfl, rfl, rfl, by decide, rfl, fun i j hi hj => ?_⟩)
      obtain rfl : i = 0 := by omega
      rcases j with _ | _ | _ | _ | _ | _ | _ | _ | _ | j
      · exact rfl
      · exact rfl
      · exact rfl
      · exact rfl
      · exact rfl
      · exact rfl
      · exact rfl
      · exact rfl
      · exact rfl
      · omega
    · have c1 := n_f c1
      have c2 : ftB (innL T a) 0 = false := c2
      simp only [trmN, trmB, c1, c2, if_true, Bool.false_eq_true, if_false, Bool.true_and, Bool.false_or]
      exact .inl ⟨_, _, _, rfl, rfl, rfl, by decide, QRows.base _⟩))
noncomputable abbrev Sy.cTrm (K : CnK) (hK : K.Ok) (T : List TokV) : Con Try.prog := conO T 44 (fun r => match r with | [] => some () | _ => none) (fun _ => []) (fun a _ => trmN K T a) (fun a _ => trmB K T a) (fun a _ => innA T a) (fun a _ => TrmC K T a) fun a _ h => ⟨trivial, trm_t K hK T a h⟩
end Go.Proofs.Ytlmanlpgknhfpaa
namespace Go.Proofs.Ytlmanlpgknhfpaa
open Go Go.RowKit Pl Sy
namespace Sy
abbrev chA (T : List TokV) (a b : Int) (xs : List QNodeV) : Mem := ⟨3, 0, [some (rdB T b), some (qB xs), some (rdB T a)]⟩
abbrev chB (T : List TokV) (a : Int) (xs : List QNodeV) : Mem := ⟨4, 0, [some (qB xs), none, none, some (rdB T a)]⟩
abbrev chG (k : Int) (s : ByteArray) (x n : Nat) (c : Int) : Fr := (some ((@AV.ptr 0 0)) :: some ((int k)) :: some ((@AV.lit (@Value.string s))) :: (nn5 (some ((@AV.lit (@Value.slice none 0 0))) :: some ((boo false)) :: some (.own x n 9) :: some (int c) :: (nn26 []))))
end Sy
structure ChR where
  N : List QNodeV
  c : Int
  a : Int
  ok : Bool
def chnE (K : CnK) (T : List TokV) (s : ByteArray) : Nat → Int → List QNodeV → Int → ChR
  | 0, a, xs, c => ⟨xs, c, a, false⟩
  | n + 1, a, xs, c => if wordB T a s then (if trmB K T (wordA T a s) then chnE K T s n (innA T (wordA T a s)) (xs ++ trmN K T (wordA T a s)) (c + 1) else ⟨xs, c, innA T (wordA T a s), false⟩) else ⟨xs, c, wordA T a s, true⟩
namespace Sy
theorem chG_ren (k : Int) (s : ByteArray) {x n n' : Nat} {c c' : Int} (hn : n = n') (hc : c = c') : RenF (nm [0, 1, 2, x]) (chG k s x n c) (chG k s 3 n' c') := by
  subst hn hc
  simp only [RenF, and_true]
  exact ⟨⟨rfl, rfl⟩, rfl, rfl, rfl, rfl, ⟨rfl, rfl, rfl⟩, rfl⟩
theorem chB_ren {M : Mem} {T : List TokV} {a a' : Int} {xs : List QNodeV} {x n : Nat} {c : Nat → Nat → AV} (hd : [0, 1, 2, x].Nodup) (ha : a = a') (h0 : M.get 0 = some (rdB T a)) (h1 : M.get x = some ⟨[], 45, some ⟨n, 9, c⟩⟩) (r : QRows n c xs) : RenM (nm [0, 1, 2, x]) M (chB T a' xs) := by
  subst ha
  refine .of rfl rfl hd ⟨⟨x, _, rfl, h1, rfl, trivial, r.1.symm, rfl, fun i j hi hj => ?_⟩, ⟨0, _, rfl, h0, rfl, ⟨RenV.free _ (kv_free T), rfl, trivial⟩, trivial⟩, trivial⟩
  show RenV _ (_ : AV) _
  simp only at hi hj ⊢
  rw [r.2 i j (by have := r.1; omega) hj]
  exact RenV.free _ trivial
end Sy
theorem trmN_len (K : CnK) (hK : K.Ok) {T : List TokV} {a : Int} (h : TrmC K T a) (hb : trmB K T a = true) : a + 1 + ((trmN K T a).length : Int) ≤ innA T a := by
  unfold trmB at hb
  rw [Bool.and_eq_true] at hb
  obtain ⟨hb, hb2⟩ := hb
  have h1 := inn_in h.1.1 hb
  have h2 := innL_len h.1.1 hb
  have h3 := skI_in h.1.1
  have h4 := skI_le h.1.1.1.1 h.1.1.1.2
  unfold innA trmN
  rw [if_pos hb, if_pos hb]
  split
  · simp only [List.length_cons, List.length_nil]; omega
  · rename_i hf
    have := hK.len _ (h.2 hb (by simpa using hf))
    omega
def ChEnd (k : Int) (s : ByteArray) (T : List TokV) (r : ChR) (ex : Ex) (F : Fr) (M : Mem) : Prop := (r.ok = true ∧ ex = .exit 0 ∧ F = chG k s 3 r.N.length r.c ∧ M = chB T r.a r.N) ∨ (r.ok = false ∧ ex = .ret ∧ F = chG k s 3 r.N.length r.c ∧ M = chB T r.a r.N)
structure TrmK (K : CnK) (T : List TokV) : Prop where
  lim : T.length ≤ 100000
  txt : TxtOk T
  all : ∀ a, InT T a → innB T a = true → ftB (innL T a) 0 = false → K.C (innL T a)
theorem TrmK.at {K : CnK} {T : List TokV} (h : TrmK K T) {a : Int} (ha : InT T a) : TrmC K T a := ⟨⟨ha, h.txt⟩, h.all a ha⟩
theorem Sy.chn_loop (K : CnK) (hK : K.Ok) (T : List TokV) (hT : TrmK K T) (k : Int) (s : ByteArray) : ∀ (n : Nat) (a : Int) (xs : List QNodeV) (c : Int), InT T a → (xs.length : Int) ≤ a → 0 ≤ c → c ≤ a → T.length - a < n →
    LoopToT 3 Try.prog (theBody Try.prog 46 3) n (chG k s 3 xs.length c) (chB T a xs) (RG 3 (ChEnd k s T (chnE K T s n a xs c))) := by
  intro n
  induction n with
  | zero => intro a xs c h1 h2 h3 h4 h5; have := h1.1.2; omega
  | succ n ih =>
    intro a xs c h1 h2 h3 h4 h5
    have hl := hT.lim
    have h1' := h1.1
    refine roundT plain mixed 3 [cWord T, cTrm K hK T] [] 400 30 46 3 Try.func46 rfl (by kernel_rfl) (true :: true :: true :: (ff5 (true :: true :: true :: true :: (ff26 [])))) (.yes (.br (.yes (.br .done (.yes .done))) .done)) (let e1 := (@AV.view (T).length 3 (fun y0 => (fun y1 => (@AV.lit ([(@Value.int IntKind.i64 ((T.getD y0 tok0)).kind), (@Value.string ((T.getD y0 tok0)).text), (@Value.int IntKind.i64 ((T.getD y0 tok0)).n)].getD y1 (@Value.tuple (@Array.mk _ []))))))); let e2 := (some (@Blk.mk [e1, (int a)] 55 none)); let e3 := (@AV.lit (@Value.string s)); let e4 := (@wordA T a s); let e5 := (some (@Blk.mk [e1, (int e4)] 55 none)); let e6 := (some (@AV.ptr 0 0)); let e7 := (some (@AV.lit (@Value.slice none 0 0))); let e8 := (some (boo false)); let e9 := (some (@AV.own 3 (xs).length 9)); let e10 := (some (@Blk.mk [] 45 (some (@Rw.mk ((@trmN K T e4)).length 9 (@qrow (@trmN K T e4)))))); let e11 := (some (@Blk.mk [] 45 (some (@Rw.mk (xs).length 9 (@qrow xs))))); let e12 := (some (@Blk.mk [e1, (int (@innA T e4))] 55 none)); let e13 := ((xs).length + ((@trmN K T e4)).length); (.need (@isSo (@And (e2 = e2) (@And ([e3] = [e3]) (@InT T a)))) (.fork (@wordB T a s) (.need (@isSo (@And (e5 = e5) (@And (([] : List AV) = []) (@TrmC K T e4)))) (.fork (!(@trmB K T e4)) (.leaf (Ex.ret, ((e6 :: (some (int k)) :: (some e3) :: (nn5 (e7 :: e8 :: e9 :: (some (int c)) :: (nn26 [])))), (@Mem.mk (4 + 1) ((0 + 1) + 1) (e10 :: [e11, none, none, e12]))))) (.need ((@Option.rec _ (fun _ => Bool) true (fun y0 => (@Option.rec _ (fun _ => Bool) true (fun y1 => (@Nat.ble ((@trmN K T e4)).length (y1).n)) (y0).rows)) e10) && ((@Nat.ble (xs).length (xs).length) && ((@Nat.ble (e13 * 72) 140737488355328) && (@Nat.ble e13 17592186044416)))) (.leaf (Ex.norm, ((e6 :: (some (int k)) :: (some e3) :: (nn5 (e7 :: e8 :: (some (@AV.own (4 + 1) e13 9)) :: (some (int (w64 (c + (1 : Int))))) :: (nn26 [])))), (@Mem.mk ((4 + 1) + 1) (((0 + 1) + 1) + 1) ((some (@Blk.mk [] 45 (some (@Rw.mk e13 9 (@appc (xs).length (@qrow xs) (@qrow (@trmN K T e4))))))) :: (e10 :: [none, none, none, e12]))))))))) (.leaf ((@Ex.exit 0), ((e6 :: (some (int k)) :: (some e3) :: (nn5 (e7 :: e8 :: e9 :: (some (int c)) :: (nn26 [])))), (@Mem.mk 4 (0 + 1) [e11, none, none, e5]))))))) (by kernel_rfl) ?_
    have hw : InT T (wordA T a s) := wordA_in h1
    have hC := hT.at hw
    have hsk := skI_le h1'.1 h1'.2
    refine need_so ⟨rfl, rfl, h1⟩ (fork_ok (fun c1 => need_so ⟨rfl, rfl, hC⟩ (fork_ok (fun c2 => ?_) (fun c2 => ?_))) (fun c1 => ?_))
    · have c2 := n_t c2
      have e : chnE K T s (n + 1) a xs c = ⟨xs, c, innA T (wordA T a s), false⟩ := by
        show (if wordB T a s = true then _ else _) = _
        rw [if_pos c1, if_neg (by rw [c2]; simp)]
      rw [e]
      exact ⟨_, _, [0, 1, 2, 3], rfl, chG_ren k s rfl rfl, chB_ren (by decide) rfl rfl rfl (QRows.base _), .inr ⟨rfl, rfl, rfl, rfl⟩⟩
    · have c2 := n_f c2
      have e : chnE K T s (n + 1) a xs c = chnE K T s n (innA T (wordA T a s)) (xs ++ trmN K T (wordA T a s)) (c + 1) := by
        show (if wordB T a s = true then _ else _) = _
        rw [if_pos c1, if_pos c2]
      rw [e]
      have hwa : wordA T a s = skI T a + 1 := by unfold wordA; rw [if_pos c1]
      have hlen := trmN_len K hK hC c2
      have hi := innA_in hw
      have hi' := hi.1
      refine need_t ?_ ?_
      · show (Nat.ble (trmN K T (wordA T a s)).length (trmN K T (wordA T a s)).length && _) = true
        simp only [Bool.and_eq_true, Nat.ble_eq]
        omega
      · refine LoopToT.ren [0, 1, 2, 5] rfl (chG_ren k s (by simp) (w64_in (by omega))) (chB_ren (by decide) rfl rfl rfl (QRows.app (QRows.base _) (QRows.base _))) (ih _ _ _ hi (by rw [List.length_append]; omega) (by omega) (by omega) (by omega))
    · have e : chnE K T s (n + 1) a xs c = ⟨xs, c, wordA T a s, true⟩ := by
        show (if wordB T a s = true then _ else _) = _
        rw [if_neg (by rw [c1]; simp)]
      rw [e]
      exact ⟨_, _, [0, 1, 2, 3], rfl, chG_ren k s rfl rfl, chB_ren (by decide) rfl rfl rfl (QRows.base _), .inl ⟨rfl, rfl, rfl, rfl⟩⟩
def chnR (K : CnK) (T : List TokV) (s : ByteArray) (a : Int) (xs : List QNodeV) : ChR := chnE K T s (T.length + 1) (innA T (wordA T a s)) (xs ++ trmN K T (wordA T a s)) 2
theorem Sy.chn_first (K : CnK) (hK : K.Ok) (T : List TokV) (hT : TrmK K T) (k : Int) (s : ByteArray) (a b : Int) (xs : List QNodeV) (h1 : InT T a) (h2 : (xs.length : Int) ≤ a) (h3 : 1 ≤ a) (hw1 : wordB T a s = true) :
    LoopToT 3 Try.prog (theBody Try.prog 46 3) (T.length + 2) (chG k s 1 xs.length 1) (chA T a b xs) (RG 3 fun ex F M => (trmB K T (wordA T a s) = true ∧ ChEnd k s T (chnR K T s a xs) ex F M) ∨ (trmB K T (wordA T a s) = false ∧ ex = .ret ∧ F = chG k s 1 xs.length 1 ∧ M = ⟨3, 0, [none, some (qB xs), some (rdB T (innA T (wordA T a s)))]⟩)) := by
  have hl := hT.lim
  have h1' := h1.1
  refine roundT plain mixed 3 [cWord T, cTrm K hK T] [] 400 30 46 3 Try.func46 rfl (by kernel_rfl) (true :: true :: true :: (ff5 (true :: true :: true :: true :: (ff26 [])))) (.yes (.br (.yes (.br .done (.yes .done))) .done)) (let c : Int := 1; (let e1 := (@AV.view (T).length 3 (fun y0 => (fun y1 => (@AV.lit ([(@Value.int IntKind.i64 ((T.getD y0 tok0)).kind), (@Value.string ((T.getD y0 tok0)).text), (@Value.int IntKind.i64 ((T.getD y0 tok0)).n)].getD y1 (@Value.tuple (@Array.mk _ []))))))); let e2 := (some (@Blk.mk [e1, (int a)] 55 none)); let e3 := (@AV.lit (@Value.string s)); let e4 := (@wordA T a s); let e5 := (some (@Blk.mk [e1, (int e4)] 55 none)); let e6 := (some (@AV.ptr 0 0)); let e7 := (some (@AV.lit (@Value.slice none 0 0))); let e8 := (some (boo false)); let e9 := (some (@AV.own 1 (xs).length 9)); let e10 := (some (@Blk.mk [] 45 (some (@Rw.mk ((@trmN K T e4)).length 9 (@qrow (@trmN K T e4)))))); let e11 := (some (@Blk.mk [e1, (int b)] 55 none)); let e12 := (some (@Blk.mk [] 45 (some (@Rw.mk (xs).length 9 (@qrow xs))))); let e13 := (some (@Blk.mk [e1, (int (@innA T e4))] 55 none)); let e14 := ((xs).length + ((@trmN K T e4)).length); (.need (@isSo (@And (e2 = e2) (@And ([e3] = [e3]) (@InT T a)))) (.fork (@wordB T a s) (.need (@isSo (@And (e5 = e5) (@And (([] : List AV) = []) (@TrmC K T e4)))) (.fork (!(@trmB K T e4)) (.leaf (Ex.ret, ((e6 :: (some (int k)) :: (some e3) :: (nn5 (e7 :: e8 :: e9 :: (some (int c)) :: (nn26 [])))), (@Mem.mk (3 + 1) ((0 + 1) + 1) (e10 :: [e11, e12, e13]))))) (.need ((@Option.rec _ (fun _ => Bool) true (fun y0 => (@Option.rec _ (fun _ => Bool) true (fun y1 => (@Nat.ble ((@trmN K T e4)).length (y1).n)) (y0).rows)) e10) && ((@Nat.ble (xs).length (xs).length) && ((@Nat.ble (e14 * 72) 140737488355328) && (@Nat.ble e14 17592186044416)))) (.leaf (Ex.norm, ((e6 :: (some (int k)) :: (some e3) :: (nn5 (e7 :: e8 :: (some (@AV.own (3 + 1) e14 9)) :: (some (int (w64 (c + (1 : Int))))) :: (nn26 [])))), (@Mem.mk ((3 + 1) + 1) (((0 + 1) + 1) + 1) ((some (@Blk.mk [] 45 (some (@Rw.mk e14 9 (@appc (xs).length (@qrow xs) (@qrow (@trmN K T e4))))))) :: (e10 :: [e11, none, e13]))))))))) (.leaf ((@Ex.exit 0), ((e6 :: (some (int k)) :: (some e3) :: (nn5 (e7 :: e8 :: e9 :: (some (int c)) :: (nn26 [])))), (@Mem.mk 3 (0 + 1) [e11, e12, e5])))))))) (by kernel_rfl) ?_
  have hw : InT T (wordA T a s) := wordA_in h1
  have hC := hT.at hw
  have hsk := skI_le h1'.1 h1'.2
  refine need_so ⟨rfl, rfl, h1⟩ (fork_t hw1 (need_so ⟨rfl, rfl, hC⟩ (fork_ok (fun c2 => ?_) (fun c2 => ?_))))
  · have c2 := n_t c2
    refine ⟨_, _, [0, 1, 2], rfl, ?_, ?_, .inr ⟨c2, rfl, rfl, rfl⟩⟩
    · simp only [RenF, and_true]
      exact ⟨⟨rfl, rfl⟩, rfl, rfl, rfl, rfl, ⟨rfl, rfl, rfl⟩, rfl⟩
    · refine .of rfl rfl (by decide) ⟨⟨1, _, rfl, rfl, rfl, trivial, rfl, rfl, fun i j hi hj => RenV.free _ trivial⟩, ⟨0, _, rfl, rfl, rfl, ⟨RenV.free _ (kv_free T), rfl, trivial⟩, trivial⟩, trivial⟩
  · have c2 := n_f c2
    have hwa : wordA T a s = skI T a + 1 := by unfold wordA; rw [if_pos hw1]
    have hlen := trmN_len K hK hC c2
    have hi := innA_in hw
    have hi' := hi.1
    have hg := chn_loop K hK T hT k s (T.length + 1) (innA T (wordA T a s)) (xs ++ trmN K T (wordA T a s)) 2 hi (by rw [List.length_append]; omega) (by omega) (by omega) (by omega)
    refine need_t ?_ ?_
    · show (Nat.ble (trmN K T (wordA T a s)).length (trmN K T (wordA T a s)).length && _) = true
      simp only [Bool.and_eq_true, Nat.ble_eq]
      omega
    · refine LoopToT.ren [0, 1, 2, 4] rfl (chG_ren k s (by simp) rfl) (chB_ren (by decide) rfl rfl rfl (QRows.app (QRows.base _) (QRows.base _))) (hg.mono fun ex F M hg => ?_)
      obtain ⟨F2, M2, l, q1, q2, q3, q4⟩ := hg
      exact ⟨F2, M2, l, q1, q2, q3, .inl ⟨c2, q4⟩⟩
namespace Sy
structure ChX where
  k : Int
  s : ByteArray
  b : Int
  z : Nat
noncomputable def chGet (F : Fr) (M : Mem) : Option ChX := match nth F 1 with
  | some (some (.lit (.int .i64 k))) => (match nth F 2 with
    | some (some (.lit (.string s))) => (match M.get 2 with
      | some ⟨[_, .lit (.int .i64 b)], _, none⟩ => some ⟨k, s, b, M.stamp⟩
      | _ => none)
    | _ => none)
  | _ => none
noncomputable abbrev lpChn (K : CnK) (hK : K.Ok) (T : List TokV) (a : Int) (xs : List QNodeV) : Lp Try.prog where
  f := 46
  key := 3
  S := formS chGet (fun x => chG x.k x.s 1 xs.length 1) (fun x => ⟨3, x.z, [some (rdB T x.b), some (qB xs), some (rdB T a)]⟩) (fun x => (TrmK K T ∧ InT T a) ∧ ((xs.length : Int) ≤ a ∧ 1 ≤ a) ∧ wordB T a x.s = true)
    (fun x => .fork (trmB K T (wordA T a x.s)) (.fork (chnR K T x.s a xs).ok (.leaf (.exit 0, chG x.k x.s 3 (chnR K T x.s a xs).N.length (chnR K T x.s a xs).c, chB T (chnR K T x.s a xs).a (chnR K T x.s a xs).N)) (.leaf (.ret, chG x.k x.s 3 (chnR K T x.s a xs).N.length (chnR K T x.s a xs).c, chB T (chnR K T x.s a xs).a (chnR K T x.s a xs).N))) (.leaf (.ret, chG x.k x.s 1 xs.length 1, ⟨3, 0, [none, some (qB xs), some (rdB T (innA T (wordA T a x.s)))]⟩))) (true :: true :: true :: (ff5 (true :: true :: true :: true :: (ff26 []))))
  one := by kernel_rfl
  ok := formS_ok fun x ⟨⟨h1, h2⟩, ⟨h3, h4⟩, h5⟩ => by
    refine ⟨T.length + 2, ?_⟩
    have key := LoopToT.to (T := 3) (LoopToT.out (chn_first K hK T h1 x.k x.s a x.b xs h2 h3 h4 h5)) (Nat.le_refl 3)
    refine (LoopTo.stampB 0 key).mono fun ex F M hg => ?_
    rcases hg with ⟨q1, ⟨q2, rfl, rfl, rfl⟩ | ⟨q2, rfl, rfl, rfl⟩⟩ | ⟨q1, rfl, rfl, rfl⟩
    · exact .inl ⟨q1, .inl ⟨q2, rfl⟩⟩
    · exact .inl ⟨q1, .inr ⟨q2, rfl⟩⟩
    · exact .inr ⟨q1, rfl⟩
end Sy
end Go.Proofs.Ytlmanlpgknhfpaa
namespace Go.Proofs.Ytlmanlpgknhfpaa
open Go Go.RowKit Pl Sy
def cn0 (T : List TokV) (a : Int) : Int := wordA T a ⟨⟨[110, 111, 116]⟩⟩
def cn1 (T : List TokV) (a : Int) : Int := skI T (innA T (cn0 T a))
def cnAnd (K : CnK) (T : List TokV) (a : Int) : ChR := chnR K T ⟨⟨[97, 110, 100]⟩⟩ (cn1 T a) (trmN K T (cn0 T a))
def cnOr (K : CnK) (T : List TokV) (a : Int) : ChR := chnR K T ⟨⟨[111, 114]⟩⟩ (cn1 T a) (trmN K T (cn0 T a))
def andB (T : List TokV) (a : Int) : Bool := wordB T (cn1 T a) ⟨⟨[97, 110, 100]⟩⟩
def orB (T : List TokV) (a : Int) : Bool := wordB T (wordA T (cn1 T a) ⟨⟨[97, 110, 100]⟩⟩) ⟨⟨[111, 114]⟩⟩
def andT (K : CnK) (T : List TokV) (a : Int) : Bool := trmB K T (wordA T (cn1 T a) ⟨⟨[97, 110, 100]⟩⟩)
def orT (K : CnK) (T : List TokV) (a : Int) : Bool := trmB K T (wordA T (cn1 T a) ⟨⟨[111, 114]⟩⟩)
def qNode (k c : Int) : QNodeV := ⟨k, c, 0, 0, 0, 0, 0, 0, 0⟩
def cnG {α : Type} (K : CnK) (T : List TokV) (a : Int) (not_ bad one and_ af1 af0 or_ of1 of0 fall : α) : α :=
  if wordB T a ⟨⟨[110, 111, 116]⟩⟩ then not_ else if trmB K T (cn0 T a) then (if doneB T (innA T (cn0 T a)) then one else if andB T a then (if andT K T a then (if (cnAnd K T a).ok then and_ else af1) else af0) else if orB T a then (if orT K T a then (if (cnOr K T a).ok then or_ else of1) else of0) else fall) else bad
def cndN (K : CnK) (T : List TokV) (a : Int) : List QNodeV := cnG K T a (qNode 3 1 :: trmN K T (cn0 T a)) (trmN K T (cn0 T a)) (trmN K T (cn0 T a)) (qNode 1 (cnAnd K T a).c :: (cnAnd K T a).N) [] [] (qNode 2 (cnOr K T a).c :: (cnOr K T a).N) [] [] []
def cndB (K : CnK) (T : List TokV) (a : Int) : Bool := cnG K T a (trmB K T (cn0 T a) && doneB T (innA T (cn0 T a))) false true (doneB T (cnAnd K T a).a) false false (doneB T (cnOr K T a).a) false false false
def cndA (K : CnK) (T : List TokV) (a : Int) : Int := cnG K T a (if trmB K T (cn0 T a) then cn1 T a else innA T (cn0 T a)) (innA T (cn0 T a)) (cn1 T a) (skI T (cnAnd K T a).a) (cnAnd K T a).a (innA T (wordA T (cn1 T a) ⟨⟨[97, 110, 100]⟩⟩)) (skI T (cnOr K T a).a) (cnOr K T a).a (innA T (wordA T (cn1 T a) ⟨⟨[111, 114]⟩⟩)) (cn1 T a)
theorem chnE_in (K : CnK) (hK : K.Ok) {T : List TokV} (hT : TrmK K T) (s : ByteArray) : ∀ (n : Nat) (a : Int) (xs : List QNodeV) (c : Int), InT T a → (xs.length : Int) ≤ a → InT T (chnE K T s n a xs c).a ∧ ((chnE K T s n a xs c).N.length : Int) ≤ (chnE K T s n a xs c).a := by
  intro n
  induction n with
  | zero => intro a xs c h1 h2; exact ⟨h1, h2⟩
  | succ n ih =>
    intro a xs c h1 h2
    have hw : InT T (wordA T a s) := wordA_in h1
    have hsk := skI_le h1.1.1 h1.1.2
    unfold chnE
    split
    · rename_i c1
      have hwa : wordA T a s = skI T a + 1 := by unfold wordA; rw [if_pos c1]
      split
      · rename_i c2
        have hlen := trmN_len K hK (hT.at hw) c2
        exact ih _ _ _ (innA_in hw) (by rw [List.length_append]; omega)
      · refine ⟨innA_in hw, ?_⟩
        have h3 : wordA T a s ≤ innA T (wordA T a s) := by
          have h4 := skI_le hw.1.1 hw.1.2
          unfold innA
          split
          · rename_i hb
            have := inn_in hw hb
            omega
          · omega
        show (xs.length : Int) ≤ innA T (wordA T a s)
        omega
    · refine ⟨hw, ?_⟩
      show (xs.length : Int) ≤ wordA T a s
      unfold wordA
      split <;> omega
theorem chnR_in (K : CnK) (hK : K.Ok) {T : List TokV} (hT : TrmK K T) (s : ByteArray) {a : Int} {xs : List QNodeV} (h1 : InT T a) (h2 : (xs.length : Int) ≤ a) (hw1 : wordB T a s = true) (hb : trmB K T (wordA T a s) = true) : InT T (chnR K T s a xs).a ∧ ((chnR K T s a xs).N.length : Int) ≤ (chnR K T s a xs).a := by
  have hw : InT T (wordA T a s) := wordA_in h1
  have hsk := skI_le h1.1.1 h1.1.2
  have hwa : wordA T a s = skI T a + 1 := by unfold wordA; rw [if_pos hw1]
  have hlen := trmN_len K hK (hT.at hw) hb
  exact chnE_in K hK hT s _ _ _ _ (innA_in hw) (by rw [List.length_append]; omega)
theorem Sy.QRows.one (k c : Int) {f : Nat → Nat → AV} (h : ∀ j, j < 9 → f 0 j = qrow [qNode k c] 0 j) : QRows 1 f [qNode k c] := ⟨rfl, fun i j hi hj => by
  obtain rfl : i = 0 := by omega
  exact h j hj⟩
theorem skI_idem {T : List TokV} {a : Int} (h : InT T a) : skI T (skI T a) = skI T a := by
  have h1 := skI_in h
  obtain ⟨κ, hκ⟩ := Int.eq_ofNat_of_zero_le h1.1.1
  have hst : ∀ k, skp T (skp T k) = skp T k := fun k => by
    have key : ∀ n k, T.length - k ≤ n → skp T (skp T k) = skp T k := by
      intro n
      induction n with
      | zero => intro k hk; rw [skp_step T k, if_neg (by omega), skp_step T k, if_neg (by omega)]
      | succ n ih =>
        intro k hk
        rw [skp_step T k]
        split
        · rename_i hc
          exact ih (k + 1) (by omega)
        · rename_i hc
          rw [skp_step T k, if_neg hc]
    exact key _ k (Nat.le_refl _)
  unfold skI
  rw [Int.toNat_natCast, hst]
theorem wordB_skip {T : List TokV} {a : Int} (h : InT T a) (s : ByteArray) : wordB T (skI T a) s = wordB T a s := by
  unfold wordB
  rw [skI_idem h]
theorem orB_here {T : List TokV} {a : Int} (h1 : InT T (cn1 T a)) (c4 : wordB T (cn1 T a) ⟨⟨[97, 110, 100]⟩⟩ = false) (c7 : wordB T (wordA T (cn1 T a) ⟨⟨[97, 110, 100]⟩⟩) ⟨⟨[111, 114]⟩⟩ = true) : wordB T (cn1 T a) ⟨⟨[111, 114]⟩⟩ = true := by
  have e : wordA T (cn1 T a) ⟨⟨[97, 110, 100]⟩⟩ = skI T (cn1 T a) := by unfold wordA; rw [if_neg (by rw [c4]; simp)]
  rw [e, wordB_skip h1] at c7
  exact c7
theorem trmN_bd (K : CnK) (hK : K.Ok) {T : List TokV} {a : Int} (h : TrmC K T a) : (trmN K T a).length ≤ T.length + 1 := by
  unfold trmN
  split
  · rename_i hb
    split
    · simp
    · rename_i hf
      have h1 := hK.len _ (h.2 hb (by simpa using hf))
      have h2 := innL_len h.1.1 hb
      have h3 := inn_in h.1.1 hb
      have h4 := (skI_in h.1.1).1
      omega
  · simp
theorem Sy.cnd_t (K : CnK) (hK : K.Ok) (T : List TokV) (hT : TrmK K T) (a : Int) (h : InT T a) : CallTo Try.prog 26 [.ptr 0 0] (rdM T a) (QEnd T (cndA K T a) (cndN K T a) (cndB K T a)) :=
  QPre.end (to (G := fun r => QPre T (cndA K T a) (cndN K T a) (cndB K T a) r.1 r.2) [cWord T, cTrm K hK T, cDone T] [lpChn K hK T (cn1 T a) (trmN K T (cn0 T a))] 400 30 (.yes (.br (.yes (.yes (.br (.auto 0 (.yes (.auto 0 .done))) (.auto 1 .done)))) (.yes (.br (.auto 0 (.yes (.auto 0 (.br .done (.yes (.br (.br (.br (.yes (.yes .done)) .done) .done) (.yes (.br (.br (.br (.yes (.yes .done)) .done) .done) .done)))))))) (.auto 2 .done))))) (let e1 := (@AV.view (T).length 3 (fun y0 => (fun y1 => (@AV.lit ([(@Value.int IntKind.i64 ((T.getD y0 tok0)).kind), (@Value.string ((T.getD y0 tok0)).text), (@Value.int IntKind.i64 ((T.getD y0 tok0)).n)].getD y1 (@Value.tuple (@Array.mk _ []))))))); let e2 := (some (@Blk.mk [e1, (int a)] 55 none)); let e3 := (@ByteArray.mk (@Array.mk _ [(110 : UInt8), (111 : UInt8), (116 : UInt8)])); let e4 := (@wordA T a e3); let e5 := (some (@Blk.mk [e1, (int e4)] 55 none)); let e6 := (([] : List AV) = []); let e7 := (@isSo (@And (e5 = e5) (@And e6 (@TrmC K T e4)))); let e8 := (some (@Blk.mk [] 45 (some (@Rw.mk ((@trmN K T e4)).length 9 (@qrow (@trmN K T e4)))))); let e9 := (1 + ((@trmN K T e4)).length); let e10 := (some (@Blk.mk [e1, (int (@innA T e4))] 55 none)); let e11 := (@isSo (@And (e10 = e10) (@And e6 (@InT T (@innA T e4))))); let e12 := ((1 + 1) + 1); let e13 := (((0 + 1) + 1) + 1); let e14 := ((e13 + 1) + 1); let e15 := (int (0 : Int)); let e16 := (@Value.int IntKind.i64 (0 : Int)); let e17 := (@Array.toList _ (@Array.mk _ [e16, e16, e16, e16, e16, e16, e16, e16, e16])); let e18 := (@List.map _ _ AV.lit e17); let e19 := (@List.map _ _ AV.lit (@Array.toList _ (@Array.mk _ [(@List.get _ e17 (@Fin.mk _ 0 (@Nat.le_of_ble_eq_true _ _ (@Eq.refl _ true)))), (@List.get _ e17 (@Fin.mk _ 1 (@Nat.le_of_ble_eq_true _ _ (@Eq.refl _ true)))), (@List.get _ e17 (@Fin.mk _ 2 (@Nat.le_of_ble_eq_true _ _ (@Eq.refl _ true)))), (@List.get _ e17 (@Fin.mk _ 3 (@Nat.le_of_ble_eq_true _ _ (@Eq.refl _ true)))), (@List.get _ e17 (@Fin.mk _ 4 (@Nat.le_of_ble_eq_true _ _ (@Eq.refl _ true)))), (@List.get _ e17 (@Fin.mk _ 5 (@Nat.le_of_ble_eq_true _ _ (@Eq.refl _ true)))), (@List.get _ e17 (@Fin.mk _ 6 (@Nat.le_of_ble_eq_true _ _ (@Eq.refl _ true)))), (@List.get _ e17 (@Fin.mk _ 7 (@Nat.le_of_ble_eq_true _ _ (@Eq.refl _ true)))), (@List.get _ e17 (@Fin.mk _ 8 (@Nat.le_of_ble_eq_true _ _ (@Eq.refl _ true))))]))); let e20 := (some (@Blk.mk [] 45 (some (@Rw.mk e9 9 (@appc 1 (fun y0 => (fun y1 => (@getA ((int (3 : Int)) :: (int (1 : Int)) :: e15 :: e15 :: e15 :: e15 :: e15 :: e15 :: e15 :: (@List.drop _ (0 + (((int (3 : Int)) :: (int (1 : Int)) :: (@List.drop _ 2 ((int (3 : Int)) :: (@List.drop _ 1 e18))))).length) e19)) ((y0 * 9) + y1)))) (@qrow (@trmN K T e4))))))); let e21 := (@skI T (@innA T e4)); let e22 := (some (@Blk.mk [e1, (int e21)] 55 none)); let e23 := (@AV.own 1 ((@trmN K T e4)).length 9); let e24 := (@AV.tup [e23, (boo (@trmB K T e4))]); let e25 := (@AV.lit (@Value.slice none 0 0)); let e26 := (@ByteArray.mk (@Array.mk _ [(97 : UInt8), (110 : UInt8), (100 : UInt8)])); let e27 := (@AV.lit (@Value.string e26)); let e28 := (some (@AV.ptr 0 0)); let e29 := (some (int (1 : Int))); let e30 := (some (boo false)); let e31 := (int (Int.ofNat 1)); let e32 := (@trmN K T (@cn0 T a)); let e33 := (some (@AV.own 1 (e32).length 9)); let e34 := (@wordA T e21 e26); let e35 := (some (@Blk.mk [e1, (int e34)] 55 none)); let e36 := (some (@Blk.mk [] 45 (some (@Rw.mk (e32).length 9 (@qrow e32))))); let e37 := (@cn1 T a); let e38 := (some (@Blk.mk [e1, (int e37)] 55 none)); let e39 := (@And (@TrmK K T) (@InT T e37)); let e40 := (@And ((((e32).length : Nat) : Int) ≤ e37) ((1 : Int) ≤ e37)); let e41 := (((@chnR K T e26 e37 e32)).N); let e42 := (@qrow ((@chnR K T e26 e37 e32)).N); let e43 := (some (@Blk.mk [] 45 (some (@Rw.mk e41.length 9 e42)))); let e44 := (1 + e41.length); let e45 := (some (@Blk.mk [e1, (int ((@chnR K T e26 e37 e32)).a)] 55 none)); let e46 := (int ((@chnR K T e26 e37 e32)).c); let e47 := (@AV.tup [e25, (boo false)]); let e48 := (@ByteArray.mk (@Array.mk _ [(111 : UInt8), (114 : UInt8)])); let e49 := (@AV.lit (@Value.string e48)); let e50 := (int (Int.ofNat 2)); let e51 := (some (@Blk.mk [e1, (int (@wordA T e34 e48))] 55 none)); let e52 := (@Mem.mk e12 (e14 + 1) (e51 :: (e8 :: [e22]))); let e53 := (((@chnR K T e48 e37 e32)).N); let e54 := (@qrow ((@chnR K T e48 e37 e32)).N); let e55 := (some (@Blk.mk [] 45 (some (@Rw.mk e53.length 9 e54)))); let e56 := (1 + e53.length); let e57 := (some (@Blk.mk [e1, (int ((@chnR K T e48 e37 e32)).a)] 55 none)); let e58 := (int ((@chnR K T e48 e37 e32)).c); (.need (@isSo (@And (e2 = e2) (@And ([(@AV.lit (@Value.string e3))] = [(@AV.lit (@Value.string e3))]) (@InT T a)))) (.fork (@wordB T a e3) (.need e7 (.need ((@Option.rec _ (fun _ => Bool) true (fun y0 => (@Option.rec _ (fun _ => Bool) true (fun y1 => (@Nat.ble ((@trmN K T e4)).length (y1).n)) (y0).rows)) e8) && ((@Nat.ble 1 1) && ((@Nat.ble (e9 * 72) 140737488355328) && (@Nat.ble e9 17592186044416)))) (.fork (@trmB K T e4) (.need e11 (.leaf ((@AV.tup [(@AV.own e12 e9 9), (boo (@doneB T (@innA T e4)))]), (@Mem.mk (e12 + 1) e14 (e20 :: (none :: e8 :: [e22])))))) (.leaf ((@AV.tup [(@AV.own e12 e9 9), (boo false)]), (@Mem.mk (e12 + 1) (e13 + 1) (e20 :: (none :: e8 :: [e10])))))))) (.need e7 (.fork (!(!(@trmB K T e4))) (.need e11 (.fork (@doneB T (@innA T e4)) (.leaf (e24, (@Mem.mk (1 + 1) e13 (e8 :: [e22])))) (.need (@isSo (@And ((some (@Blk.mk (e1 :: (int e21) :: (@List.drop _ (0 + ([e1, (int e21)]).length) [e25, e15])) 55 none)) = e22) (@And ([e27] = [e27]) (@InT T e21)))) (.fork (@wordB T e21 e26) (.need (@isSo (@And ((e28 :: e29 :: (some e27) :: none :: (none :: none :: none :: none :: (some e25) :: e30 :: (some e23) :: e29 :: (nn26 []))) = (e28 :: (some e31) :: (some e27) :: (nn5 ((some e25) :: e30 :: e33 :: e29 :: (nn26 []))))) ((@Mem.mk e12 e14 (e35 :: (e8 :: [e22]))) = (@Mem.mk 3 e14 [e35, e36, e38])))) (.need (@isSo (@And e39 (@And e40 ((@wordB T e37 e26) = true)))) (.fork (@trmB K T (@wordA T e37 e26)) (.fork ((@chnR K T e26 e37 e32)).ok (.need ((@Option.rec _ (fun _ => Bool) true (fun y0 => (@Option.rec _ (fun _ => Bool) true (fun y1 => (@Nat.ble e41.length (y1).n)) (y0).rows)) e43) && ((@Nat.ble 1 1) && ((@Nat.ble (e44 * 72) 140737488355328) && (@Nat.ble e44 17592186044416)))) (.need (@isSo (@And (e45 = e45) (@And e6 (@InT T ((@chnR K T e26 e37 e32)).a)))) (.leaf ((@AV.tup [(@AV.own (4 + 1) e44 9), (boo (@doneB T ((@chnR K T e26 e37 e32)).a))]), (@Mem.mk ((4 + 1) + 1) e13 ((some (@Blk.mk [] 45 (some (@Rw.mk e44 9 (@appc 1 (fun y0 => (fun y1 => (@getA (e31 :: (e46 :: (e15 :: e15 :: e15 :: e15 :: e15 :: e15 :: e15 :: (@List.drop _ (0 + ((e31 :: (e46 :: (@List.drop _ (1 + ([e46]).length) (e31 :: (@List.drop _ (0 + ([e31]).length) e18)))))).length) e19)))) ((y0 * 9) + y1)))) e42))))) :: [none, e43, none, none, (some (@Blk.mk [e1, (int (@skI T ((@chnR K T e26 e37 e32)).a))] 55 none))])))))) (.leaf (e47, (@Mem.mk 4 0 [e43, none, none, e45])))) (.leaf (e47, (@Mem.mk 3 0 [none, e36, (some (@Blk.mk [e1, (int (@innA T (@wordA T e37 e26)))] 55 none))])))))) (.need (@isSo (@And (e35 = e35) (@And ([e49] = [e49]) (@InT T e34)))) (.fork (@wordB T e34 e48) (.need (@isSo (@And ((e28 :: (some (int (2 : Int))) :: (some e49) :: none :: (none :: none :: none :: none :: (some e25) :: e30 :: (some e23) :: e29 :: (nn26 []))) = (e28 :: (some e50) :: (some e49) :: (nn5 ((some e25) :: e30 :: e33 :: e29 :: (nn26 []))))) (e52 = (@Mem.mk 3 (e14 + 1) [e51, e36, e38])))) (.need (@isSo (@And e39 (@And e40 ((@wordB T e37 e48) = true)))) (.fork (@trmB K T (@wordA T e37 e48)) (.fork ((@chnR K T e48 e37 e32)).ok (.need ((@Option.rec _ (fun _ => Bool) true (fun y0 => (@Option.rec _ (fun _ => Bool) true (fun y1 => (@Nat.ble e53.length (y1).n)) (y0).rows)) e55) && ((@Nat.ble 1 1) && ((@Nat.ble (e56 * 72) 140737488355328) && (@Nat.ble e56 17592186044416)))) (.need (@isSo (@And (e57 = e57) (@And e6 (@InT T ((@chnR K T e48 e37 e32)).a)))) (.leaf ((@AV.tup [(@AV.own (4 + 1) e56 9), (boo (@doneB T ((@chnR K T e48 e37 e32)).a))]), (@Mem.mk ((4 + 1) + 1) e13 ((some (@Blk.mk [] 45 (some (@Rw.mk e56 9 (@appc 1 (fun y0 => (fun y1 => (@getA (e50 :: (e58 :: (e15 :: e15 :: e15 :: e15 :: e15 :: e15 :: e15 :: (@List.drop _ (0 + ((e50 :: (e58 :: (@List.drop _ (1 + ([e58]).length) (e50 :: (@List.drop _ (0 + ([e50]).length) e18)))))).length) e19)))) ((y0 * 9) + y1)))) e54))))) :: [none, e55, none, none, (some (@Blk.mk [e1, (int (@skI T ((@chnR K T e48 e37 e32)).a))] 55 none))])))))) (.leaf (e47, (@Mem.mk 4 0 [e55, none, none, e57])))) (.leaf (e47, (@Mem.mk 3 0 [none, e36, (some (@Blk.mk [e1, (int (@innA T (@wordA T e37 e48)))] 55 none))])))))) (.leaf (e47, e52)))))))) (.leaf (e24, (@Mem.mk (1 + 1) ((0 + 1) + 1) (e8 :: [e10]))))))))) (by kernel_rfl) (by
    have hl := hT.lim
    have h0 : InT T (cn0 T a) := wordA_in h
    have hI : InT T (innA T (cn0 T a)) := innA_in h0
    have h1 : InT T (cn1 T a) := skI_in hI
    have hs1 := skI_le hI.1.1 hI.1.2
    have hlen : trmB K T (cn0 T a) = true → ((trmN K T (cn0 T a)).length : Int) + 1 ≤ cn1 T a := fun hb => by
      have := trmN_len K hK (hT.at h0) hb
      have := h0.1
      unfold cn1
      omega
    refine need_so ⟨rfl, rfl, h⟩ (fork_ok (fun c1 => need_so ⟨rfl, rfl, hT.at h0⟩ (need_t ?_ (fork_ok (fun c2 => need_so ⟨rfl, rfl, hI⟩ ?_) (fun c2 => ?_)))) (fun c1 => need_so ⟨rfl, rfl, hT.at h0⟩ (fork_ok (fun c2 => need_so ⟨rfl, rfl, hI⟩ (fork_ok (fun c3 => ?_) (fun c3 => ?_))) (fun c2 => ?_))))
    · have := trmN_bd K hK (hT.at h0)
      show (Nat.ble (trmN K T (cn0 T a)).length (trmN K T (cn0 T a)).length && (Nat.ble 1 1 && (Nat.ble ((1 + (trmN K T (cn0 T a)).length) * 72) 140737488355328 && Nat.ble (1 + (trmN K T (cn0 T a)).length) 17592186044416))) = true
      simp only [Bool.and_eq_true, Nat.ble_eq]
      omega
    · have c2 : trmB K T (cn0 T a) = true := c2
      simp only [cndN, cndB, cndA, cnG, *, if_true, Bool.false_eq_true, if_false, Bool.true_and, Bool.false_and]
      exact .inl ⟨3, _, _, rfl, rfl, rfl, by decide, QRows.app (xs := [qNode 3 1]) (QRows.one _ _ fun j hj => by
          rcases j with _ | _ | _ | _ | _ | _ | _ | _ | _ | j
          · exact rfl
          · exact rfl
          · exact rfl
          · exact rfl
          · exact rfl
          · exact rfl
          · exact rfl
          · exact rfl
          · exact rfl
          · omega) (QRows.base _)⟩
    · have c2 : trmB K T (cn0 T a) = false := c2
      simp only [cndN, cndB, cndA, cnG, *, if_true, Bool.false_eq_true, if_false, Bool.true_and, Bool.false_and]
      exact .inl ⟨3, _, _, rfl, rfl, rfl, by decide, QRows.app (xs := [qNode 3 1]) (QRows.one _ _ fun j hj => by
          rcases j with _ | _ | _ | _ | _ | _ | _ | _ | _ | j
          · exact rfl
          · exact rfl
          · exact rfl
          · exact rfl
          · exact rfl
          · exact rfl
          · exact rfl
          · exact rfl
          · exact rfl
          · omega) (QRows.base _)⟩
    · have c2 : trmB K T (cn0 T a) = true := n_f (n_t c2)
      have c3 : doneB T (innA T (cn0 T a)) = true := c3
      have e : trmB K T (wordA T a ⟨⟨[110, 111, 116]⟩⟩) = true := c2
      rw [e]
      simp only [cndN, cndB, cndA, cnG, *, if_true, Bool.false_eq_true, if_false, Bool.true_and, Bool.false_and]
      exact .inl ⟨1, _, _, rfl, rfl, rfl, by decide, QRows.base _⟩
    · have c2 : trmB K T (cn0 T a) = true := n_f (n_t c2)
      have c3 : doneB T (innA T (cn0 T a)) = false := c3
      have hln := hlen c2
      refine need_so ⟨rfl, rfl, h1⟩ (fork_ok (fun c4 => ?_) (fun c4 => ?_))
      · have c4' : andB T a = true := c4
        refine need_so ⟨rfl, rfl⟩ (need_so ⟨⟨hT, h1⟩, ⟨by omega, by omega⟩, c4⟩ (fork_ok (fun c5 => ?_) (fun c5 => ?_)))
        · have c5' : andT K T a = true := c5
          have hr := chnR_in K hK hT (xs := trmN K T (cn0 T a)) ⟨⟨[97, 110, 100]⟩⟩ h1 (by omega) c4 c5
          refine fork_ok (fun c6 => need_t ?_ (need_so ⟨rfl, rfl, hr.1⟩ ?_)) (fun c6 => ?_)
          · show (Nat.ble (cnAnd K T a).N.length (cnAnd K T a).N.length && (Nat.ble 1 1 && (Nat.ble ((1 + (cnAnd K T a).N.length) * 72) 140737488355328 && Nat.ble (1 + (cnAnd K T a).N.length) 17592186044416))) = true
            have hb1 : ((cnAnd K T a).N.length : Int) ≤ (cnAnd K T a).a := hr.2
            have hb2 : (cnAnd K T a).a ≤ T.length := hr.1.1.2
            simp only [Bool.and_eq_true, Nat.ble_eq]
            omega
          · have c6' : (cnAnd K T a).ok = true := c6
            simp only [cndN, cndB, cndA, cnG, *, if_true, Bool.false_eq_true, if_false, Bool.true_and, Bool.false_and]
            exact .inl ⟨5, _, _, rfl, rfl, rfl, by decide, QRows.app (xs := [qNode 1 (cnAnd K T a).c]) (QRows.one _ _ fun j hj => by
          rcases j with _ | _ | _ | _ | _ | _ | _ | _ | _ | j
          · exact rfl
          · exact rfl
          · exact rfl
          · exact rfl
          · exact rfl
          · exact rfl
          · exact rfl
          · exact rfl
          · exact rfl
          · omega) (QRows.base _)⟩
          · have c6' : (cnAnd K T a).ok = false := c6
            simp only [cndN, cndB, cndA, cnG, *, if_true, Bool.false_eq_true, if_false, Bool.true_and, Bool.false_and]
            exact .inr (.inl ⟨rfl, rfl, rfl⟩)
        · have c5' : andT K T a = false := c5
          simp only [cndN, cndB, cndA, cnG, *, if_true, Bool.false_eq_true, if_false, Bool.true_and, Bool.false_and]
          exact .inr (.inl ⟨rfl, rfl, rfl⟩)
      · have c4' : andB T a = false := c4
        refine need_so ⟨rfl, rfl, wordA_in h1⟩ (fork_ok (fun c7 => ?_) (fun c7 => ?_))
        · have c7' : orB T a = true := c7
          have c7o : wordB T (cn1 T a) ⟨⟨[111, 114]⟩⟩ = true := orB_here h1 c4 c7
          refine need_so ⟨rfl, rfl⟩ (need_so ⟨⟨hT, h1⟩, ⟨by omega, by omega⟩, c7o⟩ (fork_ok (fun c5 => ?_) (fun c5 => ?_)))
          · have c5' : orT K T a = true := c5
            have hr := chnR_in K hK hT (xs := trmN K T (cn0 T a)) ⟨⟨[111, 114]⟩⟩ h1 (by omega) c7o c5
            refine fork_ok (fun c6 => need_t ?_ (need_so ⟨rfl, rfl, hr.1⟩ ?_)) (fun c6 => ?_)
            · show (Nat.ble (cnOr K T a).N.length (cnOr K T a).N.length && (Nat.ble 1 1 && (Nat.ble ((1 + (cnOr K T a).N.length) * 72) 140737488355328 && Nat.ble (1 + (cnOr K T a).N.length) 17592186044416))) = true
              have hb1 : ((cnOr K T a).N.length : Int) ≤ (cnOr K T a).a := hr.2
              have hb2 : (cnOr K T a).a ≤ T.length := hr.1.1.2
              simp only [Bool.and_eq_true, Nat.ble_eq]
              omega
            · have c6' : (cnOr K T a).ok = true := c6
              simp only [cndN, cndB, cndA, cnG, *, if_true, Bool.false_eq_true, if_false, Bool.true_and, Bool.false_and]
              exact .inl ⟨5, _, _, rfl, rfl, rfl, by decide, QRows.app (xs := [qNode 2 (cnOr K T a).c]) (QRows.one _ _ fun j hj => by
          rcases j with _ | _ | _ | _ | _ | _ | _ | _ | _ | j
          · exact rfl
          · exact rfl
          · exact rfl
          · exact rfl
          · exact rfl
          · exact rfl
          · exact rfl
          · exact rfl
          · exact rfl
          · omega) (QRows.base _)⟩
            · have c6' : (cnOr K T a).ok = false := c6
              simp only [cndN, cndB, cndA, cnG, *, if_true, Bool.false_eq_true, if_false, Bool.true_and, Bool.false_and]
              exact .inr (.inl ⟨rfl, rfl, rfl⟩)
          · have c5' : orT K T a = false := c5
            simp only [cndN, cndB, cndA, cnG, *, if_true, Bool.false_eq_true, if_false, Bool.true_and, Bool.false_and]
            exact .inr (.inl ⟨rfl, rfl, rfl⟩)
        · have c7' : orB T a = false := c7
          simp only [cndN, cndB, cndA, cnG, *, if_true, Bool.false_eq_true, if_false, Bool.true_and, Bool.false_and]
          exact .inr (.inl ⟨rfl, rfl, rfl⟩)
    · have c2 : trmB K T (cn0 T a) = false := n_t (n_f c2)
      have e : trmB K T (wordA T a ⟨⟨[110, 111, 116]⟩⟩) = false := c2
      rw [e]
      simp only [cndN, cndB, cndA, cnG, *, if_true, Bool.false_eq_true, if_false, Bool.true_and, Bool.false_and]
      exact .inl ⟨1, _, _, rfl, rfl, rfl, by decide, QRows.base _⟩))
end Go.Proofs.Ytlmanlpgknhfpaa
namespace Go.Proofs.Ytlmanlpgknhfpaa
open Go Go.RowKit Pl Sy
theorem chnE_in1 (K : CnK) (hK : K.Ok) {T : List TokV} (hT : TrmK K T) (s : ByteArray) : ∀ (n : Nat) (a : Int) (xs : List QNodeV) (c : Int), InT T a → (xs.length : Int) + 1 ≤ a → ((chnE K T s n a xs c).N.length : Int) + 1 ≤ (chnE K T s n a xs c).a := by
  intro n
  induction n with
  | zero => intro a xs c h1 h2; exact h2
  | succ n ih =>
    intro a xs c h1 h2
    have hw : InT T (wordA T a s) := wordA_in h1
    have hsk := skI_le h1.1.1 h1.1.2
    unfold chnE
    split
    · rename_i c1
      have hwa : wordA T a s = skI T a + 1 := by unfold wordA; rw [if_pos c1]
      split
      · rename_i c2
        have hlen := trmN_len K hK (hT.at hw) c2
        exact ih _ _ _ (innA_in hw) (by rw [List.length_append]; omega)
      · have h3 : wordA T a s ≤ innA T (wordA T a s) := by
          have h4 := skI_le hw.1.1 hw.1.2
          unfold innA
          split
          · rename_i hb
            have := inn_in hw hb
            omega
          · omega
        show (xs.length : Int) + 1 ≤ innA T (wordA T a s)
        omega
    · show (xs.length : Int) + 1 ≤ wordA T a s
      unfold wordA
      split <;> omega
theorem chnR_in1 (K : CnK) (hK : K.Ok) {T : List TokV} (hT : TrmK K T) (s : ByteArray) {a : Int} {xs : List QNodeV} (h1 : InT T a) (h2 : (xs.length : Int) + 1 ≤ a) (hw1 : wordB T a s = true) (hb : trmB K T (wordA T a s) = true) : ((chnR K T s a xs).N.length : Int) + 1 ≤ (chnR K T s a xs).a := by
  have hw : InT T (wordA T a s) := wordA_in h1
  have hsk := skI_le h1.1.1 h1.1.2
  have hwa : wordA T a s = skI T a + 1 := by unfold wordA; rw [if_pos hw1]
  have hlen := trmN_len K hK (hT.at hw) hb
  exact chnE_in1 K hK hT s _ _ _ _ (innA_in hw) (by rw [List.length_append]; omega)
theorem trmN_le (K : CnK) (hK : K.Ok) {T : List TokV} {a : Int} (h : TrmC K T a) : a + ((trmN K T a).length : Int) ≤ T.length := by
  have h1 := h.1.1.1
  unfold trmN
  split
  · rename_i hb
    have h2 := innL_len h.1.1 hb
    have h3 := inn_in h.1.1 hb
    have h4 := skI_le h1.1 h1.2
    split
    · simp only [List.length_cons, List.length_nil]; omega
    · rename_i hf
      have := hK.len _ (h.2 hb (by simpa using hf))
      omega
  · simp only [List.length_nil]; omega
theorem cndN_len (K : CnK) (hK : K.Ok) {T : List TokV} (hT : TrmK K T) {a : Int} (h : InT T a) : ((cndN K T a).length : Int) ≤ T.length := by
  have h0 : InT T (cn0 T a) := wordA_in h
  have hI : InT T (innA T (cn0 T a)) := innA_in h0
  have h1 : InT T (cn1 T a) := skI_in hI
  have hs1 := skI_le hI.1.1 hI.1.2
  have hle := trmN_le K hK (hT.at h0)
  have h00 := h0.1.1
  have hlen : trmB K T (cn0 T a) = true → ((trmN K T (cn0 T a)).length : Int) + 1 ≤ cn1 T a := fun hb => by
    have := trmN_len K hK (hT.at h0) hb
    unfold cn1
    omega
  unfold cndN cnG
  split
  · rename_i c1
    have hsk := skI_le h.1.1 h.1.2
    have : cn0 T a = skI T a + 1 := by unfold cn0 wordA; rw [if_pos c1]
    have := h.1.1
    simp only [List.length_cons]
    omega
  · split
    · rename_i c2
      split
      · omega
      · split
        · rename_i c4
          split
          · rename_i c5
            split
            · have h2 := chnR_in1 K hK hT (xs := trmN K T (cn0 T a)) ⟨⟨[97, 110, 100]⟩⟩ h1 (hlen c2) c4 c5
              have h3 := (chnR_in K hK hT (xs := trmN K T (cn0 T a)) ⟨⟨[97, 110, 100]⟩⟩ h1 (by have := hlen c2; omega) c4 c5).1.1.2
              simp only [List.length_cons]
              unfold cnAnd
              omega
            · simp
          · simp
        · rename_i c4
          split
          · rename_i c7
            have c7o := orB_here h1 (by simpa [andB] using c4) c7
            split
            · rename_i c5
              split
              · have h2 := chnR_in1 K hK hT (xs := trmN K T (cn0 T a)) ⟨⟨[111, 114]⟩⟩ h1 (hlen c2) c7o c5
                have h3 := (chnR_in K hK hT (xs := trmN K T (cn0 T a)) ⟨⟨[111, 114]⟩⟩ h1 (by have := hlen c2; omega) c7o c5).1.1.2
                simp only [List.length_cons]
                unfold cnOr
                omega
              · simp
            · simp
          · simp
    · omega
def cndK : Nat → CnK
  | 0 => ⟨fun _ => [], fun _ => false, fun _ => 0, fun _ => False⟩
  | n + 1 => ⟨fun L => cndN (cndK n) L 0, fun L => cndB (cndK n) L 0, fun L => cndA (cndK n) L 0, fun L => L.length ≤ n ∧ limC L ∧ TxtOk L⟩
theorem cndK_trm (n : Nat) {T : List TokV} (h : T.length ≤ n) (hl : limC T) (ht : TxtOk T) : TrmK (cndK n) T := by
  refine ⟨hl, ht, fun a ha hb hf => ?_⟩
  have h1 := innL_len ha hb
  have h2 := inn_in ha hb
  have h3 := (skI_in ha).1
  have h4 : (innL T a).length < T.length := by omega
  cases n with
  | zero => omega
  | succ n => exact ⟨by omega, by unfold limC at hl ⊢; omega, (innL_ok ha ht).2⟩
theorem cndK_ok : ∀ n, (cndK n).Ok := by
  intro n
  induction n with
  | zero => exact ⟨fun L h => h.elim, fun L h => h.elim⟩
  | succ n ih =>
    have h0 : ∀ L : List TokV, limC L → InT L 0 := fun L h => ⟨⟨Int.le_refl 0, by omega⟩, h.lim⟩
    refine ⟨fun L hL => Sy.cnd_t (cndK n) ih L (cndK_trm n hL.1 hL.2.1 hL.2.2) 0 (h0 L hL.2.1), fun L hL => ?_⟩
    have := cndN_len (cndK n) ih (cndK_trm n hL.1 hL.2.1 hL.2.2) (h0 L hL.2.1)
    show (cndN (cndK n) L 0).length ≤ L.length
    omega
def cdN (T : List TokV) (a : Int) : List QNodeV := cndN (cndK T.length) T a
def cdB (T : List TokV) (a : Int) : Bool := cndB (cndK T.length) T a
def cdA (T : List TokV) (a : Int) : Int := cndA (cndK T.length) T a
theorem Sy.cd_t (T : List TokV) (hl : limC T) (ht : TxtOk T) (a : Int) (h : InT T a) : CallTo Try.prog 26 [.ptr 0 0] (rdM T a) (QEnd T (cdA T a) (cdN T a) (cdB T a)) := Sy.cnd_t _ (cndK_ok _) T (cndK_trm _ (Nat.le_refl _) hl ht) a h
noncomputable abbrev Sy.cCd (T : List TokV) : Con Try.prog := conO T 26 (fun r => match r with | [] => some () | _ => none) (fun _ => []) (fun a _ => cdN T a) (fun a _ => cdB T a) (fun a _ => cdA T a) (fun a _ => limC T ∧ TxtOk T ∧ InT T a) fun a _ h => ⟨trivial, cd_t T h.1 h.2.1 a h.2.2⟩
noncomputable abbrev Sy.cTrimP (l : List TokV) : Con Try.prog := at1 23 [kv l] (kv (trim l)) (limC l) fun h => ⟨⟨⟨kv_free l, trivial⟩, kv_free _⟩, trimp_t l h⟩
noncomputable abbrev Sy.cRightM (s : ByteArray) (xs : List QNodeV) : Con Try.prog := atM 15 (fun _ _ => some ()) (fun _ => [query s xs]) (fun _ => boo (rightQ s xs)) (fun _ => s.size ≤ maxLen ∧ xs.length ≤ 17592186044416) fun _ h => ⟨⟨_, rfl⟩, right_q0 s xs h.1 h.2⟩
def qName (T : List TokV) : Bool := eqI (kindI T 0) 1 && !resB (T.getD 0 tok0).text
def psS (T : List TokV) : ByteArray := if qName T then (tokAt T 0).text else ⟨#[]⟩
def psA (T : List TokV) : Int := if qName T then 1 else 0
def psN (T : List TokV) : List QNodeV := cdN T (psA T)
def psB (T : List TokV) : Bool := cdB T (psA T) && rightQ (psS T) (psN T)
def rdS (l : List TokV) : ByteArray := if psB (trim l) then psS (trim l) else ⟨#[]⟩
def rdN (l : List TokV) : List QNodeV := if psB (trim l) then psN (trim l) else []
def rdE (l : List TokV) : Int := if psB (trim l) then 0 else 21
theorem cdN_len (T : List TokV) (hl : limC T) (ht : TxtOk T) {a : Int} (h : InT T a) : (cdN T a).length ≤ T.length := by
  have := cndN_len _ (cndK_ok _) (cndK_trm _ (Nat.le_refl _) hl ht) h
  unfold cdN
  omega
theorem TxtOk.trim {l : List TokV} (h : TxtOk l) : TxtOk (trim l) := fun t ht => h t (by
  unfold Go.Proofs.Ytlmanlpgknhfpaa.trim at ht
  have h1 := List.mem_reverse.1 ht
  have h2 := (List.dropWhile_sublist _).subset h1
  have h3 := List.mem_reverse.1 h2
  exact (List.dropWhile_sublist _).subset h3)
theorem Sy.qps_t (l : List TokV) (hl : limC l) (ht : TxtOk l) : CallTo Try.prog 9 [kv l] M0 fun v M' => Frz true 0 M' v (.tup [query (rdS l) (rdN l), int (rdE l)]) :=
  to (G := fun r => Frz true 0 r.2 r.1 (.tup [query (rdS l) (rdN l), int (rdE l)])) [cTrimP l, cKind (trim l), cReserved, cCd (trim l), cRightM (if qName (trim l) then (tokAt (trim l) 0).text else ⟨#[]⟩) (cdN (trim l) (if qName (trim l) then 1 else 0))] [] 400 30 (.yes (.yes (.br (.auto 3 (.yes (.auto 2 (.yes (.auto 1 (.br (.yes (.yes (.br (.auto 0 (.yes (.auto 1 (.br .done .done)))) (.auto 3 .done)))) (.yes (.br (.auto 0 (.yes (.auto 1 (.br .done .done)))) (.auto 3 .done))))))))) (.auto 9 (.yes (.br (.auto 0 (.yes (.auto 1 (.br .done .done)))) (.auto 3 .done))))))) (let e1 := (@Value.tuple (@Array.mk _ [])); let e2 := (@AV.view (l).length 3 (fun y0 => (fun y1 => (@AV.lit ([(@Value.int IntKind.i64 ((l.getD y0 tok0)).kind), (@Value.string ((l.getD y0 tok0)).text), (@Value.int IntKind.i64 ((l.getD y0 tok0)).n)].getD y1 e1))))); let e3 := (@trim l); let e4 := (@AV.view (e3).length 3 (fun y0 => (fun y1 => (@AV.lit ([(@Value.int IntKind.i64 ((e3.getD y0 tok0)).kind), (@Value.string ((e3.getD y0 tok0)).text), (@Value.int IntKind.i64 ((e3.getD y0 tok0)).n)].getD y1 e1))))); let e5 := (Int.ofNat 0); let e6 := (some (@Blk.mk [e4, (int e5)] 55 none)); let e7 := (([] : List AV) = []); let e8 := (w64 (e5 + (1 : Int))); let e9 := (((0 + 1) + 1) + 1); let e10 := (e9 + 1); let e11 := (some (@Blk.mk [] 45 (some (@Rw.mk ((@cdN e3 e8)).length 9 (@qrow (@cdN e3 e8)))))); let e12 := (@AV.lit (@Value.string ((e3.getD 0 tok0)).text)); let e13 := (@AV.own e9 ((@cdN e3 e8)).length 9); let e14 := (@ByteArray.mk (@Array.mk _ [])); let e15 := (@AV.lit (@Value.string e14)); let e16 := (@AV.lit (@Value.slice none 0 0)); let e17 := (e12 :: e13 :: (@List.drop _ (1 + ([e13]).length) (e12 :: (@List.drop _ (0 + ([e12]).length) [e15, e16])))); let e18 := (some (@Blk.mk e17 24 none)); let e19 := (some (@Blk.mk [e4, (int (@cdA e3 e8))] 55 none)); let e20 := (some (@Blk.mk [e15, e16] 24 none)); let e21 := (@cdN e3 (if ((@qName e3) = true) then (1 : Int) else (0 : Int))); let e22 := (@query (if ((@qName e3) = true) then ((@tokAt e3 0)).text else e14) e21); let e23 := (@And ((@ByteArray.size (if ((@qName e3) = true) then ((@tokAt e3 0)).text else e14)) ≤ 9223372036854775807) ((e21).length ≤ 17592186044416)); let e24 := (!(@rightQ (if ((@qName e3) = true) then ((@tokAt e3 0)).text else e14) e21)); let e25 := (e15 :: e16 :: (@List.drop _ (0 + ([e15, e16]).length) [e15, e16])); let e26 := (@AV.tup [(@AV.agg (@List.take _ 2 e25)), (int (21 : Int))]); let e27 := (e12 :: e13 :: (@List.drop _ (0 + ([e12, e13]).length) [e15, e16])); let e28 := (some (@Blk.mk [] 45 (some (@Rw.mk ((@cdN e3 e5)).length 9 (@qrow (@cdN e3 e5)))))); let e29 := (@AV.own e9 ((@cdN e3 e5)).length 9); let e30 := (e15 :: e29 :: (@List.drop _ (1 + ([e29]).length) [e15, e16])); let e31 := (some (@Blk.mk e30 24 none)); let e32 := (some (@Blk.mk [e4, (int (@cdA e3 e5))] 55 none)); let e33 := (e15 :: e29 :: (@List.drop _ (0 + ([e15, e29]).length) [e15, e16])); (.need (@isSo (@And ((@HAppend.hAppend _ _ _ _ (@HAppend.hAppend _ _ _ _ [] [e2]) []) = [e2]) ((l).length ≤ 100000))) (.need (@isSo (@And ((some (@Blk.mk (e4 :: (@List.drop _ (0 + ([e4]).length) (@List.map _ _ AV.lit (@Array.toList _ (@Array.mk _ [(@Value.slice none 0 0), (@Value.int IntKind.i64 (0 : Int))]))))) 55 none)) = e6) (@And e7 (@InT e3 e5)))) (.fork (eqI (@kindI e3 e5) (1 : Int)) (.need (@inR (0 : Int) (e3).length) (.need (@isSo True) (.fork (!(@resB ((e3.getD 0 tok0)).text)) (.need (@inR (0 : Int) (e3).length) (.need (@isSo (@And ((some (@Blk.mk (e4 :: [(int e8)]) 55 none)) = (some (@Blk.mk [e4, (int e8)] 55 none))) (@And e7 (@And ((e3).length ≤ 100000) (@And (@TxtOk e3) (@InT e3 e8)))))) (.fork (!(!(@cdB e3 e8))) (.need (@isSo (@And (@Conv (@Mem.mk e10 (e10 + 1) (e11 :: [e18, e19, e20])) (@HAppend.hAppend _ _ _ _ (@HAppend.hAppend _ _ _ _ [] [(@AV.agg (@List.take _ 2 e17))]) []) [e22]) e23)) (.fork e24 (.leaf (e26, (@Mem.mk e10 ((e10 + 1) + 1) (e11 :: [e18, e19, (some (@Blk.mk e25 24 none))])))) (.leaf ((@AV.tup [(@AV.agg (@List.take _ 2 e27)), (int (0 : Int))]), (@Mem.mk e10 ((e10 + 1) + 1) (e11 :: [e18, e19, (some (@Blk.mk e27 24 none))])))))) (.leaf (e26, (@Mem.mk e10 ((e10 + 1) + 1) (e11 :: [e18, e19, (some (@Blk.mk e25 24 none))]))))))) (.need (@isSo (@And (e6 = e6) (@And e7 (@And ((e3).length ≤ 100000) (@And (@TxtOk e3) (@InT e3 e5)))))) (.fork (!(!(@cdB e3 e5))) (.need (@isSo (@And (@Conv (@Mem.mk e10 e9 (e28 :: [e31, e32, e20])) (@HAppend.hAppend _ _ _ _ (@HAppend.hAppend _ _ _ _ [] [(@AV.agg (@List.take _ 2 e30))]) []) [e22]) e23)) (.fork e24 (.leaf (e26, (@Mem.mk e10 e10 (e28 :: [e31, e32, (some (@Blk.mk e25 24 none))])))) (.leaf ((@AV.tup [(@AV.agg (@List.take _ 2 e33)), (int (0 : Int))]), (@Mem.mk e10 e10 (e28 :: [e31, e32, (some (@Blk.mk e33 24 none))])))))) (.leaf (e26, (@Mem.mk e10 e10 (e28 :: [e31, e32, (some (@Blk.mk e25 24 none))]))))))))) (.need (@isSo (@And (e6 = e6) (@And e7 (@And ((e3).length ≤ 100000) (@And (@TxtOk e3) (@InT e3 e5)))))) (.fork (!(!(@cdB e3 e5))) (.need (@isSo (@And (@Conv (@Mem.mk e10 e9 (e28 :: [e31, e32, e20])) (@HAppend.hAppend _ _ _ _ (@HAppend.hAppend _ _ _ _ [] [(@AV.agg (@List.take _ 2 e30))]) []) [e22]) e23)) (.fork e24 (.leaf (e26, (@Mem.mk e10 e10 (e28 :: [e31, e32, (some (@Blk.mk e25 24 none))])))) (.leaf ((@AV.tup [(@AV.agg (@List.take _ 2 e33)), (int (0 : Int))]), (@Mem.mk e10 e10 (e28 :: [e31, e32, (some (@Blk.mk e33 24 none))])))))) (.leaf (e26, (@Mem.mk e10 e10 (e28 :: [e31, e32, (some (@Blk.mk e25 24 none))])))))))))) (by kernel_rfl) (by
    have hlT : limC (trim l) := Nat.le_trans (trim_len l) hl
    have ht' : TxtOk (trim l) := ht.trim
    have h0 : InT (trim l) 0 := ⟨⟨Int.le_refl 0, by omega⟩, hlT.lim⟩
    have hfail : psB (trim l) = false → ∀ M', Frz true 0 M' (.tup [.agg [.lit (.string ⟨#[]⟩), .lit (.slice none 0 0)], int 21]) (.tup [query (rdS l) (rdN l), int (rdE l)]) := fun hb M' => by
      unfold rdS rdN rdE
      rw [hb]
      exact Frz.tup ⟨Frz.agg ⟨Frz.lit _ _ _ _, Frz.nil _ _ _ _ _, trivial⟩, Frz.lit _ _ _ _, trivial⟩
    have e1 : w64 ((Int.ofNat 0 : Int) + 1) = 1 := by decide
    conv => zeta
    rw [e1]
    refine need_so ⟨rfl, hl⟩ (need_so ⟨rfl, rfl, h0⟩ (fork_ok (fun c1 => ?_) (fun c1 => ?_)))
    · have h1 : InT (trim l) 1 := kind_step h0 c1 (by decide)
      have h1' := h1.1.2
      have hr : inR 0 (trim l).length = true := by rw [inR_t]; omega
      refine need_t hr (need_so trivial (fork_ok (fun c2 => need_t hr (need_so ⟨rfl, rfl, hlT, ht', h1⟩ ?_)) (fun c2 => need_so ⟨rfl, rfl, hlT, ht', h0⟩ ?_)))
      · have hq : qName (trim l) = true := by
          unfold qName
          have c1' : eqI (kindI (trim l) 0) 1 = true := c1
          rw [c1']
          exact c2
        refine fork_ok (fun c3 => ?_) (fun c3 => ?_)
        · exact (by
        have hS : (if qName (trim l) = true then (tokAt (trim l) 0).text else ⟨#[]⟩) = ((trim l).getD 0 tok0).text := by rw [if_pos hq]; rfl
        have hA : (if qName (trim l) = true then (1 : Int) else 0) = 1 := if_pos hq
        rw [hS, hA]
        refine need_so ⟨Conv.cons (Conv1.agg (Conv.cons (Conv1.lit _ _) (Conv.cons (Conv1.own rfl rfl (Nat.le_refl _) rfl fun i j _ _ => ⟨trivial, rfl⟩) (Conv.nil _)))) (Conv.nil _), ht'.at 0, Nat.le_trans (cdN_len (trim l) hlT ht' h1) (by unfold limC at hlT; omega)⟩ (fork_ok (fun c4 => ?_) (fun c4 => ?_))
        · refine hfail ?_ _
          unfold psB psN psA psS
          rw [hA, hS, n_t c4, Bool.and_false]
        · have hb : psB (trim l) = true := by
            unfold psB psN psA psS
            rw [hA, hS, n_f c4, Bool.and_true]
            exact n_f (n_t c3)
          unfold rdS rdN rdE
          simp only [hb, if_true]
          unfold psS psN psA
          rw [hA, hS]
          exact Frz.tup ⟨Frz.agg ⟨Frz.lit _ _ _ _, Frz.own (b := 3) (by decide) rfl rfl (Nat.le_refl _) rfl (fun i j _ _ => Frz.lit _ _ _ _), trivial⟩, Frz.lit _ _ _ _, trivial⟩)
        · exact (by
        refine hfail ?_ _
        have hA : (if qName (trim l) = true then (1 : Int) else 0) = 1 := if_pos hq
        unfold psB psA
        rw [hA, show cdB (trim l) 1 = false from n_t (n_f c3), Bool.false_and])
      · have hq : qName (trim l) = false := by
          unfold qName
          have c1' : eqI (kindI (trim l) 0) 1 = true := c1
          rw [c1']
          exact c2
        refine fork_ok (fun c3 => ?_) (fun c3 => ?_)
        · exact (by
        have hS : (if qName (trim l) = true then (tokAt (trim l) 0).text else ⟨#[]⟩) = ⟨#[]⟩ := by rw [if_neg (by rw [hq]; simp)]
        have hA : (if qName (trim l) = true then (1 : Int) else 0) = 0 := if_neg (by rw [hq]; simp)
        rw [hS, hA]
        refine need_so ⟨Conv.cons (Conv1.agg (Conv.cons (Conv1.lit _ _) (Conv.cons (Conv1.own rfl rfl (Nat.le_refl _) rfl fun i j _ _ => ⟨trivial, rfl⟩) (Conv.nil _)))) (Conv.nil _), (by show 0 ≤ _; exact Nat.zero_le _), Nat.le_trans (cdN_len (trim l) hlT ht' h0) (by unfold limC at hlT; omega)⟩ (fork_ok (fun c4 => ?_) (fun c4 => ?_))
        · refine hfail ?_ _
          unfold psB psN psA psS
          rw [hA, hS, n_t c4, Bool.and_false]
        · have hb : psB (trim l) = true := by
            unfold psB psN psA psS
            rw [hA, hS, n_f c4, Bool.and_true]
            exact n_f (n_t c3)
          unfold rdS rdN rdE
          simp only [hb, if_true]
          unfold psS psN psA
          rw [hA, hS]
          exact Frz.tup ⟨Frz.agg ⟨Frz.lit _ _ _ _, Frz.own (b := 3) (by decide) rfl rfl (Nat.le_refl _) rfl (fun i j _ _ => Frz.lit _ _ _ _), trivial⟩, Frz.lit _ _ _ _, trivial⟩)
        · exact (by
        refine hfail ?_ _
        have hA : (if qName (trim l) = true then (1 : Int) else 0) = 0 := if_neg (by rw [hq]; simp)
        unfold psB psA
        rw [hA, show cdB (trim l) 0 = false from n_t (n_f c3), Bool.false_and])
    · have hq : qName (trim l) = false := by
        unfold qName
        have c1' : eqI (kindI (trim l) 0) 1 = false := c1
        rw [c1']
        rfl
      refine need_so ⟨rfl, rfl, hlT, ht', h0⟩ (fork_ok (fun c3 => ?_) (fun c3 => ?_))
      · exact (by
        have hS : (if qName (trim l) = true then (tokAt (trim l) 0).text else ⟨#[]⟩) = ⟨#[]⟩ := by rw [if_neg (by rw [hq]; simp)]
        have hA : (if qName (trim l) = true then (1 : Int) else 0) = 0 := if_neg (by rw [hq]; simp)
        rw [hS, hA]
        refine need_so ⟨Conv.cons (Conv1.agg (Conv.cons (Conv1.lit _ _) (Conv.cons (Conv1.own rfl rfl (Nat.le_refl _) rfl fun i j _ _ => ⟨trivial, rfl⟩) (Conv.nil _)))) (Conv.nil _), (by show 0 ≤ _; exact Nat.zero_le _), Nat.le_trans (cdN_len (trim l) hlT ht' h0) (by unfold limC at hlT; omega)⟩ (fork_ok (fun c4 => ?_) (fun c4 => ?_))
        · refine hfail ?_ _
          unfold psB psN psA psS
          rw [hA, hS, n_t c4, Bool.and_false]
        · have hb : psB (trim l) = true := by
            unfold psB psN psA psS
            rw [hA, hS, n_f c4, Bool.and_true]
            exact n_f (n_t c3)
          unfold rdS rdN rdE
          simp only [hb, if_true]
          unfold psS psN psA
          rw [hA, hS]
          exact Frz.tup ⟨Frz.agg ⟨Frz.lit _ _ _ _, Frz.own (b := 3) (by decide) rfl rfl (Nat.le_refl _) rfl (fun i j _ _ => Frz.lit _ _ _ _), trivial⟩, Frz.lit _ _ _ _, trivial⟩)
      · exact (by
        refine hfail ?_ _
        have hA : (if qName (trim l) = true then (1 : Int) else 0) = 0 := if_neg (by rw [hq]; simp)
        unfold psB psA
        rw [hA, show cdB (trim l) 0 = false from n_t (n_f c3), Bool.false_and]))
theorem Sy.query_free (s : ByteArray) (xs : List QNodeV) : Free (query s xs) := ⟨trivial, qview_free xs, trivial⟩
theorem Sy.qps_v (l : List TokV) (hl : limC l) (ht : TxtOk l) : CallTo Try.prog 9 [kv l] M0 fun v _ => v = .tup [query (rdS l) (rdN l), int (rdE l)] :=
  CallTo.frz0 (qps_t l hl ht) ⟨kv_free l, trivial⟩ ⟨query_free _ _, trivial, trivial⟩
end Go.Proofs.Ytlmanlpgknhfpaa
namespace Go.Proofs.Ytlmanlpgknhfpaa
open Go Go.RowKit Pl Sy
theorem Sy.rowsAt {n : Nat} {cell : Nat → Nat → AV} {L : List TokV} (h : CellIs n cell L) (σ : Nat → Option Nat) {i j : Nat} (hi : i < L.length) (hj : j < 3) : RenV σ (cell i j) (kcell L i j) := h.free σ (by rw [h.1]; exact hi) hj
theorem Sy.CellIs.app3 {n m : Nat} {c d : Nat → Nat → AV} {L X : List TokV} (h : CellIs n c L) (hm : m = X.length) (hd : ∀ i j, i < m → j < 3 → d i j = kcell X i j) : CellIs (n + m) (appc n c d) (L ++ X) := h.app ⟨hm, hd⟩
noncomputable def rRes (M : Mem) (b n : Nat) (cell : Nat → Nat → AV) (X : List TokV) : Mem := (M.put b none).push (rowB (n + X.length) (appc n cell (kcell X)))
theorem rRes_get {M : Mem} {b n : Nat} {cell : Nat → Nat → AV} {X : List TokV} {B1 : Blk} (h1 : M.get b = some B1) {x : Nat} {B' : Blk} (h : (rRes M b n cell X).get x = some B') :
    (x = M.top ∧ B' = rowB (n + X.length) (appc n cell (kcell X))) ∨ (x < M.top ∧ x ≠ b ∧ M.get x = some B') := by
  have hb := Mem.get_lt h1
  unfold rRes at h
  rcases Mem.get_push h with ⟨h2, h3⟩ | ⟨h2, h3⟩
  · exact .inl ⟨h2, h3⟩
  · have h2' : x < M.top := h2
    rcases Mem.get_put hb h3 with ⟨_, e3⟩ | ⟨e3, e4⟩
    · cases e3
    · exact .inr ⟨h2', e3, e4⟩
def OwnEnd (v : AV) (M' : Mem) (L : List TokV) : Prop := ∃ b n cell, v = .own b n 3 ∧ M'.get b = some (rowB n cell) ∧ CellIs n cell L
theorem Sy.OwnEnd.frz {v : AV} {M' : Mem} {L : List TokV} (h : OwnEnd v M' L) (keep : Bool) : Frz keep 0 M' v (kv L) := by
  obtain ⟨b, n, cell, rfl, h1, h2⟩ := h
  obtain ⟨rfl, h3⟩ := h2
  refine Frz.own (Nat.zero_le _) h1 rfl (Nat.le_refl _) rfl fun i j hi hj => ?_
  dsimp only
  rw [h3 i j hi hj]
  exact Frz.lit _ _ _ _
abbrev Sy.qM (L : List TokV) : Mem := ⟨1, 0, [some (rowB L.length (kcell L))]⟩
theorem Sy.qM_ren {M : Mem} {l : List Nat} {b n : Nat} {cell : Nat → Nat → AV} {L : List TokV} (hl : l = [b]) (h2 : M.get b = some (rowB n cell)) (hc : CellIs n cell L) : RenM (nm l) M (qM L) := by
  subst hl
  exact .of rfl rfl (by simp) ⟨⟨b, _, rfl, h2, rfl, trivial, hc.1.symm, rfl, fun i j hi hj => rowsAt hc _ hi hj⟩, trivial⟩
theorem Sy.loopQ_frame {P : Program} {body : Code} {m : Nat} {Fc Fc' F F' : Fr} {e : Ex} {L X : List TokV} (h : LoopToT 0 P body m Fc (qM L) fun ex F2 M2 => ex = e ∧ F2 = Fc' ∧ M2 = qM (L ++ X)) {M : Mem} {b n : Nat} {cell : Nat → Nat → AV}
    (hF : RenF (nm [b]) F Fc) (hF' : ∀ τ : Nat → Option Nat, τ M.top = some 0 → RenF τ Fc' F') (h1 : M.get b = some (rowB n cell)) (hc : CellIs n cell L) :
    LoopTo P body m F M fun ex F2 M2 => ex = e ∧ F2 = F' ∧ M2 = rRes M b n cell X := by
  have hn := hc.1
  have hbt := Mem.get_lt h1
  refine LoopToT.frame (σ := nm [b]) h hF (qM_ren rfl h1 hc) ?_ ?_
  · intro x c hx
    rcases x with _ | x
    · exact ⟨_, rfl⟩
    · cases hx
  · rintro ex F2 M2 ⟨rfl, rfl, rfl⟩
    have hlen : (L ++ X).length = n + X.length := by rw [List.length_append, hn]
    have tof : ∀ x c, (if x = M.top then some 0 else none : Option Nat) = some c → x = M.top ∧ c = 0 := fun x c hx => by
      split at hx
      · simp at hx; omega
      · cases hx
    refine ⟨fun x => if x = M.top then some 0 else none, F', _, ⟨rfl, rfl, rfl⟩, hF' _ (if_pos rfl), Nat.le_succ _, fun x c hx => ?_, fun x c hlt hx => ?_, fun x x' c hx hx' => ?_, fun x B' hx => ?_⟩
    · show x < M.top + 1
      have := tof x c hx; omega
    · have := tof x c hx; omega
    · have := tof x c hx
      have := tof x' c hx'
      omega
    · rcases rRes_get h1 hx with ⟨rfl, rfl⟩ | ⟨e1, e3, e4⟩
      · refine .inr ⟨0, _, if_pos rfl, rfl, rfl, trivial, hlen.symm, rfl, fun i j hi hj => ?_⟩
        dsimp only
        rw [(hc.app (CellIs.kc X)).2 i j hi hj]
        exact rfl
      · refine .inl ⟨e1, fun c hc => ?_, e4⟩
        rcases c with _ | c
        · have : some b = some x := hc
          simp at this; omega
        · cases hc
def ToksOk (l : List TokV) : Prop := ∀ t ∈ l, t.text.size ≤ maxLen
end Go.Proofs.Ytlmanlpgknhfpaa
