/-
  Lemmas for MarkupBlanks, part 5; no conditions.
-/
import Derived.Test.YtglkdhmikpejnaaMbpD
set_option linter.unusedVariables false
set_option linter.unusedSimpArgs false
set_option linter.unusedSectionVars false
namespace Go.Proofs.Ytglkdhmikpejnaa
open Go Go.RowKit Pl Sy
structure PrK where
  T : Int → List UInt8
  C : Int → Prop
structure PrK.Ok (K : PrK) (ns : List NdV) (b w : ByteArray) : Prop where
  call : ∀ i, K.C i → CallTo Try.prog 10 [nview ns, int i, .lit (.string b), .lit (.string w)] M0 fun v _ => v = .lit (.string ⟨⟨K.T i⟩⟩)
noncomputable abbrev Sy.cPrK (ns : List NdV) (b w : ByteArray) (K : PrK) (hK : K.Ok ns b w) : Con Try.prog := atX 10 (fun args => match args with | [_, .lit (.int .i64 i), _, _] => some i | _ => none) (fun i => [nview ns, int i, .lit (.string b), .lit (.string w)]) (fun i => .lit (.string ⟨⟨K.T i⟩⟩)) (fun i => K.C i) fun i h => ⟨⟨⟨nview_free ns, trivial, trivial, trivial, trivial⟩, trivial⟩, hK.call i h⟩
def addL (s : ByteArray) (l : List UInt8) : ByteArray := ⟨⟨s.data.toList ++ l⟩⟩
theorem addL_size (s : ByteArray) (l : List UInt8) : (addL s l).size = s.size + l.length := by
  rw [size_toList, size_toList]
  show (s.data.toList ++ l).length = _
  rw [List.length_append]
theorem addL_add (s : ByteArray) (a c : List UInt8) : addL (addL s a) c = addL s (a ++ c) := by
  unfold addL
  simp
theorem add_addL (s x : ByteArray) : s ++ x = addL s x.data.toList := by
  apply ba_ext
  unfold addL
  simp [ByteArray.data_append]
theorem addL_nil (s : ByteArray) : addL s [] = s := by
  apply ba_ext
  unfold addL
  simp
def bsP (w : List UInt8) (T : Int → List UInt8) : List Int → List UInt8
  | [] => []
  | x :: xs => w ++ (T x ++ bsP w T xs)
def allP (w : List UInt8) (T : Int → List UInt8) : List Int → List UInt8
  | [] => []
  | x :: xs => T x ++ bsP w T xs
namespace Sy
abbrev prM (ns : List NdV) (i : Int) : Mem := (@Mem.mk (0 + 1) (0 + 1) [(some (@Blk.mk ((@ndcell ns (i).toNat 0) :: (@ndcell ns (i).toNat 1) :: (@ndcell ns (i).toNat 2) :: (@ndcell ns (i).toNat 3) :: (@ndcell ns (i).toNat 4) :: (@ndcell ns (i).toNat 5) :: (@List.drop _ (0 + ([(@ndcell ns (i).toNat 0), (@ndcell ns (i).toNat 1), (@ndcell ns (i).toNat 2), (@ndcell ns (i).toNat 3), (@ndcell ns (i).toNat 4), (@ndcell ns (i).toNat 5)]).length) [(int (0 : Int)), (@AV.lit (@Value.string (@ByteArray.mk (@Array.mk _ [])))), (@AV.lit (@Value.string (@ByteArray.mk (@Array.mk _ [])))), (@AV.lit (@Value.slice none 0 0)), (@AV.lit (@Value.slice none 0 0)), (@AV.lit (@Value.string (@ByteArray.mk (@Array.mk _ []))))])) 40 none))])
abbrev prF (ns : List NdV) (ks : List Int) (b w : ByteArray) (k : Int) (s : ByteArray) : Fr := (some ((@AV.view (ns).length 6 (@ndcell ns))) :: none :: some ((@AV.lit (@Value.string b))) :: some ((@AV.lit (@Value.string w))) :: (nn6 (some (.lit (.string s)) :: some (zview ks) :: some (int k) :: (nn5 (nn46 [])))))
end Sy
end Go.Proofs.Ytglkdhmikpejnaa
namespace Go.Proofs.Ytglkdhmikpejnaa
open Go Go.RowKit Pl Sy
theorem mk_size (l : List UInt8) : (ByteArray.mk (Array.mk l)).size = l.length := rfl
theorem Sy.prt_loop (ns : List NdV) (i : Int) (ks : List Int) (hl : ks.length ≤ 1000000) (b w : ByteArray) (K : PrK) (hK : K.Ok ns b w) (hC : ∀ x ∈ ks, K.C x) : ∀ (m : Nat) (k : Int) (s : ByteArray), 1 ≤ k → k + m = ks.length → s.size + (bsP w.data.toList K.T (ks.drop k.toNat)).length ≤ 1000000000 →
    LoopTo Try.prog (theBody Try.prog 10 11) (m + 1) (prF ns ks b w k s) (prM ns i) fun ex F M => ex = .exit 0 ∧ F = prF ns ks b w ks.length (addL s (bsP w.data.toList K.T (ks.drop k.toNat))) ∧ M = prM ns i := by
  intro m
  induction m with
  | zero =>
    intro k s h1 h2 h3
    refine roundL [cPrK ns b w K hK] [] 400 30 10 11 Try.func10 rfl (by kernel_rfl) (true :: false :: true :: true :: (ff6 (true :: true :: true :: (ff5 (ff46 []))))) (.br (.br (.yes (.yes (.yes (.yes .done)))) (.yes (.yes (.yes .done)))) .done) (let e1 := (9223372036854775807 : Int); let e2 := (@AV.view (ns).length 6 (@ndcell ns)); let e3 := (ks.getD (k).toNat (0 : Int)); let e4 := (@AV.lit (@Value.string b)); let e5 := (@AV.lit (@Value.string w)); let e6 := (@isSo (@And ((@HAppend.hAppend _ _ _ _ (@HAppend.hAppend _ _ _ _ [] [e2, (int e3), e4, e5]) []) = [e2, (int e3), e4, e5]) ((K).C e3))); let e7 := (@ByteArray.mk (@Array.mk _ ((K).T e3))); let e8 := (some (@AV.view (ks).length 1 (@zcell ks))); let e9 := (some (int (w64 (k + (1 : Int))))); let e10 := (@Mem.mk 1 1 [(some (@Blk.mk [(@ndcell ns (i).toNat 0), (@ndcell ns (i).toNat 1), (@ndcell ns (i).toNat 2), (@ndcell ns (i).toNat 3), (@ndcell ns (i).toNat 4), (@ndcell ns (i).toNat 5)] 40 none))]); (.fork (!(leI (((ks).length : Nat) : Int) k)) (.fork (!(leI k (0 : Int))) (.need (leI ((((@ByteArray.size s) + (@ByteArray.size w)) : Nat) : Int) e1) (.need (@inR k (ks).length) (.need e6 (.need (leI ((((@ByteArray.size (@HAppend.hAppend _ _ _ _ s w)) + (@ByteArray.size e7)) : Nat) : Int) e1) (.leaf (Ex.norm, (((some e2) :: none :: (some e4) :: (some e5) :: (nn6 ((some (@AV.lit (@Value.string (@HAppend.hAppend _ _ _ _ (@HAppend.hAppend _ _ _ _ s w) e7)))) :: e8 :: e9 :: (nn5 (nn46 []))))), e10))))))) (.need (@inR k (ks).length) (.need e6 (.need (leI ((((@ByteArray.size s) + (@ByteArray.size e7)) : Nat) : Int) e1) (.leaf (Ex.norm, (((some e2) :: none :: (some e4) :: (some e5) :: (nn6 ((some (@AV.lit (@Value.string (@HAppend.hAppend _ _ _ _ s e7)))) :: e8 :: e9 :: (nn5 (nn46 []))))), e10))))))) (.leaf ((@Ex.exit 0), (((some e2) :: none :: (some e4) :: (some e5) :: (nn6 ((some (@AV.lit (@Value.string s))) :: e8 :: (some (int k)) :: (nn5 (nn46 []))))), e10))))) (by kernel_rfl) ?_
    refine fork_ok (fun q => ?_) (fun q => ?_)
    · simp only [Bool.not_eq_true', Bool.not_eq_false', leI_t, leI_f, eqI_t, eqI_f, inR_t, inR_f, isSo_t, isSo_f] at q
      omega
    · have e : k = ks.length := by omega
      subst e
      rw [Int.toNat_natCast, List.drop_length, show bsP w.data.toList K.T [] = [] from rfl, addL_nil]
      exact ⟨rfl, rfl, rfl⟩
  | succ m ih =>
    intro k s h1 h2 h3
    have hd := drop_get ks 0 k (by omega) (by omega)
    rw [hd] at h3 ⊢
    have e : bsP w.data.toList K.T (ks.getD k.toNat 0 :: ks.drop (k + 1).toNat) = w.data.toList ++ (K.T (ks.getD k.toNat 0) ++ bsP w.data.toList K.T (ks.drop (k + 1).toNat)) := rfl
    rw [e] at h3 ⊢
    simp only [List.length_append] at h3
    have hx : K.C (ks.getD k.toNat 0) := hC _ (getD_mem ks k 0 (by omega) (by omega))
    have hz : (s ++ w).size = s.size + w.data.toList.length := by rw [ByteArray.size_append, size_toList w]
    refine roundL [cPrK ns b w K hK] [] 400 30 10 11 Try.func10 rfl (by kernel_rfl) (true :: false :: true :: true :: (ff6 (true :: true :: true :: (ff5 (ff46 []))))) (.br (.br (.yes (.yes (.yes (.yes .done)))) (.yes (.yes (.yes .done)))) .done) (let e1 := (9223372036854775807 : Int); let e2 := (@AV.view (ns).length 6 (@ndcell ns)); let e3 := (ks.getD (k).toNat (0 : Int)); let e4 := (@AV.lit (@Value.string b)); let e5 := (@AV.lit (@Value.string w)); let e6 := (@isSo (@And ((@HAppend.hAppend _ _ _ _ (@HAppend.hAppend _ _ _ _ [] [e2, (int e3), e4, e5]) []) = [e2, (int e3), e4, e5]) ((K).C e3))); let e7 := (@ByteArray.mk (@Array.mk _ ((K).T e3))); let e8 := (some (@AV.view (ks).length 1 (@zcell ks))); let e9 := (some (int (w64 (k + (1 : Int))))); let e10 := (@Mem.mk 1 1 [(some (@Blk.mk [(@ndcell ns (i).toNat 0), (@ndcell ns (i).toNat 1), (@ndcell ns (i).toNat 2), (@ndcell ns (i).toNat 3), (@ndcell ns (i).toNat 4), (@ndcell ns (i).toNat 5)] 40 none))]); (.fork (!(leI (((ks).length : Nat) : Int) k)) (.fork (!(leI k (0 : Int))) (.need (leI ((((@ByteArray.size s) + (@ByteArray.size w)) : Nat) : Int) e1) (.need (@inR k (ks).length) (.need e6 (.need (leI ((((@ByteArray.size (@HAppend.hAppend _ _ _ _ s w)) + (@ByteArray.size e7)) : Nat) : Int) e1) (.leaf (Ex.norm, (((some e2) :: none :: (some e4) :: (some e5) :: (nn6 ((some (@AV.lit (@Value.string (@HAppend.hAppend _ _ _ _ (@HAppend.hAppend _ _ _ _ s w) e7)))) :: e8 :: e9 :: (nn5 (nn46 []))))), e10))))))) (.need (@inR k (ks).length) (.need e6 (.need (leI ((((@ByteArray.size s) + (@ByteArray.size e7)) : Nat) : Int) e1) (.leaf (Ex.norm, (((some e2) :: none :: (some e4) :: (some e5) :: (nn6 ((some (@AV.lit (@Value.string (@HAppend.hAppend _ _ _ _ s e7)))) :: e8 :: e9 :: (nn5 (nn46 []))))), e10))))))) (.leaf ((@Ex.exit 0), (((some e2) :: none :: (some e4) :: (some e5) :: (nn6 ((some (@AV.lit (@Value.string s))) :: e8 :: (some (int k)) :: (nn5 (nn46 []))))), e10))))) (by kernel_rfl) ?_
    refine fork_ok (fun q => fork_ok (fun q2 => ?_) (fun q2 => ?_)) (fun q => ?_)
    · have h4 := ih (k + 1) ((s ++ w) ++ ⟨⟨K.T (ks.getD k.toNat 0)⟩⟩) (by omega) (by omega) (by
        rw [ByteArray.size_append, hz, mk_size (K.T (ks.getD k.toNat 0))]
        omega)
      refine need_t (by rw [leI_t, size_toList w]; omega) (need_t (by rw [inR_t]; omega) (need_so ⟨rfl, hx⟩ (need_t (by
        rw [leI_t, hz, mk_size (K.T (ks.getD k.toNat 0))]
        omega) ?_)))
      rw [w64_in (r := k + 1) (by omega)]
      have e2 : addL ((s ++ w) ++ ⟨⟨K.T (ks.getD k.toNat 0)⟩⟩) (bsP w.data.toList K.T (ks.drop (k + 1).toNat)) = addL s (w.data.toList ++ (K.T (ks.getD k.toNat 0) ++ bsP w.data.toList K.T (ks.drop (k + 1).toNat))) := by
        rw [add_addL s w, add_addL, addL_add, addL_add]
      rw [e2] at h4
      exact h4
    · simp only [Bool.not_eq_true', Bool.not_eq_false', leI_t, leI_f, eqI_t, eqI_f, inR_t, inR_f, isSo_t, isSo_f] at q2
      omega
    · simp only [Bool.not_eq_true', Bool.not_eq_false', leI_t, leI_f, eqI_t, eqI_f, inR_t, inR_f, isSo_t, isSo_f] at q
      omega
theorem Sy.prt_loop0 (ns : List NdV) (i : Int) (ks : List Int) (hl : ks.length ≤ 1000000) (h0 : 0 < ks.length) (b w : ByteArray) (K : PrK) (hK : K.Ok ns b w) (hC : ∀ x ∈ ks, K.C x) (s : ByteArray) (h3 : s.size + (allP w.data.toList K.T ks).length ≤ 1000000000) :
    LoopTo Try.prog (theBody Try.prog 10 11) (ks.length + 1) (prF ns ks b w 0 s) (prM ns i) fun ex F M => ex = .exit 0 ∧ F = prF ns ks b w ks.length (addL s (allP w.data.toList K.T ks)) ∧ M = prM ns i := by
  have hd := drop_get ks 0 0 (Int.le_refl 0) (by omega)
  rw [show ((0 : Int).toNat) = 0 from rfl, List.drop_zero, show ((0 : Int) + 1).toNat = 1 from rfl] at hd
  have e : allP w.data.toList K.T ks = K.T (ks.getD 0 0) ++ bsP w.data.toList K.T (ks.drop 1) := by
    rw [hd]
    rfl
  rw [e] at h3 ⊢
  simp only [List.length_append] at h3
  have hx : K.C (ks.getD 0 0) := hC _ (getD_mem ks 0 0 (Int.le_refl 0) (by omega))
  refine roundL [cPrK ns b w K hK] [] 400 30 10 11 Try.func10 rfl (by kernel_rfl) (true :: false :: true :: true :: (ff6 (true :: true :: true :: (ff5 (ff46 []))))) (.br (.br (.yes (.yes (.yes (.yes .done)))) (.yes (.yes (.yes .done)))) .done) (let k : Int := 0; (let e1 := (9223372036854775807 : Int); let e2 := (@AV.view (ns).length 6 (@ndcell ns)); let e3 := (ks.getD (k).toNat (0 : Int)); let e4 := (@AV.lit (@Value.string b)); let e5 := (@AV.lit (@Value.string w)); let e6 := (@isSo (@And ((@HAppend.hAppend _ _ _ _ (@HAppend.hAppend _ _ _ _ [] [e2, (int e3), e4, e5]) []) = [e2, (int e3), e4, e5]) ((K).C e3))); let e7 := (@ByteArray.mk (@Array.mk _ ((K).T e3))); let e8 := (some (@AV.view (ks).length 1 (@zcell ks))); let e9 := (some (int (w64 (k + (1 : Int))))); let e10 := (@Mem.mk 1 1 [(some (@Blk.mk [(@ndcell ns (i).toNat 0), (@ndcell ns (i).toNat 1), (@ndcell ns (i).toNat 2), (@ndcell ns (i).toNat 3), (@ndcell ns (i).toNat 4), (@ndcell ns (i).toNat 5)] 40 none))]); (.fork (!(leI (((ks).length : Nat) : Int) k)) (.fork (!(leI k (0 : Int))) (.need (leI ((((@ByteArray.size s) + (@ByteArray.size w)) : Nat) : Int) e1) (.need (@inR k (ks).length) (.need e6 (.need (leI ((((@ByteArray.size (@HAppend.hAppend _ _ _ _ s w)) + (@ByteArray.size e7)) : Nat) : Int) e1) (.leaf (Ex.norm, (((some e2) :: none :: (some e4) :: (some e5) :: (nn6 ((some (@AV.lit (@Value.string (@HAppend.hAppend _ _ _ _ (@HAppend.hAppend _ _ _ _ s w) e7)))) :: e8 :: e9 :: (nn5 (nn46 []))))), e10))))))) (.need (@inR k (ks).length) (.need e6 (.need (leI ((((@ByteArray.size s) + (@ByteArray.size e7)) : Nat) : Int) e1) (.leaf (Ex.norm, (((some e2) :: none :: (some e4) :: (some e5) :: (nn6 ((some (@AV.lit (@Value.string (@HAppend.hAppend _ _ _ _ s e7)))) :: e8 :: e9 :: (nn5 (nn46 []))))), e10))))))) (.leaf ((@Ex.exit 0), (((some e2) :: none :: (some e4) :: (some e5) :: (nn6 ((some (@AV.lit (@Value.string s))) :: e8 :: (some (int k)) :: (nn5 (nn46 []))))), e10)))))) (by kernel_rfl) ?_
  refine fork_ok (fun q => fork_ok (fun q2 => ?_) (fun q2 => ?_)) (fun q => ?_)
  · cases q2
  · obtain ⟨m, hm⟩ : ∃ m, ks.length = m + 1 := ⟨ks.length - 1, by omega⟩
    have h4 := prt_loop ns i ks hl b w K hK hC m 1 (s ++ ⟨⟨K.T (ks.getD 0 0)⟩⟩) (Int.le_refl 1) (by omega) (by
      rw [ByteArray.size_append, mk_size (K.T (ks.getD 0 0))]
      show s.size + (K.T (ks.getD 0 0)).length + (bsP w.data.toList K.T (ks.drop 1)).length ≤ _
      omega)
    refine need_t (by rw [inR_t]; show (0 : Int) ≤ 0 ∧ _; omega) (need_so ⟨rfl, hx⟩ (need_t (by
      rw [leI_t]
      show ((s.size + (K.T (ks.getD 0 0)).length : Nat) : Int) ≤ 9223372036854775807
      omega) ?_))
    have e2 : addL (s ++ ⟨⟨K.T (ks.getD 0 0)⟩⟩) (bsP w.data.toList K.T (ks.drop (1 : Int).toNat)) = addL s (K.T (ks.getD 0 0) ++ bsP w.data.toList K.T (ks.drop 1)) := by
      rw [add_addL, addL_add]
      rfl
    rw [e2, ← hm] at h4
    exact h4
  · simp only [Bool.not_eq_true', Bool.not_eq_false', leI_t, leI_f, eqI_t, eqI_f, inR_t, inR_f, isSo_t, isSo_f] at q
    omega
namespace Sy
noncomputable def prGet (F : Fr) (M : Mem) : Option ByteArray := match nth F 10 with
  | some (some (.lit (.string s))) => some s
  | _ => none
noncomputable abbrev lpPr (ns : List NdV) (i : Int) (b w : ByteArray) (K : PrK) (hK : K.Ok ns b w) : Lp Try.prog where
  f := 10
  key := 11
  S := formS prGet (fun s => prF ns (kidsI ns i) b w 0 s) (fun _ => prM ns i) (fun s => ((kidsI ns i).length ≤ 1000000 ∧ 0 < (kidsI ns i).length) ∧ (∀ x ∈ kidsI ns i, K.C x) ∧ s.size + (allP w.data.toList K.T (kidsI ns i)).length ≤ 1000000000) (fun s => .leaf (.exit 0, (some ((@AV.view (ns).length 6 (@ndcell ns))) :: none :: some ((@AV.lit (@Value.string b))) :: some ((@AV.lit (@Value.string w))) :: (nn6 (some (.lit (.string (addL s (allP w.data.toList K.T (kidsI ns i))))) :: (nn5 (nn48 []))))), prM ns i)) (true :: false :: true :: true :: (ff6 (true :: true :: true :: (ff5 (ff46 [])))))
  one := by kernel_rfl
  ok := formS_ok fun s ⟨⟨h1, h2⟩, h3, h4⟩ => by
    refine ⟨(kidsI ns i).length + 1, ?_⟩
    refine ((Sy.prt_loop0 ns i (kidsI ns i) h1 h2 b w K hK h3 s (by omega)).out (true :: false :: true :: true :: (ff6 (true :: (ff5 (ff48 [])))))).mono fun ex F M hg => ?_
    obtain ⟨F0, ⟨rfl, rfl, rfl⟩, rfl⟩ := hg
    rfl
end Sy
def prN (ns : List NdV) (b w : List UInt8) (T : Int → List UInt8) (i : Int) : List UInt8 := if (ndN ns i).tag.data.toList = [] then 34 :: ((ndN ns i).text.data.toList ++ [34])
  else headL (ndN ns i) ++ (if (kidsI ns i).length = 0 then [] else b ++ (123 :: (b ++ (allP w T (kidsI ns i) ++ (b ++ [125])))))
def PrC (ns : List NdV) (b w : ByteArray) (K : PrK) (i : Int) : Prop := (ns.length ≤ 100000 ∧ inR i ns.length = true) ∧ ((ndN ns i).cls.length ≤ 1000 ∧ (ndN ns i).atts.length ≤ 1000) ∧ (headL (ndN ns i)).length ≤ 10000000 ∧ (∀ x ∈ kidsI ns i, K.C x) ∧ (prN ns b.data.toList w.data.toList K.T i).length ≤ 100000000
theorem Sy.prt_t (ns : List NdV) (i : Int) (b w : ByteArray) (K : PrK) (hK : K.Ok ns b w) (h : PrC ns b w K i) : CallTo Try.prog 10 [nview ns, int i, .lit (.string b), .lit (.string w)] M0 fun v _ => v = .lit (.string ⟨⟨prN ns b.data.toList w.data.toList K.T i⟩⟩) :=
  toV [cHd (ndN ns i), cKid ns, cPrK ns b w K hK] [lpPr ns i b w K hK] 400 30 (.yes (.br (.yes (.yes .done)) (.yes (.yes (.br .done (.yes (.yes (.yes (.yes (.yes .done)))))))))) (let e1 := (@ByteArray.mk (@Array.mk _ [])); let e2 := (9223372036854775807 : Int); let e3 := (@ByteArray.mk (@Array.mk _ [(34 : UInt8)])); let e4 := (@ndcell ns (i).toNat 0); let e5 := (@ndcell ns (i).toNat 1); let e6 := (@ndcell ns (i).toNat 2); let e7 := (@ndcell ns (i).toNat 3); let e8 := (@ndcell ns (i).toNat 4); let e9 := (@ndcell ns (i).toNat 5); let e10 := (@AV.lit (@Value.string e1)); let e11 := (@AV.lit (@Value.slice none 0 0)); let e12 := (e4 :: e5 :: e6 :: e7 :: e8 :: e9 :: (@List.drop _ (0 + ([e4, e5, e6, e7, e8, e9]).length) [(int (0 : Int)), e10, e10, e11, e11, e10])); let e13 := (@Value.tuple (@Array.mk _ [])); let e14 := (@AV.view (ns).length 6 (@ndcell ns)); let e15 := (@ByteArray.mk (@Array.mk _ (@headL (@ndN ns i)))); let e16 := (@ByteArray.size b); let e17 := (some (@AV.lit (@Value.string b))); let e18 := (some (@AV.lit (@Value.string w))); let e19 := (some (@AV.lit (@Value.string (@HAppend.hAppend _ _ _ _ (@HAppend.hAppend _ _ _ _ (@HAppend.hAppend _ _ _ _ e15 b) (@ByteArray.mk (@Array.mk _ [(123 : UInt8)]))) b)))); let e20 := (some (@AV.view ((@kidsI ns i)).length 1 (@zcell (@kidsI ns i)))); let e21 := (@allP (@Array.toList _ (@ByteArray.data w)) (K).T (@kidsI ns i)); let e22 := (@addL (@HAppend.hAppend _ _ _ _ (@HAppend.hAppend _ _ _ _ (@HAppend.hAppend _ _ _ _ e15 b) (@ByteArray.mk (@Array.mk _ [(123 : UInt8)]))) b) e21); (.need (@inR i (ns).length) (.fork (@bytesEq (@Array.toList _ (@ByteArray.data ((ns.getD (i).toNat ndNone)).tag)) (@Array.toList _ (@ByteArray.data e1))) (.need (leI (((1 + (@ByteArray.size ((ns.getD (i).toNat ndNone)).text)) : Nat) : Int) e2) (.need (leI ((((@ByteArray.size (@HAppend.hAppend _ _ _ _ e3 ((ns.getD (i).toNat ndNone)).text)) + 1) : Nat) : Int) e2) (.leaf (@AV.lit (@Value.string (@HAppend.hAppend _ _ _ _ (@HAppend.hAppend _ _ _ _ e3 ((ns.getD (i).toNat ndNone)).text) e3)))))) (.need (@isSo (@And ((@HAppend.hAppend _ _ _ _ (@HAppend.hAppend _ _ _ _ [] [(@AV.agg (@List.take _ 6 e12))]) []) = [(@AV.agg [(int ((@ndN ns i)).par), (@AV.lit (@Value.string ((@ndN ns i)).tag)), (@AV.lit (@Value.string ((@ndN ns i)).id)), (@AV.view (((@ndN ns i)).cls).length 1 (fun y0 => (fun y1 => (@AV.lit ([(@Value.string (((@ndN ns i)).cls.getD y0 e1))].getD y1 e13))))), (@AV.view (((@ndN ns i)).atts).length 2 (fun y0 => (fun y1 => (@AV.lit ([(@Value.string ((((@ndN ns i)).atts.getD y0 attrNone)).name), (@Value.string ((((@ndN ns i)).atts.getD y0 attrNone)).value)].getD y1 e13))))), (@AV.lit (@Value.string ((@ndN ns i)).text))])]) (@And (@And ((((@ndN ns i)).cls).length ≤ 1000) ((((@ndN ns i)).atts).length ≤ 1000)) (((@headL (@ndN ns i))).length ≤ 10000000)))) (.need (@isSo (@And ((@HAppend.hAppend _ _ _ _ (@HAppend.hAppend _ _ _ _ [] [e14, (int i)]) []) = [e14, (int i)]) (@And ((ns).length ≤ 100000) ((@inR i (ns).length) = true)))) (.fork (eqI ((((@kidsI ns i)).length : Nat) : Int) (0 : Int)) (.leaf (@AV.lit (@Value.string e15))) (.need (leI ((((@ByteArray.size e15) + e16) : Nat) : Int) e2) (.need (leI ((((@ByteArray.size (@HAppend.hAppend _ _ _ _ e15 b)) + 1) : Nat) : Int) e2) (.need (leI ((((@ByteArray.size (@HAppend.hAppend _ _ _ _ (@HAppend.hAppend _ _ _ _ e15 b) (@ByteArray.mk (@Array.mk _ [(123 : UInt8)])))) + e16) : Nat) : Int) e2) (.need (@isSo (@And (((some e14) :: none :: e17 :: e18 :: (nn6 (e19 :: e20 :: (some (int (0 : Int))) :: (nn5 (nn46 []))))) = ((some e14) :: none :: e17 :: e18 :: (nn6 (e19 :: e20 :: (some (int (0 : Int))) :: (nn5 (nn46 [])))))) ((@Mem.mk (0 + 1) (0 + 1) [(some (@Blk.mk e12 40 none))]) = (@Mem.mk 1 1 [(some (@Blk.mk [e4, e5, e6, e7, e8, e9] 40 none))])))) (.need (@isSo (@And (@And (((@kidsI ns i)).length ≤ 1000000) (0 < ((@kidsI ns i)).length)) (@And (∀ (x : Int), x ∈ kidsI ns i → K.C x) (((@ByteArray.size (@HAppend.hAppend _ _ _ _ (@HAppend.hAppend _ _ _ _ (@HAppend.hAppend _ _ _ _ e15 b) (@ByteArray.mk (@Array.mk _ [(123 : UInt8)]))) b)) + (e21).length) ≤ 1000000000)))) (.need (leI ((((@ByteArray.size e22) + e16) : Nat) : Int) e2) (.need (leI ((((@ByteArray.size (@HAppend.hAppend _ _ _ _ e22 b)) + 1) : Nat) : Int) e2) (.leaf (@AV.lit (@Value.string (@HAppend.hAppend _ _ _ _ (@HAppend.hAppend _ _ _ _ e22 b) (@ByteArray.mk (@Array.mk _ [(125 : UInt8)]))))))))))))))))))) (by kernel_rfl) (by
    obtain ⟨⟨h1, h2⟩, h3, h4, h5, h6⟩ := h
    have hk := kidsN_len ns i ns.length 0
    change (kidsI ns i).length ≤ ns.length at hk
    conv => zeta
    unfold prN at h6 ⊢
    refine need_t h2 (fork_ok (fun q => ?_) (fun q => ?_))
    · have q' : (ndN ns i).tag.data.toList = [] := by
        rw [bytesEq_eq, decide_eq_true_eq] at q
        exact q
      rw [if_pos q'] at h6 ⊢
      simp only [List.length_cons, List.length_append, List.length_nil] at h6
      have e : (ns.getD i.toNat ndNone).text.size = (ndN ns i).text.data.toList.length := rfl
      refine need_t (by rw [leI_t, e]; omega) (need_t (by rw [leI_t, ByteArray.size_append, mk_size, e]; simp only [List.length_cons, List.length_nil]; omega) ?_)
      refine congrArg (fun b => AV.lit (.string b)) (ba_ext ?_)
      simp [ByteArray.data_append]
      rfl
    · have q' : ¬ (ndN ns i).tag.data.toList = [] := by
        rw [bytesEq_eq, decide_eq_false_iff_not] at q
        exact q
      rw [if_neg q'] at h6 ⊢
      refine need_so ⟨rfl, h3, h4⟩ (need_so ⟨rfl, h1, h2⟩ (fork_ok (fun q2 => ?_) (fun q2 => ?_)))
      · rw [eqI_t] at q2
        rw [if_pos (by omega), List.append_nil]
        rfl
      · rw [eqI_f] at q2
        rw [if_neg (by omega)] at h6 ⊢
        simp only [List.length_cons, List.length_append, List.length_nil] at h6
        have hb : b.size = b.data.toList.length := size_toList b
        have hh : (ByteArray.mk (Array.mk (headL (ndN ns i)))).size = (headL (ndN ns i)).length := rfl
        have z1 : ∀ x : ByteArray, (x ++ ⟨⟨[123]⟩⟩ : ByteArray).size = x.size + 1 := fun x => by rw [ByteArray.size_append]; rfl
        refine need_t (by rw [leI_t, hh]; omega) (need_t (by rw [leI_t, ByteArray.size_append, hh]; omega) (need_t (by rw [leI_t, z1, ByteArray.size_append, hh]; omega) (need_so ⟨rfl, rfl⟩ (need_so ⟨⟨by omega, by omega⟩, h5, by rw [ByteArray.size_append, z1, ByteArray.size_append, hh]; omega⟩ (need_t (by rw [leI_t, addL_size, ByteArray.size_append, z1, ByteArray.size_append, hh]; omega) (need_t (by rw [leI_t, ByteArray.size_append, addL_size, ByteArray.size_append, z1, ByteArray.size_append, hh]; omega) ?_))))))
        refine congrArg (fun b => AV.lit (.string b)) (ba_ext ?_)
        simp [ByteArray.data_append, addL])
end Go.Proofs.Ytglkdhmikpejnaa
namespace Go.Proofs.Ytglkdhmikpejnaa
open Go Go.RowKit Pl Sy
def InL (L : List NdV) : Ft → Nat → Int → Prop
  | .nil, _, _ => True
  | .cons n k nx, i, p => (i < L.length ∧ L.getD i ndNone = setP n p) ∧ InL L k (i + 1) (i : Nat) ∧ InL L nx (i + 1 + k.sz) p
theorem InL.of : ∀ (F : Ft) (A B : List NdV) (p : Int), InL (A ++ (F.fl A.length p ++ B)) F A.length p := by
  intro F
  induction F with
  | nil => intro A B p; trivial
  | cons n k nx ihk ihn =>
    intro A B p
    refine ⟨⟨?_, ?_⟩, ?_, ?_⟩
    · simp only [Ft.fl, List.length_append, List.length_cons]
      omega
    · simp [Ft.fl, List.getD_eq_getElem?_getD]
    · have h := ihk (A ++ [setP n p]) (nx.fl (A.length + 1 + k.sz) p ++ B) (A.length : Nat)
      have e : A ++ ((Ft.cons n k nx).fl A.length p ++ B) = (A ++ [setP n p]) ++ (k.fl (A.length + 1) (A.length : Nat) ++ (nx.fl (A.length + 1 + k.sz) p ++ B)) := by simp [Ft.fl]
      rw [List.length_append, List.length_singleton] at h
      rw [e]
      exact h
    · have h := ihn (A ++ setP n p :: k.fl (A.length + 1) (A.length : Nat)) B p
      have e : A ++ ((Ft.cons n k nx).fl A.length p ++ B) = (A ++ setP n p :: k.fl (A.length + 1) (A.length : Nat)) ++ (nx.fl (A.length + 1 + k.sz) p ++ B) := by simp [Ft.fl]
      have el : (A ++ setP n p :: k.fl (A.length + 1) (A.length : Nat)).length = A.length + 1 + k.sz := by
        rw [List.length_append, List.length_cons, Ft.fl_len]
        omega
      rw [el] at h
      rw [e]
      exact h
theorem InL.root (F : Ft) : InL (F.fl 0 (-1)) F 0 (-1) := by
  have := InL.of F [] [] (-1)
  simpa using this
theorem InL.par {L : List NdV} : ∀ {F : Ft} {i : Nat} {p : Int}, InL L F i p → -1 ≤ p → p < i → ∀ y, i ≤ y → y < i + F.sz → y < L.length ∧ (pN L y = p ∨ (i : Int) ≤ pN L y) ∧ pN L y < y := by
  intro F
  induction F with
  | nil => intro i p h h0 h1 y h2 h3; simp only [Ft.sz] at h3; omega
  | cons n k nx ihk ihn =>
    intro i p h h0 h1 y h2 h3
    obtain ⟨⟨g1, g2⟩, g3, g4⟩ := h
    simp only [Ft.sz] at h3
    have hp : pN L i = p := by unfold pN; rw [g2]; rfl
    by_cases c1 : y = i
    · subst c1
      exact ⟨g1, .inl hp, by omega⟩
    · by_cases c2 : y < i + 1 + k.sz
      · obtain ⟨q1, q2, q3⟩ := ihk g3 (by omega) (by omega) y (by omega) c2
        exact ⟨q1, .inr (by rcases q2 with q2 | q2 <;> omega), q3⟩
      · obtain ⟨q1, q2, q3⟩ := ihn g4 h0 (by omega) y (by omega) (by omega)
        exact ⟨q1, by rcases q2 with q2 | q2; exact .inl q2; exact .inr (by omega), q3⟩
def OutL (L : List NdV) (F : Ft) (i : Nat) : Prop := ∀ y, y < L.length → (y < i ∨ i + F.sz ≤ y) → ¬ ((i : Int) ≤ pN L y ∧ pN L y < i + F.sz)
theorem OutL.kid {L : List NdV} {n : NdV} {k nx : Ft} {i : Nat} {p : Int} (h : InL L (.cons n k nx) i p) (h0 : -1 ≤ p) (h1 : p < i) (ho : OutL L (.cons n k nx) i) : OutL L k (i + 1) := fun y hy hc => by
  obtain ⟨⟨g1, g2⟩, g3, g4⟩ := h
  have hp : pN L i = p := by unfold pN; rw [g2]; rfl
  have ho := ho y hy
  simp only [Ft.sz] at ho
  by_cases c1 : y = i
  · subst c1; omega
  · by_cases c2 : y < i ∨ i + (1 + k.sz + nx.sz) ≤ y
    · have := ho c2; omega
    · obtain ⟨q1, q2, q3⟩ := InL.par g4 h0 (by omega) y (by omega) (by omega)
      rcases q2 with q2 | q2 <;> omega
theorem OutL.next {L : List NdV} {n : NdV} {k nx : Ft} {i : Nat} {p : Int} (h : InL L (.cons n k nx) i p) (h0 : -1 ≤ p) (h1 : p < i) (ho : OutL L (.cons n k nx) i) : OutL L nx (i + 1 + k.sz) := fun y hy hc => by
  obtain ⟨⟨g1, g2⟩, g3, g4⟩ := h
  have hp : pN L i = p := by unfold pN; rw [g2]; rfl
  have ho := ho y hy
  simp only [Ft.sz] at ho
  by_cases c1 : y = i
  · subst c1; omega
  · by_cases c2 : y < i ∨ i + (1 + k.sz + nx.sz) ≤ y
    · have := ho c2; omega
    · obtain ⟨q1, q2, q3⟩ := InL.par g3 (by omega) (by omega) y (by omega) (by omega)
      rcases q2 with q2 | q2 <;> omega
theorem OutL.root (F : Ft) : OutL (F.fl 0 (-1)) F 0 := fun y hy hc => by
  rw [Ft.fl_len] at hy
  omega
theorem OutL.last {L : List NdV} {n : NdV} {k nx : Ft} {i : Nat} {p : Int} (h : InL L (.cons n k nx) i p) (h0 : -1 ≤ p) (h1 : p < i) (ho : OutL L (.cons n k nx) i) (hlt : i + 1 + k.sz < L.length) : pN L (i + 1 + k.sz) ≠ i := by
  obtain ⟨⟨g1, g2⟩, g3, g4⟩ := h
  have ho := ho (i + 1 + k.sz) hlt
  simp only [Ft.sz] at ho
  by_cases c2 : i + (1 + k.sz + nx.sz) ≤ i + 1 + k.sz
  · have := ho (.inr c2); omega
  · obtain ⟨q1, q2, q3⟩ := InL.par g4 h0 (by omega) (i + 1 + k.sz) (by omega) (by omega)
    rcases q2 with q2 | q2 <;> omega
theorem upI_in {L : List NdV} {y : Nat} (h : pN L y < y) : upI L (y : Nat) = if 0 ≤ pN L y then pN L y else -1 := by
  unfold upI up
  rw [Int.toNat_natCast]
  by_cases c : 0 ≤ pN L y
  · rw [if_pos ⟨c, h⟩, if_pos c]
  · rw [if_neg (fun q => c q.1), if_neg c]
theorem kidsN_add (L : List NdV) (q : Int) : ∀ (a c : Nat) (k : Int), kidsN L q (a + c) k = kidsN L q a k ++ kidsN L q c (k + a)
  | 0, c, k => by rw [Nat.zero_add]; show _ = [] ++ kidsN L q c (k + (0 : Nat)); rw [List.nil_append, show k + ((0 : Nat) : Int) = k by omega]
  | a + 1, c, k => by
    rw [show a + 1 + c = (a + c) + 1 by omega]
    rw [kidsN, kidsN, kidsN_add L q a c (k + 1), show k + 1 + (a : Int) = k + ((a + 1 : Nat) : Int) by omega]
    split <;> rfl
theorem kidsN_none (L : List NdV) (q : Int) : ∀ (m k : Nat), (∀ y, k ≤ y → y < k + m → upI L (y : Nat) ≠ q) → kidsN L q m (k : Nat) = []
  | 0, k, h => rfl
  | m + 1, k, h => by
    rw [kidsN, if_neg (h k (Nat.le_refl k) (by omega))]
    exact kidsN_none L q m (k + 1) fun y h1 h2 => h y (by omega) (by omega)
def rts (b w : List UInt8) : Ft → Nat → List (Int × List UInt8)
  | .nil, _ => []
  | .cons n k nx, i => ((i : Nat), prOne b n k (k.pr b w)) :: rts b w nx (i + 1 + k.sz)
theorem kidsN_seg {L : List NdV} (b w : List UInt8) : ∀ {F : Ft} {i : Nat} {q : Int}, InL L F i q → 0 ≤ q → q < i → kidsN L q F.sz (i : Nat) = (rts b w F i).map Prod.fst := by
  intro F
  induction F with
  | nil => intro i q h h0 h1; rfl
  | cons n k nx ihk ihn =>
    intro i q h h0 h1
    have hall := h
    obtain ⟨⟨g1, g2⟩, g3, g4⟩ := h
    have hp : pN L i = q := by unfold pN; rw [g2]; rfl
    have hu : upI L (i : Nat) = q := by rw [upI_in (by omega), if_pos (by omega), hp]
    simp only [Ft.sz]
    rw [show 1 + k.sz + nx.sz = (k.sz + nx.sz) + 1 by omega, kidsN, if_pos hu, kidsN_add]
    have e1 : kidsN L q k.sz ((i : Int) + 1) = [] := kidsN_none L q k.sz (i + 1) fun y h2 h3 => by
      obtain ⟨q1, q2, q3⟩ := InL.par g3 (by omega) (by omega) y h2 h3
      rw [upI_in q3, if_pos (by rcases q2 with q2 | q2 <;> omega)]
      rcases q2 with q2 | q2 <;> omega
    rw [e1, List.nil_append, show (i : Int) + 1 + (k.sz : Nat) = ((i + 1 + k.sz : Nat) : Int) by omega, ihn g4 h0 (by omega)]
    rfl
theorem kids_are {L : List NdV} (b w : List UInt8) {n : NdV} {k nx : Ft} {i : Nat} {p : Int} (h : InL L (.cons n k nx) i p) (h0 : -1 ≤ p) (h1 : p < i) (ho : OutL L (.cons n k nx) i) (hup : ∀ y, y < L.length → pN L y < y) (hsz : i + 1 + k.sz ≤ L.length) : kidsI L (i : Nat) = (rts b w k (i + 1)).map Prod.fst := by
  have hk := OutL.kid h h0 h1 ho
  have hl := OutL.last h h0 h1 ho
  have hall := h
  obtain ⟨⟨g1, g2⟩, g3, g4⟩ := h
  have hp : pN L i = p := by unfold pN; rw [g2]; rfl
  unfold kidsI
  obtain ⟨r, hr⟩ : ∃ r, L.length = (i + 1) + (k.sz + r) := ⟨L.length - (i + 1 + k.sz), by omega⟩
  rw [hr, kidsN_add L (i : Nat) (i + 1) (k.sz + r), kidsN_add L (i : Nat) k.sz r]
  have e1 : kidsN L (i : Nat) (i + 1) 0 = [] := kidsN_none L (i : Nat) (i + 1) 0 fun y h2 h3 => by
    have := hup y (by omega)
    rw [upI_in this]
    split <;> omega
  have ho' := ho
  have e3 : kidsN L (i : Nat) r ((0 : Int) + ((i + 1 : Nat) : Int) + (k.sz : Nat)) = [] := by
    rw [show (0 : Int) + ((i + 1 : Nat) : Int) + (k.sz : Nat) = ((i + 1 + k.sz : Nat) : Int) by omega]
    refine kidsN_none L (i : Nat) r (i + 1 + k.sz) fun y h2 h3 => ?_
    have hy := hup y (by omega)
    rw [upI_in hy]
    split
    · by_cases c2 : i + (1 + k.sz + nx.sz) ≤ y
      · have := ho y (by omega) (.inr (by simp only [Ft.sz]; omega))
        simp only [Ft.sz] at this
        omega
      · obtain ⟨q1, q2, q3⟩ := InL.par g4 h0 (by omega) y (by omega) (by omega)
        rcases q2 with q2 | q2 <;> omega
    · omega
  rw [e1, e3, List.nil_append, List.append_nil, show (0 : Int) + ((i + 1 : Nat) : Int) = ((i + 1 : Nat) : Int) by omega]
  exact kidsN_seg b w g3 (by omega) (by omega)
theorem bsP_rts (b w : List UInt8) (T : Int → List UInt8) : ∀ (F : Ft) (i : Nat), (∀ x ∈ rts b w F i, T x.1 = x.2) → bsP w T ((rts b w F i).map Prod.fst) = if F.isN = true then [] else w ++ F.pr b w
  | .nil, i, h => rfl
  | .cons n k nx, i, h => by
    have ih := bsP_rts b w T nx (i + 1 + k.sz) fun x hx => h x (List.mem_cons_of_mem _ hx)
    have h1 := h _ (List.mem_cons_self ..)
    simp only at h1
    show w ++ (T (i : Nat) ++ bsP w T ((rts b w nx (i + 1 + k.sz)).map Prod.fst)) = _
    rw [ih, h1]
    rfl
theorem allP_rts (b w : List UInt8) (T : Int → List UInt8) (F : Ft) (i : Nat) (h : ∀ x ∈ rts b w F i, T x.1 = x.2) : allP w T ((rts b w F i).map Prod.fst) = F.pr b w := by
  cases F with
  | nil => rfl
  | cons n k nx =>
    have ih := bsP_rts b w T nx (i + 1 + k.sz) fun x hx => h x (List.mem_cons_of_mem _ hx)
    have h1 := h _ (List.mem_cons_self ..)
    simp only at h1
    show T (i : Nat) ++ bsP w T ((rts b w nx (i + 1 + k.sz)).map Prod.fst) = _
    rw [ih, h1]
    rfl
theorem rts_ge (b w : List UInt8) : ∀ (F : Ft) (i : Nat) (x : Int × List UInt8), x ∈ rts b w F i → (i : Int) ≤ x.1
  | .nil, i, x, h => by cases h
  | .cons n k nx, i, x, h => by
    rcases List.mem_cons.1 h with h | h
    · rw [h]; exact Int.le_refl _
    · have := rts_ge b w nx (i + 1 + k.sz) x h
      omega
def look : List (Int × List UInt8) → Int → List UInt8
  | [], _ => []
  | a :: l, x => if x = a.1 then a.2 else look l x
theorem look_rts (b w : List UInt8) : ∀ (F : Ft) (i : Nat) (x : Int × List UInt8), x ∈ rts b w F i → look (rts b w F i) x.1 = x.2
  | .nil, i, x, h => by cases h
  | .cons n k nx, i, x, h => by
    rcases List.mem_cons.1 h with h | h
    · rw [h]; exact if_pos rfl
    · have hg := rts_ge b w nx (i + 1 + k.sz) x h
      show (if x.1 = (i : Nat) then _ else look (rts b w nx (i + 1 + k.sz)) x.1) = _
      rw [if_neg (by omega)]
      exact look_rts b w nx (i + 1 + k.sz) x h
theorem rts_none (b w : List UInt8) (F : Ft) (i : Nat) : ((rts b w F i).map Prod.fst).length = 0 ↔ F.isN = true := by
  cases F with
  | nil => exact ⟨fun _ => rfl, fun _ => rfl⟩
  | cons n k nx => exact ⟨fun h => by simp [rts] at h, fun h => by cases h⟩
theorem clsL_le : ∀ (cs : List ByteArray), (∀ c ∈ cs, nameL c.data.toList = true) → (clsL cs).length ≤ 33 * cs.length
  | [], _ => Nat.le_refl _
  | c :: cs, h => by
    have := clsL_le cs fun c hc => h c (List.mem_cons_of_mem _ hc)
    have h1 := h c (List.mem_cons_self ..)
    unfold nameL at h1
    rw [Bool.and_eq_true, decide_eq_true_eq] at h1
    rw [clsL_cons, List.length_append, List.length_cons]
    show c.data.toList.length + 1 + _ ≤ _
    omega
theorem atsL_le : ∀ (ats : List AttrV), (∀ t ∈ ats, nameL t.name.data.toList = true ∧ textL t.value.data.toList = true) → (atsL ats).length ≤ 293 * ats.length
  | [], _ => Nat.le_refl _
  | t :: ats, h => by
    have := atsL_le ats fun c hc => h c (List.mem_cons_of_mem _ hc)
    obtain ⟨h1, h2⟩ := h t (List.mem_cons_self ..)
    unfold nameL at h1
    unfold textL at h2
    rw [Bool.and_eq_true, decide_eq_true_eq] at h1 h2
    rw [atsL_cons, List.length_append, List.length_cons]
    unfold atL
    simp only [List.length_cons, List.length_append, List.length_nil]
    omega
theorem headL_le {n : NdV} (h : elemB n = true) : (headL n).length ≤ 2700 := by
  obtain ⟨h1, h2, h3⟩ := elem_mk h
  have c1 := clsL_le n.cls h2.cls.2
  have c2 := atsL_le n.atts h2.ats.2
  have c3 := h2.cls.1
  have c4 := h2.ats.1
  have hi : (idL n.id).length ≤ 33 := by
    unfold idL
    rcases h2.id with q | q
    · rw [if_pos q]; exact Nat.zero_le _
    · split
      · exact Nat.zero_le _
      · unfold nameL at q
        rw [Bool.and_eq_true, decide_eq_true_eq] at q
        simp only [List.length_cons]
        omega
  unfold nameL at h1
  rw [Bool.and_eq_true, decide_eq_true_eq] at h1
  unfold headL
  simp only [List.length_append]
  omega
theorem prOne_le {b : List UInt8} {n : NdV} {k : Ft} {t : List UInt8} (h : ndB n = true) : (prOne b n k t).length ≤ 2710 + 3 * b.length + t.length := by
  unfold prOne
  by_cases ht : n.tag.data.toList = []
  · rw [if_pos ht]
    obtain ⟨_, _, _, h4⟩ := nd_words h ht
    unfold textL at h4
    rw [Bool.and_eq_true, decide_eq_true_eq] at h4
    simp only [List.length_cons, List.length_append, List.length_nil]
    omega
  · rw [if_neg ht]
    have := headL_le (nd_elem h ht)
    split
    · simp only [List.length_append, List.length_nil]; omega
    · simp only [List.length_append, List.length_cons, List.length_nil]; omega
theorem Ft.pr_le (b w : List UInt8) : ∀ F : Ft, F.good → (F.pr b w).length ≤ F.sz * (2710 + 3 * b.length + w.length) := by
  intro F
  induction F with
  | nil => intro _; exact Nat.zero_le _
  | cons n k nx ihk ihn =>
    intro ⟨⟨g1, g2⟩, g3, g4⟩
    have h1 := ihk g3
    have h2 := ihn g4
    have h3 := prOne_le (b := b) (k := k) (t := k.pr b w) g1
    simp only [Ft.pr, Ft.sz, List.length_append]
    rw [Nat.add_mul, Nat.add_mul, Nat.one_mul]
    split
    · simp only [List.length_nil]; omega
    · simp only [List.length_append]; omega
end Go.Proofs.Ytglkdhmikpejnaa
namespace Go.Proofs.Ytglkdhmikpejnaa
open Go Go.RowKit Pl Sy
theorem good_of {L : List NdV} (hT : ∀ y : Nat, y < L.length → ndB (ndN L y) = true ∧ stdB L y = true) : ∀ {F : Ft} {i : Nat} {p : Int}, InL L F i p → F.good := by
  intro F
  induction F with
  | nil => intro i p h; trivial
  | cons n k nx ihk ihn =>
    intro i p h
    obtain ⟨⟨g1, g2⟩, g3, g4⟩ := h
    have h1 := (hT i g1).1
    have e : ndN L (i : Nat) = setP n p := g2
    rw [e] at h1
    refine ⟨⟨h1, fun ht => ?_⟩, ihk g3, ihn g4⟩
    cases k with
    | nil => rfl
    | cons n2 k2 nx2 =>
      exfalso
      obtain ⟨⟨q1, q2⟩, _, _⟩ := g3
      have h2 := (hT (i + 1) q1).2
      have hp : pN L (i + 1) = (i : Nat) := by unfold pN; rw [q2]; rfl
      have hu : up (pN L) (i + 1) = (i : Nat) := by
        unfold up
        rw [hp, if_pos ⟨by omega, by omega⟩]
      unfold stdB standsN at h2
      rw [Int.toNat_natCast, if_neg (by omega), hu, Bool.and_eq_true, Bool.and_eq_true, Int.toNat_natCast] at h2
      have h3 := h2.1.2
      unfold tgB at h3
      rw [g2, bytesEq_eq] at h3
      have h4 : (setP n p).tag.data.toList = [] := ht
      rw [h4] at h3
      cases h3
theorem dep_in {L : List NdV} {y : Nat} {p : Int} (hp : pN L y = p) (h0 : -1 ≤ p) (h1 : p < y) (d : Nat) (hd : p < 0 → d = 0) (hd2 : 0 ≤ p → dep (pN L) p.toNat = d) : dep (pN L) y = d + 1 := by
  have hu : up (pN L) y = p := by
    unfold up
    rw [hp]
    split
    · rfl
    · omega
  by_cases c : 0 ≤ p
  · rw [dep_up _ _ (by omega), hu, hd2 c]
  · rw [dep_root _ _ (by omega), hd (by omega)]
theorem ht_of {L : List NdV} (hT : ∀ y : Nat, y < L.length → depI L y ≤ 64) : ∀ {F : Ft} {i : Nat} {p : Int} (d : Nat), InL L F i p → -1 ≤ p → p < i → (p < 0 → d = 0) → (0 ≤ p → dep (pN L) p.toNat = d) → d ≤ 64 → d + F.ht ≤ 64 := by
  intro F
  induction F with
  | nil => intro i p d h h0 h1 h2 h3 h4; exact h4
  | cons n k nx ihk ihn =>
    intro i p d h h0 h1 h2 h3 h4
    obtain ⟨⟨g1, g2⟩, g3, g4⟩ := h
    have hp : pN L i = p := by unfold pN; rw [g2]; rfl
    have hdi := dep_in hp h0 h1 d h2 h3
    have h64 := hT i g1
    unfold depI at h64
    rw [Int.toNat_natCast, hdi] at h64
    have k1 := ihk (d + 1) g3 (by omega) (by omega) (by omega) (fun _ => by rw [Int.toNat_natCast]; exact hdi) (by omega)
    have k2 := ihn d g4 h0 (by omega) h2 h3 h4
    simp only [Ft.ht]
    omega
structure TreeF (L : List NdV) (n : NdV) (k : Ft) : Prop where
  fl : L = (Ft.cons n k .nil).fl 0 (-1)
  good : (Ft.cons n k .nil).good
  ht : (Ft.cons n k .nil).ht ≤ 64
  sz : (Ft.cons n k .nil).sz ≤ 1024
  tag : ¬ n.tag.data.toList = []
  len : L.length = (Ft.cons n k .nil).sz
  lies : InL L (Ft.cons n k .nil) 0 (-1)
  out : OutL L (Ft.cons n k .nil) 0
  up : ∀ y, y < L.length → pN L y < y
theorem treeF {L : List NdV} (h : TreeOk L) (h0 : 0 < L.length) : ∃ n k, TreeF L n k := by
  obtain ⟨n, k, e⟩ := tree_forest h h0
  have hlen : L.length = (Ft.cons n k .nil).sz := by
    conv => lhs; rw [e]
    rw [Ft.fl_len]
  have hin : InL L (Ft.cons n k .nil) 0 (-1) := by
    have := InL.root (Ft.cons n k .nil)
    rw [← e] at this
    exact this
  have hout : OutL L (Ft.cons n k .nil) 0 := by
    have := OutL.root (Ft.cons n k .nil)
    rw [← e] at this
    exact this
  have ht := ht_of (fun y hy => (h.2 y hy).2.2) 0 hin (Int.le_refl _) (by omega) (fun _ => rfl) (fun q => absurd q (by decide)) (by decide)
  refine ⟨n, k, e, good_of (fun y hy => ⟨(h.2 y hy).1, (h.2 y hy).2.1⟩) hin, by omega, by have := h.1.1; omega, fun q => ?_, hlen, hin, hout, fun y hy => ?_⟩
  · have h1 := (h.2 0 h0).2.1
    have h2 : (decide (pN L 0 = -1) && tgB L 0) = true := h1
    rw [Bool.and_eq_true] at h2
    have h3 := h2.2
    unfold tgB at h3
    rw [hin.1.2, bytesEq_eq] at h3
    have h4 : (setP n (-1)).tag.data.toList = [] := q
    rw [h4] at h3
    cases h3
  · exact (InL.par hin (Int.le_refl _) (by omega) y (Nat.zero_le _) (by omega)).2.2
theorem Sy.prt_all (L : List NdV) (hl : L.length ≤ 1024) (hup : ∀ y, y < L.length → pN L y < y) (b w : ByteArray) (hb : b.size ≤ 100) (hw : w.size ≤ 100) : ∀ (F : Ft) (i : Nat) (p : Int), InL L F i p → -1 ≤ p → p < i → OutL L F i → F.good → i + F.sz ≤ L.length →
    ∀ x ∈ rts b.data.toList w.data.toList F i, CallTo Try.prog 10 [nview L, int x.1, .lit (.string b), .lit (.string w)] M0 fun v _ => v = .lit (.string ⟨⟨x.2⟩⟩) := by
  intro F
  induction F with
  | nil => intro i p h h0 h1 ho hg hs x hx; cases hx
  | cons n k nx ihk ihn =>
    intro i p h h0 h1 ho hg hs x hx
    have hs' := hs
    simp only [Ft.sz] at hs'
    have hall := h
    obtain ⟨⟨g1, g2⟩, g3, g4⟩ := h
    rcases List.mem_cons.1 hx with hx | hx
    · subst hx
      have ik := ihk (i + 1) (i : Nat) g3 (by omega) (by omega) (OutL.kid hall h0 h1 ho) hg.2.1 (by omega)
      have hkids := kids_are b.data.toList w.data.toList hall h0 h1 ho hup (by omega)
      have eN : ndN L (i : Nat) = setP n p := g2
      have hT := allP_rts b.data.toList w.data.toList (look (rts b.data.toList w.data.toList k (i + 1))) k (i + 1) (fun x hx => look_rts _ _ k (i + 1) x hx)
      have e : prN L b.data.toList w.data.toList (look (rts b.data.toList w.data.toList k (i + 1))) (i : Nat) = prOne b.data.toList n k (k.pr b.data.toList w.data.toList) := by
        unfold prN prOne
        rw [eN, hkids, hT]
        have c : ((rts b.data.toList w.data.toList k (i + 1)).map Prod.fst).length = 0 ↔ k.isN = true := rts_none _ _ _ _
        by_cases ck : k.isN = true
        · rw [if_pos (c.2 ck), if_pos ck]; rfl
        · rw [if_neg (fun q => ck (c.1 q)), if_neg ck]; rfl
      have hlen := prOne_le (b := b.data.toList) (k := k) (t := k.pr b.data.toList w.data.toList) hg.1.1
      have hlk := Ft.pr_le b.data.toList w.data.toList k hg.2.1
      have hm : k.sz * (2710 + 3 * b.data.toList.length + w.data.toList.length) ≤ 1024 * 3200 := Nat.mul_le_mul (by omega) (by rw [← size_toList, ← size_toList]; omega)
      have hbz : b.data.toList.length ≤ 100 := by rw [← size_toList]; exact hb
      have hhead : (headL n).length ≤ 10000000 ∧ n.cls.length ≤ 1000 ∧ n.atts.length ≤ 1000 := by
        by_cases ht : n.tag.data.toList = []
        · obtain ⟨t1, t2, t3, t4⟩ := nd_words hg.1.1 ht
          rw [t2, t3]
          unfold headL idL
          rw [ht, t1, if_pos rfl, t2, t3]
          exact ⟨Nat.zero_le _, Nat.zero_le _, Nat.zero_le _⟩
        · have q1 := headL_le (nd_elem hg.1.1 ht)
          obtain ⟨_, q2, _⟩ := elem_mk (nd_elem hg.1.1 ht)
          exact ⟨by omega, by have := q2.cls.1; omega, by have := q2.ats.1; omega⟩
      have key := Sy.prt_t L (i : Nat) b w ⟨look (rts b.data.toList w.data.toList k (i + 1)), fun y => ∃ x ∈ rts b.data.toList w.data.toList k (i + 1), x.1 = y⟩ ⟨fun y ⟨x, hx, hy⟩ => by
        subst hy
        have h2 := ik x hx
        rw [← look_rts b.data.toList w.data.toList k (i + 1) x hx] at h2
        exact h2⟩ ⟨⟨by omega, by rw [inR_t]; omega⟩, by rw [eN]; exact ⟨hhead.2.1, hhead.2.2⟩, by rw [eN]; exact hhead.1, fun y hy => by
          rw [hkids] at hy
          obtain ⟨x, hx, rfl⟩ := List.mem_map.1 hy
          exact ⟨x, hx, rfl⟩, by
          show (prN L b.data.toList w.data.toList (look (rts b.data.toList w.data.toList k (i + 1))) (i : Nat)).length ≤ _
          rw [e]
          omega⟩
      change CallTo _ _ _ _ (fun v _ => v = .lit (.string ⟨⟨prN L b.data.toList w.data.toList (look (rts b.data.toList w.data.toList k (i + 1))) (i : Nat)⟩⟩)) at key
      rw [e] at key
      exact key
    · exact ihn (i + 1 + k.sz) p g4 h0 (by omega) (OutL.next hall h0 h1 ho) hg.2.2 (by omega) x hx
theorem Sy.print_tree {L : List NdV} {n : NdV} {k : Ft} (h : TreeF L n k) (b w : ByteArray) (hb : b.size ≤ 100) (hw : w.size ≤ 100) : CallTo Try.prog 10 [nview L, int 0, .lit (.string b), .lit (.string w)] M0 fun v _ => v = .lit (.string ⟨⟨(Ft.cons n k .nil).pr b.data.toList w.data.toList⟩⟩) := by
  have := Sy.prt_all L (by rw [h.len]; exact h.sz) h.up b w hb hw (Ft.cons n k .nil) 0 (-1) h.lies (Int.le_refl _) (by omega) h.out h.good (by rw [h.len]; omega) _ (List.mem_cons_self ..)
  have e : (Ft.cons n k .nil).pr b.data.toList w.data.toList = prOne b.data.toList n k (k.pr b.data.toList w.data.toList) := by
    show _ ++ [] = _
    rw [List.append_nil]
  rw [e]
  exact this
end Go.Proofs.Ytglkdhmikpejnaa
namespace Go.Proofs.Ytglkdhmikpejnaa
open Go Go.RowKit Pl Sy
def ckN (ns : List NdV) : Nat → Int → Int
  | 0, _ => 0
  | m + 1, k => if ndB (ndN ns k) = true then (if stdB ns k = true then (if leI (depI ns k) 64 = true then ckN ns m (k + 1) else 31) else 34) else 34
def ckI (ns : List NdV) : Int := if eqI ns.length 0 = true then 34 else if leI ns.length 1024 = true then ckN ns ns.length 0 else 32
def NsOk (ns : List NdV) : Prop := ns.length ≤ 17592186044416 ∧ ∀ n ∈ ns, n.Ok
theorem ckN_ok {ns : List NdV} : ∀ (m : Nat) (k : Int), ckN ns m k = 0 → ∀ y, k ≤ y → y < k + m → ndB (ndN ns y) = true ∧ stdB ns y = true ∧ depI ns y ≤ 64
  | 0, k, h, y, h1, h2 => by omega
  | m + 1, k, h, y, h1, h2 => by
    rw [ckN] at h
    split at h
    · rename_i q1
      split at h
      · rename_i q2
        split at h
        · rename_i q3
          by_cases c : y = k
          · subst c
            exact ⟨q1, q2, by rw [leI_t] at q3; exact q3⟩
          · exact ckN_ok m (k + 1) h y (by omega) (by omega)
        · cases h
      · cases h
    · cases h
theorem ckI_ok {ns : List NdV} (hn : NsOk ns) (h : ckI ns = 0) : TreeOk ns ∧ 0 < ns.length := by
  unfold ckI at h
  split at h
  · cases h
  · rename_i q
    rw [eqI_t] at q
    split at h
    · rename_i q2
      rw [leI_t] at q2
      refine ⟨⟨⟨by omega, hn.2⟩, fun k hk => ckN_ok ns.length 0 h k (by omega) (by omega)⟩, by omega⟩
    · cases h
namespace Sy
abbrev ccF (ns : List NdV) (e k : Int) : Fr := (some ((@AV.view (ns).length 6 (@ndcell ns))) :: none :: some (int e) :: some (int k) :: (nn28 []))
abbrev ccE (e : Int) : Fr := (none :: none :: some (int e) :: (nn29 []))
end Sy
theorem Sy.cc_loop (ns : List NdV) (hO : NsOk ns) (hl : ns.length ≤ 1024) : ∀ (m : Nat) (k : Int), 0 ≤ k → k + m = ns.length →
    LoopTo Try.prog (theBody Try.prog 8 7) (m + 1) (ccF ns 0 k) M0 fun ex F M => M = M0 ∧ ((ckN ns m k = 0 ∧ ex = .exit 0 ∧ ∃ j, F = ccF ns 0 j) ∨ (ckN ns m k ≠ 0 ∧ ex = .ret ∧ ∃ j, F = ccF ns (ckN ns m k) j)) := by
  intro m
  induction m with
  | zero =>
    intro k h1 h2
    refine roundL [cRgt (ndN ns k), cStd ns, cDep ns] [] 400 30 8 7 Try.func8 rfl (by kernel_rfl) (true :: false :: true :: true :: (ff28 [])) (.br (.yes (.yes (.br (.auto 1 (.yes (.auto 1 (.br .done (.yes (.br .done .done)))))) (.auto 4 .done)))) .done) (let e1 := (@Value.tuple (@Array.mk _ [])); let e2 := (@AV.view (ns).length 6 (@ndcell ns)); let e3 := (@isSo (@And ((@HAppend.hAppend _ _ _ _ (@HAppend.hAppend _ _ _ _ [] [e2, (int k)]) []) = [e2, (int k)]) (@And ((ns).length ≤ 17592186044416) ((@inR k (ns).length) = true)))); let e4 := (@Mem.mk 0 0 []); (.fork (!(leI (((ns).length : Nat) : Int) k)) (.need (@inR k (ns).length) (.need (@isSo (@And ((@HAppend.hAppend _ _ _ _ (@HAppend.hAppend _ _ _ _ [] [(@AV.agg [(@ndcell ns (k).toNat 0), (@ndcell ns (k).toNat 1), (@ndcell ns (k).toNat 2), (@ndcell ns (k).toNat 3), (@ndcell ns (k).toNat 4), (@ndcell ns (k).toNat 5)])]) []) = [(@AV.agg [(int ((@ndN ns k)).par), (@AV.lit (@Value.string ((@ndN ns k)).tag)), (@AV.lit (@Value.string ((@ndN ns k)).id)), (@AV.view (((@ndN ns k)).cls).length 1 (fun y0 => (fun y1 => (@AV.lit ([(@Value.string (((@ndN ns k)).cls.getD y0 (@ByteArray.mk (@Array.mk _ []))))].getD y1 e1))))), (@AV.view (((@ndN ns k)).atts).length 2 (fun y0 => (fun y1 => (@AV.lit ([(@Value.string ((((@ndN ns k)).atts.getD y0 attrNone)).name), (@Value.string ((((@ndN ns k)).atts.getD y0 attrNone)).value)].getD y1 e1))))), (@AV.lit (@Value.string ((@ndN ns k)).text))])]) (@And ((@ByteArray.size ((@ndN ns k)).tag) ≤ 9223372036854775807) (@And ((@ByteArray.size ((@ndN ns k)).id) ≤ 9223372036854775807) (@And (@And ((((@ndN ns k)).cls).length ≤ 17592186044416) (∀ (s : ByteArray), s ∈ (ndN ns k).cls → s.size ≤ maxLen)) (@And (@And ((((@ndN ns k)).atts).length ≤ 17592186044416) (∀ (t : AttrV), t ∈ (ndN ns k).atts → t.Ok)) ((@ByteArray.size ((@ndN ns k)).text) ≤ 9223372036854775807))))))) (.fork (!(!(@ndB (@ndN ns k)))) (.need e3 (.fork (!(@stdB ns k)) (.leaf (Ex.ret, (((some e2) :: none :: (some (int (34 : Int))) :: (some (int k)) :: (nn28 [])), e4))) (.need e3 (.fork (!(leI (@depI ns k) (64 : Int))) (.leaf (Ex.ret, (((some e2) :: none :: (some (int (31 : Int))) :: (some (int k)) :: (nn28 [])), e4))) (.leaf (Ex.norm, (((some e2) :: none :: (some (int (0 : Int))) :: (some (int (w64 (k + (1 : Int))))) :: (nn28 [])), e4))))))) (.leaf (Ex.ret, (((some e2) :: none :: (some (int (34 : Int))) :: (some (int k)) :: (nn28 [])), e4)))))) (.leaf ((@Ex.exit 0), (((some e2) :: none :: (some (int (0 : Int))) :: (some (int k)) :: (nn28 [])), e4))))) (by kernel_rfl) ?_
    refine fork_ok (fun h => ?_) (fun h => ?_)
    · simp only [Bool.not_eq_true', Bool.not_eq_false', leI_t, leI_f, eqI_t, eqI_f, inR_t, inR_f, isSo_t, isSo_f] at h
      omega
    · exact ⟨rfl, .inl ⟨rfl, rfl, k, rfl⟩⟩
  | succ m ih =>
    intro k h1 h2
    have hr : inR k ns.length = true := by rw [inR_t]; omega
    have hk : (ndN ns k).Ok := hO.2 _ (getD_mem ns k _ h1 (by omega))
    have hw : w64 (k + 1) = k + 1 := w64_in (by omega)
    have e : ckN ns (m + 1) k = if ndB (ndN ns k) = true then (if stdB ns k = true then (if leI (depI ns k) 64 = true then ckN ns m (k + 1) else 31) else 34) else 34 := rfl
    refine roundL [cRgt (ndN ns k), cStd ns, cDep ns] [] 400 30 8 7 Try.func8 rfl (by kernel_rfl) (true :: false :: true :: true :: (ff28 [])) (.br (.yes (.yes (.br (.auto 1 (.yes (.auto 1 (.br .done (.yes (.br .done .done)))))) (.auto 4 .done)))) .done) (let e1 := (@Value.tuple (@Array.mk _ [])); let e2 := (@AV.view (ns).length 6 (@ndcell ns)); let e3 := (@isSo (@And ((@HAppend.hAppend _ _ _ _ (@HAppend.hAppend _ _ _ _ [] [e2, (int k)]) []) = [e2, (int k)]) (@And ((ns).length ≤ 17592186044416) ((@inR k (ns).length) = true)))); let e4 := (@Mem.mk 0 0 []); (.fork (!(leI (((ns).length : Nat) : Int) k)) (.need (@inR k (ns).length) (.need (@isSo (@And ((@HAppend.hAppend _ _ _ _ (@HAppend.hAppend _ _ _ _ [] [(@AV.agg [(@ndcell ns (k).toNat 0), (@ndcell ns (k).toNat 1), (@ndcell ns (k).toNat 2), (@ndcell ns (k).toNat 3), (@ndcell ns (k).toNat 4), (@ndcell ns (k).toNat 5)])]) []) = [(@AV.agg [(int ((@ndN ns k)).par), (@AV.lit (@Value.string ((@ndN ns k)).tag)), (@AV.lit (@Value.string ((@ndN ns k)).id)), (@AV.view (((@ndN ns k)).cls).length 1 (fun y0 => (fun y1 => (@AV.lit ([(@Value.string (((@ndN ns k)).cls.getD y0 (@ByteArray.mk (@Array.mk _ []))))].getD y1 e1))))), (@AV.view (((@ndN ns k)).atts).length 2 (fun y0 => (fun y1 => (@AV.lit ([(@Value.string ((((@ndN ns k)).atts.getD y0 attrNone)).name), (@Value.string ((((@ndN ns k)).atts.getD y0 attrNone)).value)].getD y1 e1))))), (@AV.lit (@Value.string ((@ndN ns k)).text))])]) (@And ((@ByteArray.size ((@ndN ns k)).tag) ≤ 9223372036854775807) (@And ((@ByteArray.size ((@ndN ns k)).id) ≤ 9223372036854775807) (@And (@And ((((@ndN ns k)).cls).length ≤ 17592186044416) (∀ (s : ByteArray), s ∈ (ndN ns k).cls → s.size ≤ maxLen)) (@And (@And ((((@ndN ns k)).atts).length ≤ 17592186044416) (∀ (t : AttrV), t ∈ (ndN ns k).atts → t.Ok)) ((@ByteArray.size ((@ndN ns k)).text) ≤ 9223372036854775807))))))) (.fork (!(!(@ndB (@ndN ns k)))) (.need e3 (.fork (!(@stdB ns k)) (.leaf (Ex.ret, (((some e2) :: none :: (some (int (34 : Int))) :: (some (int k)) :: (nn28 [])), e4))) (.need e3 (.fork (!(leI (@depI ns k) (64 : Int))) (.leaf (Ex.ret, (((some e2) :: none :: (some (int (31 : Int))) :: (some (int k)) :: (nn28 [])), e4))) (.leaf (Ex.norm, (((some e2) :: none :: (some (int (0 : Int))) :: (some (int (w64 (k + (1 : Int))))) :: (nn28 [])), e4))))))) (.leaf (Ex.ret, (((some e2) :: none :: (some (int (34 : Int))) :: (some (int k)) :: (nn28 [])), e4)))))) (.leaf ((@Ex.exit 0), (((some e2) :: none :: (some (int (0 : Int))) :: (some (int k)) :: (nn28 [])), e4))))) (by kernel_rfl) ?_
    refine fork_ok (fun h => need_t hr (need_so ⟨rfl, hk⟩ (fork_ok (fun q => ?_) (fun q => ?_)))) (fun h => ?_)
    · have q : ndB (ndN ns k) = true := by simpa using q
      rw [if_pos q] at e
      refine need_so ⟨rfl, hO.1, hr⟩ (fork_ok (fun q2 => ?_) (fun q2 => need_so ⟨rfl, hO.1, hr⟩ (fork_ok (fun q3 => ?_) (fun q3 => ?_))))
      · have q2 : stdB ns k = false := by simpa using q2
        rw [q2, if_neg (by decide)] at e
        rw [e]
        exact ⟨rfl, .inr ⟨by decide, rfl, k, rfl⟩⟩
      · have q2 : stdB ns k = true := by simpa using q2
        have q3 : leI (depI ns k) 64 = false := by simpa using q3
        rw [q2, if_pos rfl, q3, if_neg (by decide)] at e
        rw [e]
        exact ⟨rfl, .inr ⟨by decide, rfl, k, rfl⟩⟩
      · have q2 : stdB ns k = true := by simpa using q2
        have q3 : leI (depI ns k) 64 = true := by simpa using q3
        rw [q2, if_pos rfl, q3, if_pos rfl] at e
        rw [e, hw]
        exact ih (k + 1) (by omega) (by omega)
    · have q : ndB (ndN ns k) = false := by simpa using q
      rw [q, if_neg (by decide)] at e
      rw [e]
      exact ⟨rfl, .inr ⟨by decide, rfl, k, rfl⟩⟩
    · simp only [Bool.not_eq_true', Bool.not_eq_false', leI_t, leI_f, eqI_t, eqI_f, inR_t, inR_f, isSo_t, isSo_f] at h
      omega
namespace Sy
noncomputable abbrev lpCc (ns : List NdV) : Lp Try.prog where
  f := 8
  key := 7
  S := formS (fun _ _ => some ()) (fun _ => ccF ns 0 0) (fun _ => M0) (fun _ => NsOk ns ∧ ns.length ≤ 1024) (fun _ => .fork (eqI (ckN ns ns.length 0) 0) (.leaf (.exit 0, ccE 0, M0)) (.leaf (.ret, ccE (ckN ns ns.length 0), M0))) (true :: false :: true :: true :: (ff28 []))
  one := by kernel_rfl
  ok := formS_ok fun _ ⟨h1, h2⟩ => by
    refine ⟨ns.length + 1, ?_⟩
    refine ((cc_loop ns h1 h2 ns.length 0 (Int.le_refl 0) (by omega)).out (false :: false :: true :: (ff29 []))).mono fun ex F M hg => ?_
    obtain ⟨F0, ⟨rfl, hg⟩, rfl⟩ := hg
    rcases hg with ⟨q1, rfl, j, rfl⟩ | ⟨q1, rfl, j, rfl⟩
    · exact .inl ⟨by rw [eqI_t]; exact q1, rfl⟩
    · exact .inr ⟨by rw [eqI_f]; exact q1, rfl⟩
end Sy
theorem Sy.cck_t (ns : List NdV) (h : NsOk ns) : CallTo Try.prog 8 [nview ns] M0 fun x _ => x = int (ckI ns) :=
  toV [] [lpCc ns] 400 30 (.br .done (.br .done (.br .done .done))) (let e1 := (some (@AV.view (ns).length 6 (@ndcell ns))); let e2 := (some (int (0 : Int))); let e3 := (@ckN ns (ns).length (0 : Int)); (.fork (eqI (((ns).length : Nat) : Int) (0 : Int)) (.leaf (int (34 : Int))) (.fork (!(leI (((ns).length : Nat) : Int) (1024 : Int))) (.leaf (int (32 : Int))) (.need (@isSo (@And ((e1 :: (none :: e2 :: e2 :: (nn28 []))) = (e1 :: none :: e2 :: e2 :: (nn28 []))) ((@Mem.mk 0 0 []) = M0))) (.need (@isSo (@And (@NsOk ns) ((ns).length ≤ 1024))) (.fork (eqI e3 (0 : Int)) (.leaf (int (0 : Int))) (.leaf (int e3)))))))) (by kernel_rfl) (by
    unfold ckI
    refine fork_ok (fun q => ?_) (fun q => fork_ok (fun q2 => ?_) (fun q2 => need_so ⟨rfl, rfl⟩ (need_so ⟨h, ?_⟩ (fork_ok (fun q3 => ?_) (fun q3 => ?_)))))
    · rw [if_pos q]; rfl
    · have q2 : leI ns.length 1024 = false := by simpa using q2
      rw [if_neg (by rw [q]; decide), q2]; rfl
    · have q2 : leI ns.length 1024 = true := by simpa using q2
      rw [leI_t] at q2
      omega
    · have q2 : leI ns.length 1024 = true := by simpa using q2
      rw [eqI_t] at q3
      rw [if_neg (by rw [q]; decide), if_pos q2, q3]; rfl
    · have q2 : leI ns.length 1024 = true := by simpa using q2
      rw [if_neg (by rw [q]; decide), if_pos q2]; rfl)
end Go.Proofs.Ytglkdhmikpejnaa
namespace Go.Proofs.Ytglkdhmikpejnaa
open Go Go.RowKit Pl Sy
def andI (b : Nat) (n : Int) : Int := IntKind.i64.wrap ((Nat.land (n % 18446744073709551616).toNat b : Nat) : Int)
theorem andI_in (b : Nat) (n : Int) (hb : b ≤ 1000000) : 0 ≤ andI b n ∧ andI b n ≤ b := by
  have h : Nat.land (n % 18446744073709551616).toNat b ≤ b := Nat.and_le_right
  unfold andI
  generalize Nat.land (n % 18446744073709551616).toNat b = x at *
  rw [show IntKind.i64.wrap (x : Int) = (x : Int) from IntWalk.i64_in _ (by omega)]
  omega
theorem Sy.law_true11 {f : FuncId} {args : List AV} {us : List Value} {W : World} (h : CallTo Try.prog f args M0 fun v _ => v = boo true) (hr : rels (rho0 W) args us) : Calls Try.prog f us.toArray W fun e w' => e = .returned (.bool true) ∧ Below W.heap.size W w' :=
  ((h.mono (H := fun v _ => ∃ u, v = .lit u ∧ u = .bool true) fun v _ e => ⟨_, e, rfl⟩).calls hr).mono fun e w' ⟨⟨u, h1, h2⟩, h3⟩ => ⟨by rw [h1, h2], h3⟩
end Go.Proofs.Ytglkdhmikpejnaa
