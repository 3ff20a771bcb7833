/-
  Lemmas for MarkupDeep, part 3; no conditions.
-/
import Derived.Deep.Heap
import Derived.ScopeJumps
import Derived.Test.YtglkdhmikpejnaaMdpB
set_option linter.unusedVariables false
set_option linter.unusedSimpArgs false
set_option linter.unusedSectionVars false
namespace Go.Proofs.Ytglkdhmikpejnaa
open Go Go.RowKit Pl Sy
def strCells (y : ByteArray) : List Value := [.string y]
def attrNone : AttrV := ⟨⟨#[]⟩, ⟨#[]⟩⟩
abbrev Sy.cview (l : List ByteArray) : AV := viewOf strCells ⟨#[]⟩ 1 l
abbrev Sy.aview (l : List AttrV) : AV := viewOf AttrV.cells attrNone 2 l
def lacksB (s : ByteArray) : Bool := !nameL s.data.toList
def oddB (t : AttrV) : Bool := !nameL t.name.data.toList || !textL t.value.data.toList
noncomputable abbrev Sy.cName : Con Try.prog := str1 63 (fun s => boo (nameL s.data.toList)) (fun s => s.size ≤ maxLen) (fun _ => trivial) fun s h => old (us := [.string s]) (fun w => name_p s w h)
noncomputable abbrev Sy.cText : Con Try.prog := str1 59 (fun s => boo (textL s.data.toList)) (fun s => s.size ≤ maxLen) (fun _ => trivial) fun s h => old (us := [.string s]) (fun w => text_p s w h)
theorem Sy.lacks_t (s : ByteArray) (h : s.size ≤ maxLen) : CallTo Try.prog 65 [.lit (.string s)] M0 fun v _ => v = boo (lacksB s) :=
  toV [cName] [] 400 30 (.yes .done) (.need (@isSo ((@ByteArray.size s) ≤ 9223372036854775807)) (.leaf (boo (!(@Pl.nameL (@Array.toList _ (@ByteArray.data s))))))) (by kernel_rfl) (need_so h rfl)
noncomputable abbrev Sy.cLacks : Con Try.prog := str1 65 (fun s => boo (lacksB s)) (fun s => s.size ≤ maxLen) (fun _ => trivial) lacks_t
abbrev Sy.attrA (t : AttrV) : AV := .agg [.lit (.string t.name), .lit (.string t.value)]
def AttrV.Ok (t : AttrV) : Prop := t.name.size ≤ maxLen ∧ t.value.size ≤ maxLen
theorem Sy.odd_t (t : AttrV) (h : t.Ok) : CallTo Try.prog 67 [attrA t] M0 fun v _ => v = boo (oddB t) :=
  toV [cName, cText] [] 400 30 (.yes (.br (.auto 1 (.yes (.auto 1 .done))) (.auto 3 .done))) (.need (@isSo ((@ByteArray.size (t).name) ≤ 9223372036854775807)) (.fork (!(!(@Pl.nameL (@Array.toList _ (@ByteArray.data (t).name))))) (.need (@isSo ((@ByteArray.size (t).value) ≤ 9223372036854775807)) (.leaf (boo (!(@Pl.textL (@Array.toList _ (@ByteArray.data (t).value))))))) (.leaf (boo true)))) (by kernel_rfl) (by
    unfold oddB
    refine need_so h.1 (fork_ok (fun h1 => need_so h.2 ?_) (fun h1 => ?_))
    · have h1' : nameL t.name.data.toList = true := by simpa using h1
      rw [h1']; exact rfl
    · have h1' : nameL t.name.data.toList = false := by simpa using h1
      rw [h1']; exact rfl)
noncomputable abbrev Sy.cOdd : Con Try.prog := atX 67 (fun args => match args with | [.agg [.lit (.string a), .lit (.string c)]] => some (⟨a, c⟩ : AttrV) | _ => none) (fun t => [attrA t]) (fun t => boo (oddB t)) AttrV.Ok fun t h => ⟨⟨⟨⟨trivial, trivial, trivial⟩, trivial⟩, trivial⟩, odd_t t h⟩
namespace Sy
abbrev csF (xs : List ByteArray) (k j : Int) : Fr := (some ((@AV.view (xs).length 1 (fun x115417 => (fun x92921 => (@AV.lit ([(@Value.string (xs.getD x115417 (@ByteArray.mk (@Array.mk _ []))))].getD x92921 (@Value.tuple (@Array.mk _ [])))))))) :: some ((@AV.fn (@Fn.func 65) [] [])) :: none :: none :: some (int j) :: none :: some ((@AV.view (xs).length 1 (fun x105836 => (fun x247643 => (@AV.lit ([(@Value.string (xs.getD x105836 (@ByteArray.mk (@Array.mk _ []))))].getD x247643 (@Value.tuple (@Array.mk _ [])))))))) :: some ((int (((xs).length : Nat) : Int))) :: some (int k) :: (nn10 []))
abbrev ctF (xs : List AttrV) (k j : Int) : Fr := (some ((@AV.view (xs).length 2 (fun x115417 => (fun x92921 => (@AV.lit ([(@Value.string ((xs.getD x115417 attrNone)).name), (@Value.string ((xs.getD x115417 attrNone)).value)].getD x92921 (@Value.tuple (@Array.mk _ [])))))))) :: some ((@AV.fn (@Fn.func 67) [] [])) :: none :: none :: some (int j) :: none :: some ((@AV.view (xs).length 2 (fun x105836 => (fun x247643 => (@AV.lit ([(@Value.string ((xs.getD x105836 attrNone)).name), (@Value.string ((xs.getD x105836 attrNone)).value)].getD x247643 (@Value.tuple (@Array.mk _ [])))))))) :: some ((int (((xs).length : Nat) : Int))) :: some (int k) :: (nn10 []))
abbrev csE (xs : List ByteArray) (j : Int) : Fr := (some ((@AV.view (xs).length 1 (fun x115417 => (fun x92921 => (@AV.lit ([(@Value.string (xs.getD x115417 (@ByteArray.mk (@Array.mk _ []))))].getD x92921 (@Value.tuple (@Array.mk _ [])))))))) :: some ((@AV.fn (@Fn.func 65) [] [])) :: none :: none :: some (int j) :: none :: some ((@AV.view (xs).length 1 (fun x105836 => (fun x247643 => (@AV.lit ([(@Value.string (xs.getD x105836 (@ByteArray.mk (@Array.mk _ []))))].getD x247643 (@Value.tuple (@Array.mk _ [])))))))) :: some ((int (((xs).length : Nat) : Int))) :: (nn11 []))
abbrev ctE (xs : List AttrV) (j : Int) : Fr := (some ((@AV.view (xs).length 2 (fun x115417 => (fun x92921 => (@AV.lit ([(@Value.string ((xs.getD x115417 attrNone)).name), (@Value.string ((xs.getD x115417 attrNone)).value)].getD x92921 (@Value.tuple (@Array.mk _ [])))))))) :: some ((@AV.fn (@Fn.func 67) [] [])) :: none :: none :: some (int j) :: none :: some ((@AV.view (xs).length 2 (fun x105836 => (fun x247643 => (@AV.lit ([(@Value.string ((xs.getD x105836 attrNone)).name), (@Value.string ((xs.getD x105836 attrNone)).value)].getD x247643 (@Value.tuple (@Array.mk _ [])))))))) :: some ((int (((xs).length : Nat) : Int))) :: (nn11 []))
end Sy
def StrsOk (xs : List ByteArray) : Prop := xs.length ≤ 17592186044416 ∧ ∀ s ∈ xs, s.size ≤ maxLen
def AttrsOk (xs : List AttrV) : Prop := xs.length ≤ 17592186044416 ∧ ∀ t ∈ xs, t.Ok
theorem Sy.cs_scan (xs : List ByteArray) (hx : StrsOk xs) : LoopTo Try.prog (theBody Try.prog 75 3) (xs.length + 1) (csF xs 0 0) M0 fun ex F' M' => M' = M0 ∧ ((0 ≤ idxF lacksB xs 0 ∧ ex = .ret ∧ F' = csF xs (idxF lacksB xs 0) (idxF lacksB xs 0)) ∨ (idxF lacksB xs 0 = -1 ∧ ex = .exit 0 ∧ F' = csF xs xs.length 0)) :=
  scan xs lacksB ⟨#[]⟩ (fun k => csF xs k 0) (fun k => csF xs k k) M0 fun k n G h0 h1 c1 c2 c3 => by
    refine roundL [cLacks] [] 400 30 75 3 Try.func75 rfl (by kernel_rfl) (true :: true :: false :: false :: true :: false :: true :: true :: true :: (ff10 [])) (.br (.yes (.yes (.br .done .done))) .done) (let e1 := (@ByteArray.mk (@Array.mk _ [])); let e2 := (some (@AV.view (xs).length 1 (fun y0 => (fun y1 => (@AV.lit ([(@Value.string (xs.getD y0 e1))].getD y1 (@Value.tuple (@Array.mk _ [])))))))); let e3 := (some (@AV.fn (@Fn.func 65) [] [])); let e4 := (some (int (((xs).length : Nat) : Int))); (.fork (!(leI (((xs).length : Nat) : Int) k)) (.need (@inR k (xs).length) (.need (@isSo ((@ByteArray.size (xs.getD (k).toNat e1)) ≤ 9223372036854775807)) (.fork (@lacksB (xs.getD (k).toNat e1)) (.leaf (Ex.ret, ((e2 :: e3 :: none :: none :: (some (int k)) :: none :: e2 :: e4 :: (some (int k)) :: (nn10 [])), (@Mem.mk 0 0 [])))) (.leaf (Ex.norm, ((e2 :: e3 :: none :: none :: (some (int (0 : Int))) :: none :: e2 :: e4 :: (some (int (w64 (k + (1 : Int))))) :: (nn10 [])), (@Mem.mk 0 0 []))))))) (.leaf ((@Ex.exit 0), ((e2 :: e3 :: none :: none :: (some (int (0 : Int))) :: none :: e2 :: e4 :: (some (int k)) :: (nn10 [])), (@Mem.mk 0 0 [])))))) (by kernel_rfl) ?_
    have hl := hx.1
    refine fork_ok (fun h => ?_) (fun h => ?_)
    · simp only [Bool.not_eq_true', Bool.not_eq_false', leI_t, leI_f, eqI_t, eqI_f, inR_t, inR_f, isSo_t, isSo_f] at h
      have hr : inR k xs.length = true := by rw [inR_t]; omega
      refine need_t hr (need_so (hx.2 _ (getD_mem xs k _ h0 (by omega))) (fork_ok (fun h2 => c2 (by omega) h2) (fun h2 => ?_)))
      rw [w64_in (r := k + 1) (by omega)]
      exact c1 (by omega) h2
    · simp only [Bool.not_eq_true', Bool.not_eq_false', leI_t, leI_f, eqI_t, eqI_f, inR_t, inR_f, isSo_t, isSo_f] at h
      exact c3 (by omega)
theorem Sy.ct_scan (xs : List AttrV) (hx : AttrsOk xs) : LoopTo Try.prog (theBody Try.prog 76 3) (xs.length + 1) (ctF xs 0 0) M0 fun ex F' M' => M' = M0 ∧ ((0 ≤ idxF oddB xs 0 ∧ ex = .ret ∧ F' = ctF xs (idxF oddB xs 0) (idxF oddB xs 0)) ∨ (idxF oddB xs 0 = -1 ∧ ex = .exit 0 ∧ F' = ctF xs xs.length 0)) :=
  scan xs oddB attrNone (fun k => ctF xs k 0) (fun k => ctF xs k k) M0 fun k n G h0 h1 c1 c2 c3 => by
    refine roundL [cOdd] [] 400 30 76 3 Try.func76 rfl (by kernel_rfl) (true :: true :: false :: false :: true :: false :: true :: true :: true :: (ff10 [])) (.br (.yes (.yes (.br .done .done))) .done) (let e1 := (@AV.agg [(@AV.lit (@Value.string ((xs.getD (k).toNat attrNone)).name)), (@AV.lit (@Value.string ((xs.getD (k).toNat attrNone)).value))]); let e2 := (some (@AV.view (xs).length 2 (fun y0 => (fun y1 => (@AV.lit ([(@Value.string ((xs.getD y0 attrNone)).name), (@Value.string ((xs.getD y0 attrNone)).value)].getD y1 (@Value.tuple (@Array.mk _ [])))))))); let e3 := (some (@AV.fn (@Fn.func 67) [] [])); let e4 := (some (int (((xs).length : Nat) : Int))); (.fork (!(leI (((xs).length : Nat) : Int) k)) (.need (@inR k (xs).length) (.need (@isSo (@And ((@HAppend.hAppend _ _ _ _ (@HAppend.hAppend _ _ _ _ [] [e1]) []) = [e1]) (@And ((@ByteArray.size ((xs.getD (k).toNat attrNone)).name) ≤ 9223372036854775807) ((@ByteArray.size ((xs.getD (k).toNat attrNone)).value) ≤ 9223372036854775807)))) (.fork (@oddB (@AttrV.mk ((xs.getD (k).toNat attrNone)).name ((xs.getD (k).toNat attrNone)).value)) (.leaf (Ex.ret, ((e2 :: e3 :: none :: none :: (some (int k)) :: none :: e2 :: e4 :: (some (int k)) :: (nn10 [])), (@Mem.mk 0 0 [])))) (.leaf (Ex.norm, ((e2 :: e3 :: none :: none :: (some (int (0 : Int))) :: none :: e2 :: e4 :: (some (int (w64 (k + (1 : Int))))) :: (nn10 [])), (@Mem.mk 0 0 []))))))) (.leaf ((@Ex.exit 0), ((e2 :: e3 :: none :: none :: (some (int (0 : Int))) :: none :: e2 :: e4 :: (some (int k)) :: (nn10 [])), (@Mem.mk 0 0 [])))))) (by kernel_rfl) ?_
    have hl := hx.1
    refine fork_ok (fun h => ?_) (fun h => ?_)
    · simp only [Bool.not_eq_true', Bool.not_eq_false', leI_t, leI_f, eqI_t, eqI_f, inR_t, inR_f, isSo_t, isSo_f] at h
      have hr : inR k xs.length = true := by rw [inR_t]; omega
      refine need_t hr (need_so ⟨rfl, hx.2 _ (getD_mem xs k _ h0 (by omega))⟩ (fork_ok (fun h2 => c2 (by omega) h2) (fun h2 => ?_)))
      rw [w64_in (r := k + 1) (by omega)]
      exact c1 (by omega) h2
    · simp only [Bool.not_eq_true', Bool.not_eq_false', leI_t, leI_f, eqI_t, eqI_f, inR_t, inR_f, isSo_t, isSo_f] at h
      exact c3 (by omega)
namespace Sy
noncomputable abbrev lpCs (xs : List ByteArray) : Lp Try.prog where
  f := 75
  key := 3
  S := formS (fun F M => slotI F 8) (fun k => csF xs k 0) (fun _ => M0) (fun k => StrsOk xs ∧ k = 0) (fun k => .fork (leI 0 (idxF lacksB xs 0)) (.leaf (.ret, csE xs (idxF lacksB xs 0), M0)) (.leaf (.exit 0, csE xs 0, M0))) (true :: true :: false :: false :: true :: false :: true :: true :: true :: (ff10 []))
  one := by kernel_rfl
  ok := formS_ok fun k ⟨h1, h2⟩ => by
    subst h2
    refine ⟨xs.length + 1, ?_⟩
    refine ((Sy.cs_scan xs h1).out (true :: true :: false :: false :: true :: false :: true :: true :: (ff11 []))).mono fun ex F M hg => ?_
    obtain ⟨F0, ⟨hM, hg⟩, rfl⟩ := hg
    rcases hg with ⟨q1, rfl, rfl⟩ | ⟨q1, rfl, rfl⟩
    · exact .inl ⟨by rw [leI_t]; exact q1, by rw [hM]; rfl⟩
    · exact .inr ⟨by rw [leI_f, q1]; omega, by rw [hM]; rfl⟩
noncomputable abbrev lpCt (xs : List AttrV) : Lp Try.prog where
  f := 76
  key := 3
  S := formS (fun F M => slotI F 8) (fun k => ctF xs k 0) (fun _ => M0) (fun k => AttrsOk xs ∧ k = 0) (fun k => .fork (leI 0 (idxF oddB xs 0)) (.leaf (.ret, ctE xs (idxF oddB xs 0), M0)) (.leaf (.exit 0, ctE xs 0, M0))) (true :: true :: false :: false :: true :: false :: true :: true :: true :: (ff10 []))
  one := by kernel_rfl
  ok := formS_ok fun k ⟨h1, h2⟩ => by
    subst h2
    refine ⟨xs.length + 1, ?_⟩
    refine ((Sy.ct_scan xs h1).out (true :: true :: false :: false :: true :: false :: true :: true :: (ff11 []))).mono fun ex F M hg => ?_
    obtain ⟨F0, ⟨hM, hg⟩, rfl⟩ := hg
    rcases hg with ⟨q1, rfl, rfl⟩ | ⟨q1, rfl, rfl⟩
    · exact .inl ⟨by rw [leI_t]; exact q1, by rw [hM]; rfl⟩
    · exact .inr ⟨by rw [leI_f, q1]; omega, by rw [hM]; rfl⟩
end Sy
def anyS (g : ByteArray → Bool) (xs : List ByteArray) : Bool := xs.any g
def anyT (g : AttrV → Bool) (xs : List AttrV) : Bool := xs.any g
theorem Sy.cfs_t (xs : List ByteArray) (h : StrsOk xs) : CallTo Try.prog 64 [cview xs, .fn (.func 65) [] []] M0 fun v _ => v = boo (anyS lacksB xs) :=
  toV [cLacks] [lpCs xs] 400 30 (.br .done .done) (let e1 := (some (@AV.view (xs).length 1 (fun y0 => (fun y1 => (@AV.lit ([(@Value.string (xs.getD y0 (@ByteArray.mk (@Array.mk _ []))))].getD y1 (@Value.tuple (@Array.mk _ [])))))))); let e2 := (some (@AV.fn (@Fn.func 65) [] [])); let e3 := (some (int (0 : Int))); let e4 := (some (int (((xs).length : Nat) : Int))); let e5 := (leI (0 : Int) (@Pl.idxF _ lacksB xs 0)); (.need (@isSo (@And ((e1 :: e2 :: (none :: none :: e3 :: none :: e1 :: e4 :: e3 :: (nn10 []))) = (e1 :: e2 :: none :: none :: e3 :: none :: e1 :: e4 :: e3 :: (nn10 []))) ((@Mem.mk 0 0 []) = M0))) (.need (@isSo (@And (@And ((xs).length ≤ 17592186044416) (∀ (s : ByteArray), s ∈ xs → s.size ≤ maxLen)) ((0 : Int) = (0 : Int)))) (.fork e5 (.leaf (boo e5)) (.leaf (boo false)))))) (by kernel_rfl) (by
    unfold anyS
    rw [← idxF_any lacksB xs 0]
    refine need_so ⟨rfl, rfl⟩ (need_so ⟨h, rfl⟩ (fork_ok (fun h1 => ?_) (fun h1 => ?_)))
    · rw [leI_eq]; exact rfl
    · rw [leI_eq] at h1; rw [h1]; exact rfl)
theorem Sy.cft_t (xs : List AttrV) (h : AttrsOk xs) : CallTo Try.prog 66 [aview xs, .fn (.func 67) [] []] M0 fun v _ => v = boo (anyT oddB xs) :=
  toV [cOdd] [lpCt xs] 400 30 (.br .done .done) (let e1 := (some (@AV.view (xs).length 2 (fun y0 => (fun y1 => (@AV.lit ([(@Value.string ((xs.getD y0 attrNone)).name), (@Value.string ((xs.getD y0 attrNone)).value)].getD y1 (@Value.tuple (@Array.mk _ [])))))))); let e2 := (some (@AV.fn (@Fn.func 67) [] [])); let e3 := (some (int (0 : Int))); let e4 := (some (int (((xs).length : Nat) : Int))); let e5 := (leI (0 : Int) (@Pl.idxF _ oddB xs 0)); (.need (@isSo (@And ((e1 :: e2 :: (none :: none :: e3 :: none :: e1 :: e4 :: e3 :: (nn10 []))) = (e1 :: e2 :: none :: none :: e3 :: none :: e1 :: e4 :: e3 :: (nn10 []))) ((@Mem.mk 0 0 []) = M0))) (.need (@isSo (@And (@And ((xs).length ≤ 17592186044416) (∀ (t : AttrV), t ∈ xs → t.Ok)) ((0 : Int) = (0 : Int)))) (.fork e5 (.leaf (boo e5)) (.leaf (boo false)))))) (by kernel_rfl) (by
    unfold anyT
    rw [← idxF_any oddB xs 0]
    refine need_so ⟨rfl, rfl⟩ (need_so ⟨h, rfl⟩ (fork_ok (fun h1 => ?_) (fun h1 => ?_)))
    · rw [leI_eq]; exact rfl
    · rw [leI_eq] at h1; rw [h1]; exact rfl)
noncomputable abbrev Sy.cAnyS (xs : List ByteArray) : Con Try.prog := at1 64 [cview xs, .fn (.func 65) [] []] (boo (anyS lacksB xs)) (StrsOk xs) fun h => ⟨⟨⟨viewOf_free strCells ⟨#[]⟩ 1 xs, ⟨trivial, trivial⟩, trivial⟩, trivial⟩, cfs_t xs h⟩
noncomputable abbrev Sy.cAnyT (xs : List AttrV) : Con Try.prog := at1 66 [aview xs, .fn (.func 67) [] []] (boo (anyT oddB xs)) (AttrsOk xs) fun h => ⟨⟨⟨viewOf_free AttrV.cells attrNone 2 xs, ⟨trivial, trivial⟩, trivial⟩, trivial⟩, cft_t xs h⟩
structure NdV where
  par : Int
  tag : ByteArray
  id : ByteArray
  cls : List ByteArray
  atts : List AttrV
  text : ByteArray
def ndNone : NdV := ⟨0, ⟨#[]⟩, ⟨#[]⟩, [], [], ⟨#[]⟩⟩
def NdV.Ok (n : NdV) : Prop := n.tag.size ≤ maxLen ∧ n.id.size ≤ maxLen ∧ StrsOk n.cls ∧ AttrsOk n.atts ∧ n.text.size ≤ maxLen
abbrev Sy.ndL (n : NdV) : List AV := [int n.par, .lit (.string n.tag), .lit (.string n.id), cview n.cls, aview n.atts, .lit (.string n.text)]
abbrev Sy.ndG (n : NdV) : AV := .agg (ndL n)
theorem Sy.ndG_free (n : NdV) : Free (ndG n) := ⟨trivial, trivial, trivial, viewOf_free strCells ⟨#[]⟩ 1 _, viewOf_free AttrV.cells attrNone 2 _, trivial, trivial⟩
def elemB (n : NdV) : Bool := nameL n.tag.data.toList && ((bytesEq n.id.data.toList [] || nameL n.id.data.toList) && (bytesEq n.text.data.toList [] && (leI n.cls.length 8 && (leI n.atts.length 8 && (!anyS lacksB n.cls && !anyT oddB n.atts)))))
theorem Sy.elm_t (n : NdV) (h : n.Ok) : CallTo Try.prog 45 [ndG n] M0 fun v _ => v = boo (elemB n) :=
  toV [cName, cAnyS n.cls, cAnyT n.atts] [] 400 30 (.yes (.br (.auto 2 (.br (.auto 1 (.yes (.auto 3 (.br (.auto 2 (.br .done (.br (.auto 3 (.br .done (.yes (.br (.auto 1 (.yes (.auto 1 .done))) (.auto 3 .done))))) (.auto 4 .done)))) (.auto 3 .done))))) (.auto 9 (.br .done (.br (.auto 3 (.br .done (.yes (.br (.auto 1 (.yes (.auto 1 .done))) (.auto 3 .done))))) (.auto 4 .done)))))) (.auto 13 .done))) (let e1 := (@Array.toList _ (@ByteArray.data (n).id)); let e2 := (@ByteArray.mk (@Array.mk _ [])); let e3 := (@Array.toList _ (@ByteArray.data e2)); let e4 := (@Value.tuple (@Array.mk _ [])); let e5 := (@AV.view ((n).cls).length 1 (fun y0 => (fun y1 => (@AV.lit ([(@Value.string ((n).cls.getD y0 e2))].getD y1 e4))))); let e6 := (@AV.view ((n).atts).length 2 (fun y0 => (fun y1 => (@AV.lit ([(@Value.string (((n).atts.getD y0 attrNone)).name), (@Value.string (((n).atts.getD y0 attrNone)).value)].getD y1 e4))))); (.need (@isSo ((@ByteArray.size (n).tag) ≤ 9223372036854775807)) (.fork (!(!(@Pl.nameL (@Array.toList _ (@ByteArray.data (n).tag))))) (.fork (!(@bytesEq e1 e3)) (.need (@isSo ((@ByteArray.size (n).id) ≤ 9223372036854775807)) (.fork (!(!(@Pl.nameL e1))) (.fork (!(@bytesEq (@Array.toList _ (@ByteArray.data (n).text)) e3)) (.leaf (boo false)) (.fork (!(!(leI ((((n).cls).length : Nat) : Int) (8 : Int)))) (.fork (!(leI ((((n).atts).length : Nat) : Int) (8 : Int))) (.leaf (boo false)) (.need (@isSo (@And ((@HAppend.hAppend _ _ _ _ (@HAppend.hAppend _ _ _ _ [] [e5, (@AV.fn (@Fn.func 65) [] [])]) []) = [e5, (@AV.fn (@Fn.func 65) [] [])]) (@And (((n).cls).length ≤ 17592186044416) (∀ (s : ByteArray), s ∈ n.cls → s.size ≤ maxLen)))) (.fork (!(@anyS lacksB (n).cls)) (.need (@isSo (@And ((@HAppend.hAppend _ _ _ _ (@HAppend.hAppend _ _ _ _ [] [e6, (@AV.fn (@Fn.func 67) [] [])]) []) = [e6, (@AV.fn (@Fn.func 67) [] [])]) (@And (((n).atts).length ≤ 17592186044416) (∀ (t : AttrV), t ∈ n.atts → t.Ok)))) (.leaf (boo (!(@anyT oddB (n).atts))))) (.leaf (boo false))))) (.leaf (boo false)))) (.leaf (boo false)))) (.fork (!(@bytesEq (@Array.toList _ (@ByteArray.data (n).text)) e3)) (.leaf (boo false)) (.fork (!(!(leI ((((n).cls).length : Nat) : Int) (8 : Int)))) (.fork (!(leI ((((n).atts).length : Nat) : Int) (8 : Int))) (.leaf (boo false)) (.need (@isSo (@And ((@HAppend.hAppend _ _ _ _ (@HAppend.hAppend _ _ _ _ [] [e5, (@AV.fn (@Fn.func 65) [] [])]) []) = [e5, (@AV.fn (@Fn.func 65) [] [])]) (@And (((n).cls).length ≤ 17592186044416) (∀ (s : ByteArray), s ∈ n.cls → s.size ≤ maxLen)))) (.fork (!(@anyS lacksB (n).cls)) (.need (@isSo (@And ((@HAppend.hAppend _ _ _ _ (@HAppend.hAppend _ _ _ _ [] [e6, (@AV.fn (@Fn.func 67) [] [])]) []) = [e6, (@AV.fn (@Fn.func 67) [] [])]) (@And (((n).atts).length ≤ 17592186044416) (∀ (t : AttrV), t ∈ n.atts → t.Ok)))) (.leaf (boo (!(@anyT oddB (n).atts))))) (.leaf (boo false))))) (.leaf (boo false))))) (.leaf (boo false))))) (by kernel_rfl) (by
    obtain ⟨h1, h2, h3, h4, h5⟩ := h
    have e : ([] : List UInt8) = (ByteArray.mk #[]).data.toList := rfl
    unfold elemB
    rw [e]
    repeat' (first
      | refine fork_ok (fun _ => ?_) (fun _ => ?_)
      | refine need_so h1 ?_
      | refine need_so h2 ?_
      | refine need_so ⟨rfl, h3⟩ ?_
      | refine need_so ⟨rfl, h4⟩ ?_)
    all_goals refine leaf_boo ?_
    all_goals (simp only [Bool.not_eq_true', Bool.not_eq_false', Bool.not_not] at *)
    all_goals simp only [*, Bool.not_true, Bool.not_false, Bool.true_and, Bool.false_and, Bool.and_false, Bool.and_true, Bool.or_true, Bool.true_or, Bool.or_false, Bool.false_or, Bool.and_assoc]
    all_goals (cases anyT oddB n.atts <;> simp))
noncomputable abbrev Sy.cElm1 (n : NdV) : Con Try.prog := at1 45 [ndG n] (boo (elemB n)) n.Ok fun h => ⟨⟨⟨ndG_free n, trivial⟩, trivial⟩, elm_t n h⟩
end Go.Proofs.Ytglkdhmikpejnaa
namespace Go.Proofs.Ytglkdhmikpejnaa
open Go Go.RowKit Pl Sy
def ratB (t : AttrV) : Bool := nameL t.name.data.toList && textL t.value.data.toList
namespace Sy
end Sy
def allS (g : ByteArray → Bool) (xs : List ByteArray) : Bool := xs.all g
def allT (g : AttrV → Bool) (xs : List AttrV) : Bool := xs.all g
def nameB (s : ByteArray) : Bool := nameL s.data.toList
namespace Sy
end Sy
namespace Sy
end Sy
namespace Sy
end Sy
def ndB (p : NdV) : Bool := if bytesEq p.tag.data.toList [] = true then bytesEq p.id.data.toList [] && (eqI p.cls.length 0 && (eqI p.atts.length 0 && textL p.text.data.toList))
  else nameB p.tag && ((bytesEq p.id.data.toList [] || nameB p.id) && (bytesEq p.text.data.toList [] && (leI p.cls.length 8 && (leI p.atts.length 8 && (allS nameB p.cls && allT ratB p.atts)))))
theorem oddB_eq (t : AttrV) : oddB t = !ratB t := by
  unfold oddB ratB
  cases nameL t.name.data.toList <;> cases textL t.value.data.toList <;> rfl
theorem elem_nd (n : NdV) : elemB n = (!bytesEq n.tag.data.toList [] && ndB n) := by
  have e1 : anyS lacksB n.cls = !allS nameB n.cls := by
    unfold anyS allS
    rw [Bool.eq_iff_iff]
    simp only [List.any_eq_true, Bool.not_eq_true', List.all_eq_false, lacksB, nameB, Bool.not_eq_true]
  have e2 : anyT oddB n.atts = !allT ratB n.atts := by
    unfold anyT allT
    rw [Bool.eq_iff_iff]
    simp only [List.any_eq_true, Bool.not_eq_true', List.all_eq_false, oddB_eq, Bool.not_eq_true]
  unfold elemB ndB
  rw [e1, e2]
  cases hb : bytesEq n.tag.data.toList [] with
  | true =>
    rw [bytesEq_eq, decide_eq_true_eq] at hb
    rw [hb]
    rfl
  | false =>
    unfold nameB
    simp
end Go.Proofs.Ytglkdhmikpejnaa
namespace Go.Proofs.Ytglkdhmikpejnaa
open Go.RowKit Pl
theorem tStrs : SliceT Try.prog 26 9 1 16 (.string ⟨#[]⟩) :=
  ⟨Try.underlying26, by obtain ⟨i0, hi, hz0, hz1, hz2⟩ := info_parts (show (Try.prog.info? 9).map (fun i => (i.zero, i.size, i.bytes)) = some (some (.string ⟨#[]⟩), 1, 16) by kernel_rfl); exact ⟨i0, hi, hz0, hz1, hz2⟩, rfl, by decide⟩
theorem tAttrs : SliceT Try.prog 38 67 2 32 (.agg #[.string ⟨#[]⟩, .string ⟨#[]⟩]) :=
  ⟨Try.underlying38, by obtain ⟨i0, hi, hz0, hz1, hz2⟩ := info_parts (show (Try.prog.info? 67).map (fun i => (i.zero, i.size, i.bytes)) = some (some (.agg #[.string ⟨#[]⟩, .string ⟨#[]⟩]), 2, 32) by kernel_rfl); exact ⟨i0, hi, hz0, hz1, hz2⟩, rfl, by decide⟩
@[go_sem] theorem nilS0 (w : World) : (binOp BinOp.eql 26 (.slice none 0 0) (.slice none 0 0)).run Try.prog w = .ok (.bool true) w := by kernel_rfl
@[go_sem] theorem nilS1 (ad : Addr) (n c : Nat) (w : World) : (binOp BinOp.eql 26 (.slice (some ad) n c) (.slice none 0 0)).run Try.prog w = .ok (.bool false) w := by kernel_rfl
@[go_sem] theorem nilA0 (w : World) : (binOp BinOp.eql 38 (.slice none 0 0) (.slice none 0 0)).run Try.prog w = .ok (.bool true) w := by kernel_rfl
@[go_sem] theorem nilA1 (ad : Addr) (n c : Nat) (w : World) : (binOp BinOp.eql 38 (.slice (some ad) n c) (.slice none 0 0)).run Try.prog w = .ok (.bool false) w := by kernel_rfl
theorem own_base {w : World} {base : Nat} {e : TypeId} {s : Nat} {v : Value} {n m c : Nat} {flat : List Value} {ad : Addr} (h : w.ownsRow base e s v n flat) (hv : v = .slice (some ad) m c) : base ≤ ad.block := by
  rcases h.2 with ⟨rfl, _⟩ | ⟨g, cap, cur, rfl, hb, _⟩
  · cases hv
  · simp at hv; rw [← hv.1]; exact hb
def Tagged (w : World) (a : Option Addr) (e : TypeId) : Prop := ∀ ad, a = some ad → ∃ cur fr, w.heap[ad.block]? = some (.cells cur e fr)
theorem own_tag {w : World} {base : Nat} {e : TypeId} {s : Nat} {v : Value} {n m c : Nat} {flat : List Value} {ad : Addr} (h : w.ownsRow base e s v n flat) (hv : v = .slice (some ad) m c) : ∃ cur fr, w.heap[ad.block]? = some (.cells cur e fr) := by
  rcases h.2 with ⟨rfl, _⟩ | ⟨g, cap, cur, rfl, hb, hc, _⟩
  · cases hv
  · simp at hv; rw [← hv.1]; exact ⟨cur, _, hc⟩
theorem own_empty (w : World) (e : TypeId) (s : Nat) : (w.alloc (.cells #[] e)).ownsRow w.heap.size e s (.slice (some ⟨w.heap.size, 0, none⟩) 0 0) 0 [] :=
  ⟨by simp, Or.inr ⟨w.heap.size, 0, #[], rfl, Nat.le_refl _, heap_alloc_new w _, Nat.le_refl _, by omega, by simp, by simp⟩⟩
set_option maxRecDepth 20000 in
theorem clone_strs {w : World} {a : Option Addr} {cap : Nat} {xs : List ByteArray} (h : RStrs w a cap xs) (hs : xs.length ≤ 1024) :
    Calls Try.prog 61 #[.slice a xs.length cap] w fun e w' => ∃ a' cap', e = .returned (.slice a' xs.length cap') ∧ RStrs w' a' cap' xs ∧ (∀ ad, a' = some ad → w.heap.size ≤ ad.block) ∧ Tagged w' a' 9 ∧ Below w.heap.size w w' := by
  cases ha : a with
  | none =>
    subst ha
    have hc := h.nil rfl
    subst hc
    have hx : xs = [] := List.eq_nil_of_length_eq_zero (by have := h.le; omega)
    subst hx
    go_enter Try.func61, Try.ntmps61
    go_wp2
    go_ret
    exact ⟨none, 0, rfl, h, (fun _ e => by cases e), (fun _ e => by cases e), Below.refl _ _⟩
  | some ad =>
    subst ha
    have HR := Lib.hid h; clear h
    go_enter Try.func61, Try.ntmps61
    go_wp2_with (first
      | (at_builtin; refine wpList_app_rows (cells := cStr) 26 9 1 16 _ tStrs rfl _ _ rfl w.heap.size _ 0 [] rfl (own_empty w 9 1) (some ad) cap xs rfl (HR.out.later _) (fun _ _ => rfl) (fun y _ u hu => by simp [cStr] at hu; subst hu; rfl) (by omega) (by omega) (by simp) ?_; intro v' w1 hown1 hb1))
    go_ret
    obtain ⟨b', c, rfl, hr⟩ := Rows.of_own (cells := cStr) (xs := xs) (by simpa using hown1) (fun k hk j u hu => by simpa using flat_get cStr 1 xs (fun _ _ => rfl) k hk j u hu) (by omega)
    exact ⟨b', c, by simp, hr, (fun ad e => own_base hown1 (by rw [e])), (fun ad e => own_tag hown1 (by rw [e])), (balloc (Below.refl _ _) _).trans hb1⟩
set_option maxRecDepth 20000 in
theorem clone_attrs {w : World} {a : Option Addr} {cap : Nat} {xs : List AttrV} (h : RAttrs w a cap xs) (hs : xs.length ≤ 1024) :
    Calls Try.prog 62 #[.slice a xs.length cap] w fun e w' => ∃ a' cap', e = .returned (.slice a' xs.length cap') ∧ RAttrs w' a' cap' xs ∧ (∀ ad, a' = some ad → w.heap.size ≤ ad.block) ∧ Tagged w' a' 67 ∧ Below w.heap.size w w' := by
  cases ha : a with
  | none =>
    subst ha
    have hc := h.nil rfl
    subst hc
    have hx : xs = [] := List.eq_nil_of_length_eq_zero (by have := h.le; omega)
    subst hx
    go_enter Try.func62, Try.ntmps62
    go_wp2
    go_ret
    exact ⟨none, 0, rfl, h, (fun _ e => by cases e), (fun _ e => by cases e), Below.refl _ _⟩
  | some ad =>
    subst ha
    have HR := Lib.hid h; clear h
    go_enter Try.func62, Try.ntmps62
    go_wp2_with (first
      | (at_builtin; refine wpList_app_rows (cells := AttrV.cells) 38 67 2 32 _ tAttrs rfl _ _ rfl w.heap.size _ 0 [] rfl (own_empty w 67 2) (some ad) cap xs rfl (HR.out.later _) (fun _ _ => rfl) (fun y _ => AttrV.one y) (by omega) (by omega) (by simp) ?_; intro v' w1 hown1 hb1))
    go_ret
    obtain ⟨b', c, rfl, hr⟩ := Rows.of_own (cells := AttrV.cells) (xs := xs) (by simpa using hown1) (fun k hk j u hu => by simpa using flat_get AttrV.cells 2 xs (fun _ _ => rfl) k hk j u hu) (by omega)
    exact ⟨b', c, by simp, hr, (fun ad e => own_base hown1 (by rw [e])), (fun ad e => own_tag hown1 (by rw [e])), (balloc (Below.refl _ _) _).trans hb1⟩
open Go Sy in
theorem Sy.clS_t (v : List ByteArray) (h : v.length ≤ 1024) : CallTo Try.prog 61 [cview v] M0 fun x _ => x = cview v :=
  (of_walkV (cells := strCells) (d := ⟨#[]⟩) v v [] (fun x => rfl) (fun x u hu => by simp [strCells] at hu; subst hu; rfl) (by decide) (by omega) (fun w a cap hR => (clone_strs (show RStrs w a cap v from hR) h).mono fun e w' he => by
  obtain ⟨a', cap', e1, e2, e3, _, e5⟩ := he
  exact ⟨a', cap', e1, e2, e3, e5⟩) M0).mono fun v _ hv => hv.1
open Go Sy in
theorem Sy.clA_t (v : List AttrV) (h : v.length ≤ 1024) : CallTo Try.prog 62 [aview v] M0 fun x _ => x = aview v :=
  (of_walkV (cells := AttrV.cells) (d := attrNone) v v [] (fun x => rfl) AttrV.one (by decide) (by omega) (fun w a cap hR => (clone_attrs hR h).mono fun e w' he => by
  obtain ⟨a', cap', e1, e2, e3, _, e5⟩ := he
  exact ⟨a', cap', e1, e2, e3, e5⟩) M0).mono fun v _ hv => hv.1
open Go Sy in
theorem Sy.of_nil {P : Program} {f : FuncId} {s : Nat} {cell : Nat → Nat → AV} {G : AV → Mem → Prop} (h : CallTo P f [.view 0 s cell] M0 G) : CallTo P f [.lit (.slice none 0 0)] M0 G := fun w0 ρ us w h1 h2 => h w0 ρ us w (by
  simp only [rels, rel] at h1 ⊢
  obtain ⟨x, xs, q1, q2, q3⟩ := h1
  exact ⟨x, xs, q1, ⟨none, 0, q2, Nat.le_refl _, Nat.zero_le _, fun _ => rfl, fun h => absurd h (by omega)⟩, q3⟩) h2
open Go Sy in
noncomputable abbrev Sy.cClS (v : List ByteArray) : Con Try.prog := atX 61 (fun args => match args with | [.lit _] => some true | _ => some false) (fun b => match b with | true => [.lit (.slice none 0 0)] | false => [cview v]) (fun b => match b with | true => cview [] | false => cview v) (fun b => b = true ∨ v.length ≤ 1024) fun b h => by
  cases b with
  | true => exact ⟨⟨⟨trivial, trivial⟩, viewOf_free _ _ _ _⟩, of_nil (clS_t [] (Nat.zero_le _))⟩
  | false => exact ⟨⟨⟨viewOf_free _ _ _ _, trivial⟩, viewOf_free _ _ _ _⟩, clS_t v (h.resolve_left (by decide))⟩
open Go Sy in
noncomputable abbrev Sy.cClA (v : List AttrV) : Con Try.prog := atX 62 (fun args => match args with | [.lit _] => some true | _ => some false) (fun b => match b with | true => [.lit (.slice none 0 0)] | false => [aview v]) (fun b => match b with | true => aview [] | false => aview v) (fun b => b = true ∨ v.length ≤ 1024) fun b h => by
  cases b with
  | true => exact ⟨⟨⟨trivial, trivial⟩, viewOf_free _ _ _ _⟩, of_nil (clA_t [] (Nat.zero_le _))⟩
  | false => exact ⟨⟨⟨viewOf_free _ _ _ _, trivial⟩, viewOf_free _ _ _ _⟩, clA_t v (h.resolve_left (by decide))⟩
end Go.Proofs.Ytglkdhmikpejnaa
namespace Go.Proofs.Ytglkdhmikpejnaa
open Go Go.RowKit Pl Sy
namespace Sy
def ndA (n : NdV) (j : Nat) : AV := match j with
  | 0 => int n.par
  | 1 => .lit (.string n.tag)
  | 2 => .lit (.string n.id)
  | 3 => cview n.cls
  | 4 => aview n.atts
  | _ => .lit (.string n.text)
def ndcell (ns : List NdV) (i j : Nat) : AV := ndA (ns.getD i ndNone) j
def zcell (os : List Int) (i j : Nat) : AV := int (os.getD i 0)
abbrev nrowB (ns : List NdV) : Blk := ⟨[], 40, some ⟨ns.length, 6, ndcell ns⟩⟩
abbrev irowB (os : List Int) : Blk := ⟨[], 3, some ⟨os.length, 1, zcell os⟩⟩
end Sy
theorem fork_t {β : Type} {c : Bool} {t f : Tr β} {G : β → Prop} (hc : c = true) (ht : t.Ok G) : (Tr.fork c t f).Ok G := fork_ok (fun _ => ht) (fun h => absurd (hc.symm.trans h) (by decide))
theorem fork_f {β : Type} {c : Bool} {t f : Tr β} {G : β → Prop} (hc : c = false) (hf : f.Ok G) : (Tr.fork c t f).Ok G := fork_ok (fun h => absurd (hc.symm.trans h) (by decide)) (fun _ => hf)
theorem Sy.WR.cutRow {w0 : World} {ρ : Rho} {M : Mem} {w : World} (h : WR w0 ρ M w) {b n n' s e : Nat} {cs : List AV} {cell : Nat → Nat → AV} (hb : M.get b = some ⟨cs, e, some ⟨n, s, cell⟩⟩) (hn : n' ≤ n) : WR w0 ρ (M.put b (some ⟨cs, e, some ⟨n', s, cell⟩⟩)) w := by
  have hlt := Mem.get_lt hb
  refine ⟨h.keep, fun c g hc => by rw [Mem.put_def]; exact h.dom c g hc, fun c hc => by rw [Mem.put_def]; exact h.nild c hc, fun c B g tot h1 h2 => ?_, fun c B h1 => ?_, fun c c' B B' g t t' h1 h2 h3 h4 => ?_, h.still, h.first, fun c B g t h1 h2 => ?_⟩
  · rcases Mem.get_put hlt h1 with ⟨rfl, e1⟩ | ⟨_, e1⟩
    · simp only [Option.some.injEq] at e1
      subst e1
      obtain ⟨r1, cur, r2, r3, r4, r5⟩ := h.blk _ _ g tot hb h2
      exact ⟨r1, cur, r2, r3, r4, fun R hR i j hi hj => by
        simp only [Option.some.injEq] at hR
        subst hR
        exact r5 _ rfl i j (by simp only at hi ⊢; omega) hj⟩
    · exact h.blk c B g tot e1 h2
  · rcases Mem.get_put hlt h1 with ⟨rfl, e1⟩ | ⟨_, e1⟩
    · simp only [Option.some.injEq] at e1
      subst e1
      rcases h.has _ _ hb with q | ⟨q1, q2, R, q3, q4⟩
      · exact .inl q
      · simp only [Option.some.injEq] at q3
        subst q3
        exact .inr ⟨q1, q2, _, rfl, by simp only at q4 ⊢; omega⟩
    · exact h.has c B e1
  · have hx : ∀ x X, (M.put b (some ⟨cs, e, some ⟨n', s, cell⟩⟩)).get x = some X → ∃ Y, M.get x = some Y := fun x X hx => by
      rcases Mem.get_put hlt hx with ⟨rfl, _⟩ | ⟨_, e1⟩
      · exact ⟨_, hb⟩
      · exact ⟨_, e1⟩
    obtain ⟨Y, hY⟩ := hx c B h1
    obtain ⟨Y', hY'⟩ := hx c' B' h2
    exact h.inj c c' Y Y' g t t' hY hY' h3 h4
  · rcases Mem.get_put hlt h1 with ⟨rfl, _⟩ | ⟨_, e1⟩
    · exact h.apart _ _ g t hb h2
    · exact h.apart c B g t e1 h2
def lastI (os : List Int) : Int := if eqI (os.length : Nat) 0 = true then -1 else os.getD (os.length - 1) 0
def putN (n : NdV) (os : List Int) : NdV := ⟨lastI os, n.tag, n.id, n.cls, n.atts, n.text⟩
def wordN (n : NdV) (os : List Int) : NdV := ⟨lastI os, ⟨#[]⟩, ⟨#[]⟩, [], [], n.text⟩
namespace Sy
def NRows (n : Nat) (c : Nat → Nat → AV) (ns : List NdV) : Prop := n = ns.length ∧ ∀ (σ : Nat → Option Nat) i j, i < n → j < 6 → RenV σ (c i j) (ndcell ns i j)
theorem ndA_free (n : NdV) (j : Nat) : Free (ndA n j) := by
  unfold ndA
  split
  · trivial
  · trivial
  · trivial
  · exact viewOf_free _ _ _ _
  · exact viewOf_free _ _ _ _
  · trivial
theorem NRows.base (ns : List NdV) : NRows ns.length (ndcell ns) ns := ⟨rfl, fun σ i j _ _ => RenV.free σ (ndA_free _ j)⟩
theorem NRows.app1 {n : Nat} {c c' : Nat → Nat → AV} {ns : List NdV} (x : NdV) (h : NRows n c ns) (hx : ∀ (σ : Nat → Option Nat) j, j < 6 → RenV σ (c' 0 j) (ndA x j)) : NRows (n + 1) (appc n c c') (ns ++ [x]) := ⟨by rw [h.1]; simp, fun σ i j hi hj => by
  have hl := h.1
  by_cases hlt : i < n
  · rw [appc_lt hlt]
    have : (ns ++ [x]).getD i ndNone = ns.getD i ndNone := by
      simp only [List.getD_eq_getElem?_getD]
      rw [List.getElem?_append_left (by omega)]
    have h3 := h.2 σ i j hlt hj
    unfold ndcell at h3 ⊢
    rw [this]
    exact h3
  · have e : i = n := by omega
    subst e
    rw [appc_ge (Nat.le_refl _), Nat.sub_self]
    have : (ns ++ [x]).getD i ndNone = x := by
      simp only [List.getD_eq_getElem?_getD]
      rw [List.getElem?_append_right (by omega), hl, Nat.sub_self]; rfl
    unfold ndcell
    rw [this]
    exact hx σ j hj⟩
def ZRows (n : Nat) (c : Nat → Nat → AV) (os : List Int) : Prop := n = os.length ∧ ∀ i j, i < n → j < 1 → c i j = zcell os i j
theorem ZRows.base (os : List Int) : ZRows os.length (zcell os) os := ⟨rfl, fun i j _ _ => rfl⟩
theorem ZRows.app1 {n : Nat} {c c' : Nat → Nat → AV} {os : List Int} (x : Int) (h : ZRows n c os) (hx : c' 0 0 = int x) : ZRows (n + 1) (appc n c c') (os ++ [x]) := ⟨by rw [h.1]; simp, fun i j hi hj => by
  have hl := h.1
  obtain rfl : j = 0 := by omega
  by_cases hlt : i < n
  · rw [appc_lt hlt, h.2 i 0 hlt hj]
    unfold zcell
    simp only [List.getD_eq_getElem?_getD]
    rw [List.getElem?_append_left (by omega)]
  · have e : i = n := by omega
    subst e
    rw [appc_ge (Nat.le_refl _), Nat.sub_self, hx]
    unfold zcell
    simp only [List.getD_eq_getElem?_getD]
    rw [List.getElem?_append_right (by omega), hl, Nat.sub_self]; rfl⟩
theorem ZRows.cut {n : Nat} {os : List Int} (h : n = os.length - 1) : ZRows n (zcell os) os.dropLast := ⟨by rw [h, List.length_dropLast], fun i j hi hj => by
  unfold zcell
  simp only [List.getD_eq_getElem?_getD]
  rw [List.getElem?_dropLast, if_pos (by omega)]⟩
end Sy
theorem Sy.idx_last {os : List Int} (ho : os.length ≤ 64) (h : eqI ((os.length : Nat) : Int) 0 = false) : inR (w64 ((os.length : Nat) - 1 : Int)) os.length = true ∧ Nat.blt (w64 ((os.length : Nat) - 1 : Int)).toNat os.length = true ∧ (∀ σ, RenV σ (zcell os (w64 ((os.length : Nat) - 1 : Int)).toNat 0) (int (lastI os))) ∧ (w64 ((os.length : Nat) - 1 : Int)).toNat = os.length - 1 ∧ (true && (leI 0 (w64 ((os.length : Nat) - 1 : Int)) && leI (w64 ((os.length : Nat) - 1 : Int)) (os.length : Nat))) = true := by
  have h' := h
  rw [eqI_f] at h'
  have e : w64 ((os.length : Nat) - 1 : Int) = (os.length : Int) - 1 := w64_in (by omega)
  have e2 : ((os.length : Int) - 1).toNat = os.length - 1 := by omega
  rw [e, e2]
  refine ⟨by rw [inR_t]; omega, by rw [Nat.blt_eq]; omega, fun σ => ?_, rfl, ?_⟩
  · unfold lastI zcell
    rw [if_neg (by rw [h]; decide)]
    exact RenV.free σ trivial
  · simp only [Bool.true_and, Bool.and_eq_true, leI_t]; omega
theorem elem_lens {n : NdV} (h : elemB n = true) : n.cls.length ≤ 1024 ∧ n.atts.length ≤ 1024 := by
  unfold elemB at h
  simp only [Bool.and_eq_true, leI_t] at h
  omega
end Go.Proofs.Ytglkdhmikpejnaa
namespace Go.Proofs.Ytglkdhmikpejnaa
open Go Go.RowKit Pl Sy
namespace Sy
abbrev bdB (x n y m : Nat) : Blk := ⟨[.own x n 6, .own y m 1], 70, none⟩
abbrev bdM (ns : List NdV) (os : List Int) : Mem := ⟨3, 0, [some (irowB os), some (nrowB ns), some (bdB 1 ns.length 2 os.length)]⟩
end Sy
end Go.Proofs.Ytglkdhmikpejnaa
namespace Go.Proofs.Ytglkdhmikpejnaa
open Go Go.RowKit Pl Sy
namespace Sy
def NEq (n : Nat) (c : Nat → Nat → AV) (ns : List NdV) : Prop := n = ns.length ∧ ∀ i j, i < n → j < 6 → c i j = ndcell ns i j
theorem NEq.base (ns : List NdV) : NEq ns.length (ndcell ns) ns := ⟨rfl, fun _ _ _ _ => rfl⟩
theorem NEq.app1 {n : Nat} {c c' : Nat → Nat → AV} {ns : List NdV} (x : NdV) (h : NEq n c ns) (hx : ∀ j, j < 6 → c' 0 j = ndA x j) : NEq (n + 1) (appc n c c') (ns ++ [x]) := ⟨by rw [h.1]; simp, fun i j hi hj => by
  have hl := h.1
  by_cases hlt : i < n
  · rw [appc_lt hlt, h.2 i j hlt hj]
    have : (ns ++ [x]).getD i ndNone = ns.getD i ndNone := by
      simp only [List.getD_eq_getElem?_getD]
      rw [List.getElem?_append_left (by omega)]
    unfold ndcell
    rw [this]
  · have e : i = n := by omega
    subst e
    rw [appc_ge (Nat.le_refl _), Nat.sub_self, hx j hj]
    have : (ns ++ [x]).getD i ndNone = x := by
      simp only [List.getD_eq_getElem?_getD]
      rw [List.getElem?_append_right (by omega), hl, Nat.sub_self]; rfl
    unfold ndcell
    rw [this]⟩
def BEnd (M : Mem) (ns : List NdV) (os : List Int) : Prop := ∃ x n cx y m cy, M.get 0 = some (bdB x n y m) ∧ M.get x = some ⟨[], 40, some ⟨n, 6, cx⟩⟩ ∧ M.get y = some ⟨[], 3, some ⟨m, 1, cy⟩⟩ ∧ NEq n cx ns ∧ ZRows m cy os
theorem CallTo.cutRow {P : Program} {f : FuncId} {args : List AV} {M M1 : Mem} {v0 : AV} (h : CallTo P f args M fun v M' => v = v0 ∧ M' = M1) (b : Nat) {n : Nat} (n' : Nat) {s e : Nat} {cs : List AV} {cell : Nat → Nat → AV} (hb : M1.get b = some ⟨cs, e, some ⟨n, s, cell⟩⟩) (hn : n' ≤ n) : CallTo P f args M fun v M' => v = v0 ∧ M' = M1.put b (some ⟨cs, e, some ⟨n', s, cell⟩⟩) := fun w0 ρ us w hr hW => by
  refine (h w0 ρ us w hr hW).mono ?_
  rintro x w' ⟨ρ', u, v, M', rfl, q1, q2, q3, rfl, rfl⟩
  exact ⟨ρ', u, _, _, rfl, q1, q2, q3.cutRow hb hn, rfl, rfl⟩
structure BdX where
  bb : Nat
  x : Nat
  y : Nat
  rest : List AV
noncomputable def bdGet (args : List AV) (M : Mem) : Option BdX := match args with
  | .ptr bb 0 :: rest => match M.get bb with
    | some ⟨[.own x _ _, .own y _ _], _, none⟩ => some ⟨bb, x, y, rest⟩
    | _ => none
  | _ => none
theorem bdGet_ok {args : List AV} {M : Mem} {x : BdX} (hg : bdGet args M = some x) : args = .ptr x.bb 0 :: x.rest := by
  unfold bdGet at hg
  split at hg
  · split at hg
    · simp at hg; subst hg; rfl
    · cases hg
  · cases hg
noncomputable def bRes (M : Mem) (b x y : Nat) (ns : List NdV) (os : List Int) : Mem := ((((M.put x none).put y none).put b (some (bdB M.top ns.length (M.top + 1) os.length))).push (nrowB ns)).push (irowB os)
theorem bRes_get {M : Mem} {b x y : Nat} {ns : List NdV} {os : List Int} {B0 B1 B2 : Blk} (h0 : M.get b = some B0) (h1 : M.get x = some B1) (h2 : M.get y = some B2) {z : Nat} {B' : Blk} (h : (bRes M b x y ns os).get z = some B') :
    (z = M.top + 1 ∧ B' = irowB os) ∨ (z = M.top ∧ B' = nrowB ns) ∨ (z = b ∧ B' = bdB M.top ns.length (M.top + 1) os.length) ∨ (z < M.top ∧ z ≠ b ∧ z ≠ x ∧ z ≠ y ∧ M.get z = some B') := by
  have hb := Mem.get_lt h0
  have hx := Mem.get_lt h1
  have hy := Mem.get_lt h2
  unfold bRes at h
  rcases Mem.get_push h with ⟨e1, e2⟩ | ⟨e1, e2⟩
  · exact .inl ⟨e1, e2⟩
  · rcases Mem.get_push e2 with ⟨e3, e4⟩ | ⟨e3, e4⟩
    · exact .inr (.inl ⟨e3, e4⟩)
    · rcases Mem.get_put (M := (M.put x none).put y none) (b := b) hb e4 with ⟨rfl, e⟩ | ⟨e5, e6⟩
      · simp at e; exact .inr (.inr (.inl ⟨rfl, e.symm⟩))
      · rcases Mem.get_put (M := M.put x none) (b := y) hy e6 with ⟨_, e7⟩ | ⟨e7, e8⟩
        · cases e7
        · rcases Mem.get_put hx e8 with ⟨_, e9⟩ | ⟨e9, e10⟩
          · cases e9
          · exact .inr (.inr (.inr ⟨e3, e5, e9, e7, e10⟩))
theorem conB_frame {P : Program} {f : FuncId} {rest : List AV} {ns ns' : List NdV} {os os' : List Int} {v0 : AV} (h : CallTo P f (.ptr 0 0 :: rest) (bdM ns os) fun v M' => v = v0 ∧ BEnd M' ns' os') (hf : Frees rest) (hv : Free v0) {M : Mem} {b x y : Nat} (h0 : M.get b = some (bdB x ns.length y os.length)) (h1 : M.get x = some (nrowB ns)) (h2 : M.get y = some (irowB os)) :
    CallTo P f (.ptr b 0 :: rest) M fun v M' => v = v0 ∧ M' = bRes M b x y ns' os' := by
  have n1 : b ≠ x := fun e => by subst e; rw [h0] at h1; cases h1
  have n2 : b ≠ y := fun e => by subst e; rw [h0] at h2; cases h2
  have n3 : x ≠ y := fun e => by subst e; rw [h1] at h2; simp at h2
  refine CallTo.frameG (σ := nm [b, x, y]) h ⟨⟨rfl, rfl⟩, RenVs.free _ hf⟩ (.of rfl rfl (by simp [n1, n2, n3]) ⟨⟨y, _, rfl, h2, rfl, trivial, rfl, rfl, fun i j hi hj => RenV.free _ trivial⟩, ⟨x, _, rfl, h1, rfl, trivial, rfl, rfl, fun i j hi hj => RenV.free _ (ndA_free _ _)⟩, ⟨b, _, rfl, h0, rfl, ⟨⟨rfl, rfl, rfl⟩, ⟨rfl, rfl, rfl⟩, trivial⟩, trivial⟩, trivial⟩) ?_ ?_
  · intro z c hz
    rcases z with _ | _ | _ | z
    · exact ⟨_, rfl⟩
    · exact ⟨_, rfl⟩
    · exact ⟨_, rfl⟩
    · cases hz
  · rintro v M2 ⟨rfl, x2, n, cx, y2, m, cy, q0, q1, q2, q3, q4⟩
    have m1 : x2 ≠ 0 := fun e => by subst e; rw [q0] at q1; cases q1
    have m2 : y2 ≠ 0 := fun e => by subst e; rw [q0] at q2; cases q2
    have m3 : x2 ≠ y2 := fun e => by subst e; rw [q1] at q2; simp at q2
    have hbt := Mem.get_lt h0
    refine ⟨fun z => if z = b then some 0 else if z = M.top then some x2 else if z = M.top + 1 then some y2 else none, _, _, ⟨rfl, rfl⟩, RenV.free _ hv, Nat.le_succ_of_le (Nat.le_succ _), fun z c hz => ?_, fun z c hlt hz => ?_, fun z z' c hz hz' => ?_, fun z B' hz => ?_⟩
    · show z < M.top + 1 + 1
      split at hz
      · omega
      · split at hz
        · omega
        · split at hz
          · omega
          · cases hz
    · split at hz
      · rename_i e; subst e
        simp at hz; subst hz
        exact ⟨Nat.le_of_ble_eq_true rfl, rfl⟩
      · split at hz
        · omega
        · split at hz
          · omega
          · cases hz
    · have key : ∀ z, (if z = b then some 0 else if z = M.top then some x2 else if z = M.top + 1 then some y2 else none) = some c → (z = b ∧ c = 0) ∨ (z = M.top ∧ c = x2) ∨ (z = M.top + 1 ∧ c = y2) := fun z hz => by
        split at hz
        · simp at hz; exact .inl ⟨by assumption, hz.symm⟩
        · split at hz
          · simp at hz; exact .inr (.inl ⟨by assumption, hz.symm⟩)
          · split at hz
            · simp at hz; exact .inr (.inr ⟨by assumption, hz.symm⟩)
            · cases hz
      rcases key z hz with ⟨a1, a2⟩ | ⟨a1, a2⟩ | ⟨a1, a2⟩ <;> rcases key z' hz' with ⟨b1, b2⟩ | ⟨b1, b2⟩ | ⟨b1, b2⟩ <;> first | omega | (exfalso; omega)
    · rcases bRes_get h0 h1 h2 hz with ⟨rfl, rfl⟩ | ⟨rfl, rfl⟩ | ⟨rfl, rfl⟩ | ⟨e1, e2, e3, e4, e5⟩
      · refine .inr ⟨y2, _, by rw [if_neg (by omega), if_neg (by omega), if_pos rfl], q2, rfl, trivial, q4.1.symm, rfl, fun i j hi hj => ?_⟩
        show RenV _ (cy i j) (zcell os' i j)
        rw [q4.2 i j (by have := q4.1; simp only at hi; omega) hj]
        exact RenV.free _ trivial
      · refine .inr ⟨x2, _, by rw [if_neg (by omega), if_pos rfl], q1, rfl, trivial, q3.1.symm, rfl, fun i j hi hj => ?_⟩
        show RenV _ (cx i j) (ndcell ns' i j)
        rw [q3.2 i j (by have := q3.1; simp only at hi; omega) hj]
        exact RenV.free _ (ndA_free _ _)
      · refine .inr ⟨0, _, by rw [if_pos rfl], q0, rfl, ⟨⟨?_, q3.1, rfl⟩, ⟨?_, q4.1, rfl⟩, trivial⟩, trivial⟩
        · show (if M.top = z then some 0 else if M.top = M.top then some x2 else if M.top = M.top + 1 then some y2 else none) = some x2
          rw [if_neg (by omega), if_pos rfl]
        · show (if M.top + 1 = z then some 0 else if M.top + 1 = M.top then some x2 else if M.top + 1 = M.top + 1 then some y2 else none) = some y2
          rw [if_neg (by omega), if_neg (by omega), if_pos rfl]
      · refine .inl ⟨e1, fun c hc => ?_, e5⟩
        rcases c with _ | _ | _ | c
        · have : some b = some z := hc
          simp at this; omega
        · have : some x = some z := hc
          simp at this; omega
        · have : some y = some z := hc
          simp at this; omega
        · cases hc
noncomputable def conB (f : FuncId) (args0 : List AV) (ns : List NdV) (os : List Int) (ns' : List NdV) (os' : List Int) (C : Prop) (h : C → Frees args0 ∧ CallTo Try.prog f (.ptr 0 0 :: args0) (bdM ns os) fun v M' => v = int 0 ∧ BEnd M' ns' os') : Con Try.prog where
  f := f
  run := fun args M => match bdGet args M with
    | some x => some (int 0, bRes M x.bb x.x x.y ns' os')
    | none => none
  ob := fun args M => match bdGet args M with
    | some x => some (isSo (M.get x.bb = some (bdB x.x ns.length x.y os.length) ∧ M.get x.x = some (nrowB ns) ∧ M.get x.y = some (irowB os) ∧ x.rest = args0 ∧ C))
    | none => none
  ok := fun args M v M' hr hob => by
    cases hg : bdGet args M with
    | none => rw [hg] at hr; cases hr
    | some x =>
      rw [hg] at hr hob
      simp at hr
      obtain ⟨rfl, rfl⟩ := hr
      have h1 := hob _ rfl
      rw [isSo_t] at h1
      obtain ⟨g0, g1, g2, hrest, hC⟩ := h1
      obtain ⟨hf, h2⟩ := h hC
      rw [bdGet_ok hg, hrest]
      refine ⟨?_, conB_frame h2 hf trivial g0 g1 g2⟩
      unfold bRes
      exact ((((Grow.put M _ _).trans (Grow.put _ _ _)).trans (Grow.put _ _ _)).trans (Grow.push _ _)).trans (Grow.push _ _)
end Sy
end Go.Proofs.Ytglkdhmikpejnaa
namespace Go.Proofs.Ytglkdhmikpejnaa
open Go Go.RowKit Pl Sy
theorem last_some {os : List Int} (ho : os.length ≤ 64) (h : eqI ((os.length : Nat) : Int) 0 = false) : os.getD (w64 ((os.length : Nat) - 1 : Int)).toNat 0 = lastI os := by
  have e := (idx_last ho h).2.2.2.1
  rw [e]
  unfold lastI
  rw [if_neg (by rw [h]; decide)]
theorem last_none {os : List Int} (h : eqI ((os.length : Nat) : Int) 0 = true) : -1 = lastI os := by
  unfold lastI
  rw [if_pos h]
def OpnC (nd : NdV) (ns : List NdV) (os : List Int) : Prop := nd.Ok ∧ elemB nd = true ∧ ns.length < 1024 ∧ os.length < 64 ∧ (ns.length = 0 ∨ os.length ≠ 0)
def WrdC (x : ByteArray) (ns : List NdV) (os : List Int) : Prop := x.size ≤ maxLen ∧ textL x.data.toList = true ∧ ns.length < 1024 ∧ os.length < 64 ∧ os.length ≠ 0
def wrdN (x : ByteArray) (os : List Int) : NdV := ⟨lastI os, ⟨#[]⟩, ⟨#[]⟩, [], [], x⟩
theorem Sy.opn_t (nd : NdV) (ns : List NdV) (os : List Int) (h : OpnC nd ns os) : CallTo Try.prog 38 [.ptr 0 0, ndG nd] (bdM ns os) fun v M' => v = int 0 ∧ BEnd M' (ns ++ [putN nd os]) (os ++ [(ns.length : Int)]) :=
  to (G := fun r => r.1 = int 0 ∧ BEnd r.2 (ns ++ [putN nd os]) (os ++ [(ns.length : Int)])) [cElm1 nd, cClS nd.cls, cClA nd.atts] [] 400 30 (.auto 0 (.br (.auto 5 (.br (.auto 0 (.yes (.auto 1 (.br .done (.br (.auto 0 .done) (.br (.auto 0 .done) (.auto 0 (.yes (.yes (.br (.yes (.yes (.yes (.yes .done)))) (.yes (.yes .done)))))))))))) (.auto 3 .done))) (.auto 7 (.yes (.auto 1 (.br .done (.br (.auto 0 .done) (.br (.auto 0 .done) (.auto 0 (.yes (.yes (.br (.yes (.yes (.yes (.yes .done)))) (.yes (.yes .done)))))))))))))) (let e1 := (0 : Int); let e2 := (((os).length : Nat) : Int); let e3 := (int (nd).par); let e4 := (@AV.lit (@Value.string (nd).tag)); let e5 := (@AV.lit (@Value.string (nd).id)); let e6 := (@ByteArray.mk (@Array.mk _ [])); let e7 := (@Value.tuple (@Array.mk _ [])); let e8 := (@AV.view ((nd).cls).length 1 (fun y0 => (fun y1 => (@AV.lit ([(@Value.string ((nd).cls.getD y0 e6))].getD y1 e7))))); let e9 := (@AV.view ((nd).atts).length 2 (fun y0 => (fun y1 => (@AV.lit ([(@Value.string (((nd).atts.getD y0 attrNone)).name), (@Value.string (((nd).atts.getD y0 attrNone)).value)].getD y1 e7))))); let e10 := (@AV.lit (@Value.string (nd).text)); let e11 := (@AV.agg [e3, e4, e5, e8, e9, e10]); let e12 := (some (@Blk.mk [e3, e4, e5, e8, e9, e10] 40 none)); let e13 := (@Mem.mk (3 + 1) 0 [e12, (some (@Blk.mk [] 3 (some (@Rw.mk (os).length 1 (@zcell os))))), (some (@Blk.mk [] 40 (some (@Rw.mk (ns).length 6 (@ndcell ns))))), (some (@Blk.mk [(@AV.own 1 (ns).length 6), (@AV.own 2 (os).length 1)] 70 none))]); let e14 := ((ns).length + 1); let e15 := (Bool.true && ((@Nat.ble (ns).length (ns).length) && ((@Nat.ble (e14 * 104) 140737488355328) && (@Nat.ble e14 17592186044416)))); let e16 := ((os).length + 1); let e17 := (Bool.true && ((@Nat.ble (os).length (os).length) && ((@Nat.ble (e16 * 8) 140737488355328) && (@Nat.ble e16 17592186044416)))); let e18 := (((((3 + 1) + 1) + 1) + 1) + 1); let e19 := (((((((((0 + 1) + 1) + 1) + 1) + 1) + 1) + 1) + 1) + 1); let e20 := (int (w64 (((e14 : Nat) : Int) - (1 : Int)))); let e21 := (e20 :: (@List.drop _ (0 + ([e20]).length) (@List.map _ _ AV.lit (@Array.toList _ (@Array.mk _ [(@List.get _ (@Array.toList _ (@Array.mk _ [(@Value.int IntKind.i64 e1)])) (@Fin.mk _ 0 (@Nat.le_of_ble_eq_true _ _ (@Eq.refl _ true))))]))))); let e22 := (some (@Blk.mk [] 3 (some (@Rw.mk e16 1 (@appc (os).length (@zcell os) (fun y0 => (fun y1 => (@getA (@List.take _ 1 e21) ((y0 * 1) + y1))))))))); let e23 := (int (os.getD ((w64 (e2 - (1 : Int)))).toNat e1)); let e24 := (@AV.view ((nd).cls).length 1 (fun y2 => (fun y3 => (@AV.lit ([(@Value.string ((nd).cls.getD y2 e6))].getD y3 e7))))); let e25 := (@AV.view ((nd).atts).length 2 (fun y2 => (fun y3 => (@AV.lit ([(@Value.string (((nd).atts.getD y2 attrNone)).name), (@Value.string (((nd).atts.getD y2 attrNone)).value)].getD y3 e7))))); let e26 := (e4 :: e5 :: e24 :: e25 :: [e10]); let e27 := (@Value.string e6); let e28 := (@Value.slice none 0 0); let e29 := (@Array.toList _ (@Array.mk _ [(@Value.int IntKind.i64 e1), e27, e27, e28, e28, e27])); let e30 := (@List.map _ _ AV.lit (@Array.toList _ (@Array.mk _ [(@List.get _ e29 (@Fin.mk _ 0 (@Nat.le_of_ble_eq_true _ _ (@Eq.refl _ true)))), (@List.get _ e29 (@Fin.mk _ 1 (@Nat.le_of_ble_eq_true _ _ (@Eq.refl _ true)))), (@List.get _ e29 (@Fin.mk _ 2 (@Nat.le_of_ble_eq_true _ _ (@Eq.refl _ true)))), (@List.get _ e29 (@Fin.mk _ 3 (@Nat.le_of_ble_eq_true _ _ (@Eq.refl _ true)))), (@List.get _ e29 (@Fin.mk _ 4 (@Nat.le_of_ble_eq_true _ _ (@Eq.refl _ true)))), (@List.get _ e29 (@Fin.mk _ 5 (@Nat.le_of_ble_eq_true _ _ (@Eq.refl _ true))))]))); let e31 := (e4 :: e5 :: e8 :: e9 :: [e10]); let e32 := (e3 :: e4 :: e5 :: e8 :: e9 :: [e10]); let e33 := (some (@Blk.mk (e3 :: e4 :: e5 :: e8 :: e9 :: (e10 :: (@List.drop _ (0 + (e32).length) [(int e1), (@AV.lit e27), (@AV.lit e27), (@AV.lit e28), (@AV.lit e28), (@AV.lit e27)]))) 40 none)); let e34 := (some (@Blk.mk (e3 :: e4 :: e5 :: e8 :: e9 :: (@List.drop _ (4 + ([e9]).length) [e3, e4, e5, e8, e9, e10])) 40 none)); let e35 := (int (-1 : Int)); let e36 := (e35 :: (@List.drop _ 1 e32)); let e37 := (@AV.own ((e18 + 1) + 1) e16 1); let e38 := (some (@Blk.mk ((@AV.own e18 e14 6) :: e37 :: (@List.drop _ (1 + ([e37]).length) [(@AV.own e18 e14 6), (@AV.own 2 (os).length 1)])) 70 none)); (.fork (!(leI (((ns).length : Nat) : Int) e1)) (.fork (!(eqI e2 e1)) (.need (@isSo (@And ((@HAppend.hAppend _ _ _ _ (@HAppend.hAppend _ _ _ _ [] [e11]) []) = [e11]) (@And ((@ByteArray.size (nd).tag) ≤ 9223372036854775807) (@And ((@ByteArray.size (nd).id) ≤ 9223372036854775807) (@And (@And (((nd).cls).length ≤ 17592186044416) (∀ (s : ByteArray), s ∈ nd.cls → s.size ≤ maxLen)) (@And (@And (((nd).atts).length ≤ 17592186044416) (∀ (t : AttrV), t ∈ nd.atts → t.Ok)) ((@ByteArray.size (nd).text) ≤ 9223372036854775807))))))) (.fork (!(@elemB nd)) (.leaf ((int (34 : Int)), e13)) (.fork (leI (1024 : Int) (((ns).length : Nat) : Int)) (.leaf ((int (32 : Int)), e13)) (.fork (leI (64 : Int) e2) (.leaf ((int (31 : Int)), e13)) (.need (@isSo (@And ((@HAppend.hAppend _ _ _ _ (@HAppend.hAppend _ _ _ _ [] [e8]) []) = [e8]) (@Or (false = true) (((nd).cls).length ≤ 1024)))) (.need (@isSo (@And ((@HAppend.hAppend _ _ _ _ (@HAppend.hAppend _ _ _ _ [] [e9]) []) = [e9]) (@Or (false = true) (((nd).atts).length ≤ 1024)))) (.fork (!(leI e2 e1)) (.need (@inR (w64 (e2 - (1 : Int))) (os).length) (.need (@Nat.blt ((w64 (e2 - (1 : Int)))).toNat (os).length) (.need e15 (.need e17 (.leaf ((int e1), (@Mem.mk (((e18 + 1) + 1) + 1) (e19 + 1) (e22 :: ((some (@Blk.mk e21 3 none)) :: ((some (@Blk.mk [] 40 (some (@Rw.mk e14 6 (@appc (ns).length (@ndcell ns) (fun y0 => (fun y1 => (@getA (@List.take _ 6 (e23 :: (e4 :: e5 :: e24 :: e25 :: (e10 :: (@List.drop _ (0 + ((e23 :: e26)).length) e30))))) ((y0 * 6) + y1))))))))) :: ((some (@Blk.mk (e23 :: (e4 :: e5 :: e8 :: e9 :: (e10 :: (@List.drop _ (0 + ((e23 :: e31)).length) e30)))) 40 none)) :: [e33, e34, (some (@Blk.mk (e23 :: (@List.drop _ (0 + ([e23]).length) e36)) 40 none)), e12, none, none, e38]))))))))))) (.need e15 (.need e17 (.leaf ((int e1), (@Mem.mk (((e18 + 1) + 1) + 1) e19 (e22 :: ((some (@Blk.mk e21 3 none)) :: ((some (@Blk.mk [] 40 (some (@Rw.mk e14 6 (@appc (ns).length (@ndcell ns) (fun y0 => (fun y1 => (@getA (@List.take _ 6 (e35 :: (e4 :: e5 :: e24 :: e25 :: (e10 :: (@List.drop _ (0 + ((e35 :: e26)).length) e30))))) ((y0 * 6) + y1))))))))) :: ((some (@Blk.mk (e35 :: (e4 :: e5 :: e8 :: e9 :: (e10 :: (@List.drop _ (0 + ((e35 :: e31)).length) e30)))) 40 none)) :: [e33, e34, (some (@Blk.mk e36 40 none)), e12, none, none, e38])))))))))))))))) (.leaf ((int (34 : Int)), e13))) (.need (@isSo (@And ((@HAppend.hAppend _ _ _ _ (@HAppend.hAppend _ _ _ _ [] [e11]) []) = [e11]) (@And ((@ByteArray.size (nd).tag) ≤ 9223372036854775807) (@And ((@ByteArray.size (nd).id) ≤ 9223372036854775807) (@And (@And (((nd).cls).length ≤ 17592186044416) (∀ (s : ByteArray), s ∈ nd.cls → s.size ≤ maxLen)) (@And (@And (((nd).atts).length ≤ 17592186044416) (∀ (t : AttrV), t ∈ nd.atts → t.Ok)) ((@ByteArray.size (nd).text) ≤ 9223372036854775807))))))) (.fork (!(@elemB nd)) (.leaf ((int (34 : Int)), e13)) (.fork (leI (1024 : Int) (((ns).length : Nat) : Int)) (.leaf ((int (32 : Int)), e13)) (.fork (leI (64 : Int) e2) (.leaf ((int (31 : Int)), e13)) (.need (@isSo (@And ((@HAppend.hAppend _ _ _ _ (@HAppend.hAppend _ _ _ _ [] [e8]) []) = [e8]) (@Or (false = true) (((nd).cls).length ≤ 1024)))) (.need (@isSo (@And ((@HAppend.hAppend _ _ _ _ (@HAppend.hAppend _ _ _ _ [] [e9]) []) = [e9]) (@Or (false = true) (((nd).atts).length ≤ 1024)))) (.fork (!(leI e2 e1)) (.need (@inR (w64 (e2 - (1 : Int))) (os).length) (.need (@Nat.blt ((w64 (e2 - (1 : Int)))).toNat (os).length) (.need e15 (.need e17 (.leaf ((int e1), (@Mem.mk (((e18 + 1) + 1) + 1) (e19 + 1) (e22 :: ((some (@Blk.mk e21 3 none)) :: ((some (@Blk.mk [] 40 (some (@Rw.mk e14 6 (@appc (ns).length (@ndcell ns) (fun y0 => (fun y1 => (@getA (@List.take _ 6 (e23 :: (e4 :: e5 :: e24 :: e25 :: (e10 :: (@List.drop _ (0 + ((e23 :: e26)).length) e30))))) ((y0 * 6) + y1))))))))) :: ((some (@Blk.mk (e23 :: (e4 :: e5 :: e8 :: e9 :: (e10 :: (@List.drop _ (0 + ((e23 :: e31)).length) e30)))) 40 none)) :: [e33, e34, (some (@Blk.mk (e23 :: (@List.drop _ (0 + ([e23]).length) e36)) 40 none)), e12, none, none, e38]))))))))))) (.need e15 (.need e17 (.leaf ((int e1), (@Mem.mk (((e18 + 1) + 1) + 1) e19 (e22 :: ((some (@Blk.mk e21 3 none)) :: ((some (@Blk.mk [] 40 (some (@Rw.mk e14 6 (@appc (ns).length (@ndcell ns) (fun y0 => (fun y1 => (@getA (@List.take _ 6 (e35 :: (e4 :: e5 :: e24 :: e25 :: (e10 :: (@List.drop _ (0 + ((e35 :: e26)).length) e30))))) ((y0 * 6) + y1))))))))) :: ((some (@Blk.mk (e35 :: (e4 :: e5 :: e8 :: e9 :: (e10 :: (@List.drop _ (0 + ((e35 :: e31)).length) e30)))) 40 none)) :: [e33, e34, (some (@Blk.mk e36 40 none)), e12, none, none, e38])))))))))))))))))) (by kernel_rfl) (by
    obtain ⟨hok, hel, hn, ho, hno⟩ := h
    have hok2 : nd.tag.size ≤ 9223372036854775807 ∧ nd.id.size ≤ 9223372036854775807 ∧ (nd.cls.length ≤ 17592186044416 ∧ ∀ s ∈ nd.cls, s.size ≤ maxLen) ∧ (nd.atts.length ≤ 17592186044416 ∧ ∀ t ∈ nd.atts, t.Ok) ∧ nd.text.size ≤ 9223372036854775807 := hok
    obtain ⟨hl1, hl2⟩ := elem_lens hel
    have f1 : leI 1024 ((ns.length : Nat) : Int) = false := by rw [leI_f]; omega
    have f2 : leI 64 ((os.length : Nat) : Int) = false := by rw [leI_f]; omega
    have hroomA : (Bool.true && ((Nat.ble ns.length ns.length) && ((Nat.ble ((ns.length + 1) * 104) 140737488355328) && (Nat.ble (ns.length + 1) 17592186044416)))) = true := by
      simp only [Bool.true_and, Bool.and_eq_true, Nat.ble_eq]; omega
    have hroomB : (Bool.true && ((Nat.ble os.length os.length) && ((Nat.ble ((os.length + 1) * 8) 140737488355328) && (Nat.ble (os.length + 1) 17592186044416)))) = true := by
      simp only [Bool.true_and, Bool.and_eq_true, Nat.ble_eq]; omega
    have hw : w64 ((((ns.length + 1 : Nat) : Int)) - 1) = (ns.length : Int) := by
      rw [show (((ns.length + 1 : Nat) : Int)) - 1 = (ns.length : Int) by omega]
      exact w64_in (by omega)
    conv => zeta
    cases hm : eqI ((os.length : Nat) : Int) 0 with
    | true =>
      have f3 : leI ((os.length : Nat) : Int) 0 = true := by
        have hm' := hm
        rw [eqI_t] at hm'
        rw [leI_t]; omega
      have f4 : leI ((ns.length : Nat) : Int) 0 = true := by
        have hm' := hm
        rw [eqI_t] at hm'
        rw [leI_t]; omega
      have hlast := last_none hm
      (repeat' (first
            | (refine need_so ?_ ?_; (focus (first | exact ⟨rfl, by assumption⟩ | exact ⟨rfl, Or.inr (by assumption)⟩ | exact ⟨rfl, Or.inl rfl⟩ | assumption)))
            | (refine need_t ?_ ?_; (focus (first | assumption | exact hroomA | exact hroomB)))
            | (refine fork_t ?_ ?_; (focus (first | assumption | (simp only [*, Bool.not_true, Bool.not_false]; done))))
            | (refine fork_f ?_ ?_; (focus (first | assumption | (simp only [*, Bool.not_true, Bool.not_false]; done))))))
      exact ⟨rfl, 8, _, _, 10, _, _, rfl, rfl, rfl, NEq.app1 _ (NEq.base _) (fun j hj => by
        rcases j with _ | _ | _ | _ | _ | _ | j
        · exact congrArg int hlast
        · exact rfl
        · exact rfl
        · exact rfl
        · exact rfl
        · exact rfl
        · omega), ZRows.app1 _ (ZRows.base _) (congrArg int hw)⟩
    | false =>
      have hm' := hm
      rw [eqI_f] at hm'
      have f3 : leI ((os.length : Nat) : Int) 0 = false := by rw [leI_f]; omega
      have hlast := last_some (by omega) hm
      obtain ⟨g1, g2, _⟩ := idx_last (os := os) (by omega) hm
      cases f4 : leI ((ns.length : Nat) : Int) 0 with
      | true =>
        (repeat' (first
            | (refine need_so ?_ ?_; (focus (first | exact ⟨rfl, by assumption⟩ | exact ⟨rfl, Or.inr (by assumption)⟩ | exact ⟨rfl, Or.inl rfl⟩ | assumption)))
            | (refine need_t ?_ ?_; (focus (first | assumption | exact hroomA | exact hroomB)))
            | (refine fork_t ?_ ?_; (focus (first | assumption | (simp only [*, Bool.not_true, Bool.not_false]; done))))
            | (refine fork_f ?_ ?_; (focus (first | assumption | (simp only [*, Bool.not_true, Bool.not_false]; done))))))
        exact ⟨rfl, 8, _, _, 10, _, _, rfl, rfl, rfl, NEq.app1 _ (NEq.base _) (fun j hj => by
          rcases j with _ | _ | _ | _ | _ | _ | j
          · exact congrArg int hlast
          · exact rfl
          · exact rfl
          · exact rfl
          · exact rfl
          · exact rfl
          · omega), ZRows.app1 _ (ZRows.base _) (congrArg int hw)⟩
      | false =>
        (repeat' (first
            | (refine need_so ?_ ?_; (focus (first | exact ⟨rfl, by assumption⟩ | exact ⟨rfl, Or.inr (by assumption)⟩ | exact ⟨rfl, Or.inl rfl⟩ | assumption)))
            | (refine need_t ?_ ?_; (focus (first | assumption | exact hroomA | exact hroomB)))
            | (refine fork_t ?_ ?_; (focus (first | assumption | (simp only [*, Bool.not_true, Bool.not_false]; done))))
            | (refine fork_f ?_ ?_; (focus (first | assumption | (simp only [*, Bool.not_true, Bool.not_false]; done))))))
        exact ⟨rfl, 8, _, _, 10, _, _, rfl, rfl, rfl, NEq.app1 _ (NEq.base _) (fun j hj => by
          rcases j with _ | _ | _ | _ | _ | _ | j
          · exact congrArg int hlast
          · exact rfl
          · exact rfl
          · exact rfl
          · exact rfl
          · exact rfl
          · omega), ZRows.app1 _ (ZRows.base _) (congrArg int hw)⟩)
theorem Sy.wrd_t (x : ByteArray) (ns : List NdV) (os : List Int) (h : WrdC x ns os) : CallTo Try.prog 41 [.ptr 0 0, .lit (.string x)] (bdM ns os) fun v M' => v = int 0 ∧ BEnd M' (ns ++ [wrdN x os]) os :=
  to (G := fun r => r.1 = int 0 ∧ BEnd r.2 (ns ++ [wrdN x os]) os) [cText, cClS [], cClA []] [] 400 30 (.auto 0 (.br (.auto 0 (.yes (.auto 1 (.br .done (.br (.auto 0 .done) (.br (.auto 0 .done) (.auto 0 (.yes (.yes (.br (.yes (.yes (.yes .done))) (.yes .done))))))))))) (.auto 3 .done))) (let e1 := (((os).length : Nat) : Int); let e2 := (some (@Blk.mk [] 3 (some (@Rw.mk (os).length 1 (@zcell os))))); let e3 := (@Mem.mk 3 0 [e2, (some (@Blk.mk [] 40 (some (@Rw.mk (ns).length 6 (@ndcell ns))))), (some (@Blk.mk [(@AV.own 1 (ns).length 6), (@AV.own 2 (os).length 1)] 70 none))]); let e4 := (@Value.slice none 0 0); let e5 := (@AV.lit e4); let e6 := (@isSo (@And ((@HAppend.hAppend _ _ _ _ (@HAppend.hAppend _ _ _ _ [] [e5]) []) = [e5]) (@Or (true = true) (0 ≤ 1024)))); let e7 := ((ns).length + 1); let e8 := (Bool.true && ((@Nat.ble (ns).length (ns).length) && ((@Nat.ble (e7 * 104) 140737488355328) && (@Nat.ble e7 17592186044416)))); let e9 := (int (0 : Int)); let e10 := (((((3 + 1) + 1) + 1) + 1) + 1); let e11 := (((((((0 + 1) + 1) + 1) + 1) + 1) + 1) + 1); let e12 := (int (os.getD ((w64 (e1 - (1 : Int)))).toNat (0 : Int))); let e13 := (@ByteArray.mk (@Array.mk _ [])); let e14 := (@Value.string e13); let e15 := (@AV.lit e14); let e16 := (@Value.tuple (@Array.mk _ [])); let e17 := (@AV.view 0 1 (fun y2 => (fun y3 => (@AV.lit ([(@Value.string ([].getD y2 e13))].getD y3 e16))))); let e18 := (@AV.view 0 2 (fun y2 => (fun y3 => (@AV.lit ([(@Value.string (([].getD y2 attrNone)).name), (@Value.string (([].getD y2 attrNone)).value)].getD y3 e16))))); let e19 := (@AV.lit (@Value.string x)); let e20 := (e15 :: e15 :: e17 :: e18 :: [e19]); let e21 := (@Array.toList _ (@Array.mk _ [(@Value.int IntKind.i64 (0 : Int)), e14, e14, e4, e4, e14])); let e22 := (@List.map _ _ AV.lit (@Array.toList _ (@Array.mk _ [(@List.get _ e21 (@Fin.mk _ 0 (@Nat.le_of_ble_eq_true _ _ (@Eq.refl _ true)))), (@List.get _ e21 (@Fin.mk _ 1 (@Nat.le_of_ble_eq_true _ _ (@Eq.refl _ true)))), (@List.get _ e21 (@Fin.mk _ 2 (@Nat.le_of_ble_eq_true _ _ (@Eq.refl _ true)))), (@List.get _ e21 (@Fin.mk _ 3 (@Nat.le_of_ble_eq_true _ _ (@Eq.refl _ true)))), (@List.get _ e21 (@Fin.mk _ 4 (@Nat.le_of_ble_eq_true _ _ (@Eq.refl _ true)))), (@List.get _ e21 (@Fin.mk _ 5 (@Nat.le_of_ble_eq_true _ _ (@Eq.refl _ true))))]))); let e23 := (@AV.view 0 1 (fun y0 => (fun y1 => (@AV.lit ([(@Value.string ([].getD y0 e13))].getD y1 e16))))); let e24 := (@AV.view 0 2 (fun y0 => (fun y1 => (@AV.lit ([(@Value.string (([].getD y0 attrNone)).name), (@Value.string (([].getD y0 attrNone)).value)].getD y1 e16))))); let e25 := (e15 :: e15 :: e23 :: e24 :: [e19]); let e26 := (0 + ((e9 :: e15 :: e15 :: e23 :: e24 :: [e19])).length); let e27 := (some (@Blk.mk (e9 :: e15 :: e15 :: e23 :: e24 :: (e19 :: (@List.drop _ e26 [e9, e15, e15, e5, e5, e15]))) 40 none)); let e28 := (some (@Blk.mk (e9 :: e15 :: e15 :: e23 :: e24 :: (@List.drop _ (4 + ([e24]).length) (e9 :: e15 :: e15 :: e23 :: (@List.drop _ (3 + ([e23]).length) (e9 :: e15 :: e15 :: e5 :: e5 :: [e19]))))) 40 none)); let e29 := (int (-1 : Int)); let e30 := (e29 :: (@List.drop _ 1 (e9 :: e15 :: e15 :: e23 :: e24 :: (e19 :: (@List.drop _ e26 (e9 :: e15 :: e15 :: e5 :: e5 :: (e19 :: (@List.drop _ (5 + ([e19]).length) (@List.map _ _ AV.lit e21))))))))); let e31 := (some (@Blk.mk [(@AV.own ((((3 + 1) + 1) + 1) + 1) e7 6), (@AV.own 2 (os).length 1)] 70 none)); (.fork (!(eqI e1 (0 : Int))) (.need (@isSo ((@ByteArray.size x) ≤ 9223372036854775807)) (.fork (!(@Pl.textL (@Array.toList _ (@ByteArray.data x)))) (.leaf ((int (34 : Int)), e3)) (.fork (leI (1024 : Int) (((ns).length : Nat) : Int)) (.leaf ((int (32 : Int)), e3)) (.fork (leI (64 : Int) e1) (.leaf ((int (31 : Int)), e3)) (.need e6 (.need e6 (.fork (!(leI e1 (0 : Int))) (.need (@inR (w64 (e1 - (1 : Int))) (os).length) (.need (@Nat.blt ((w64 (e1 - (1 : Int)))).toNat (os).length) (.need e8 (.leaf (e9, (@Mem.mk e10 (e11 + 1) ((some (@Blk.mk [] 40 (some (@Rw.mk e7 6 (@appc (ns).length (@ndcell ns) (fun y0 => (fun y1 => (@getA (@List.take _ 6 (e12 :: (e15 :: e15 :: e17 :: e18 :: (e19 :: (@List.drop _ (0 + ((e12 :: e20)).length) e22))))) ((y0 * 6) + y1))))))))) :: ((some (@Blk.mk (e12 :: (e15 :: e15 :: e23 :: e24 :: (e19 :: (@List.drop _ (0 + ((e12 :: e25)).length) e22)))) 40 none)) :: [e27, e28, (some (@Blk.mk (e12 :: (@List.drop _ (0 + ([e12]).length) e30)) 40 none)), e2, none, e31])))))))) (.need e8 (.leaf (e9, (@Mem.mk e10 e11 ((some (@Blk.mk [] 40 (some (@Rw.mk e7 6 (@appc (ns).length (@ndcell ns) (fun y0 => (fun y1 => (@getA (@List.take _ 6 (e29 :: (e15 :: e15 :: e17 :: e18 :: (e19 :: (@List.drop _ (0 + ((e29 :: e20)).length) e22))))) ((y0 * 6) + y1))))))))) :: ((some (@Blk.mk (e29 :: (e15 :: e15 :: e23 :: e24 :: (e19 :: (@List.drop _ (0 + ((e29 :: e25)).length) e22)))) 40 none)) :: [e27, e28, (some (@Blk.mk e30 40 none)), e2, none, e31]))))))))))))) (.leaf ((int (34 : Int)), e3)))) (by kernel_rfl) (by
    obtain ⟨hok, htx, hn, ho, hno⟩ := h
    have hok2 : x.size ≤ 9223372036854775807 := hok
    have f1 : leI 1024 ((ns.length : Nat) : Int) = false := by rw [leI_f]; omega
    have f2 : leI 64 ((os.length : Nat) : Int) = false := by rw [leI_f]; omega
    have hroomA : (Bool.true && ((Nat.ble ns.length ns.length) && ((Nat.ble ((ns.length + 1) * 104) 140737488355328) && (Nat.ble (ns.length + 1) 17592186044416)))) = true := by
      simp only [Bool.true_and, Bool.and_eq_true, Nat.ble_eq]; omega
    have hroomB := hroomA
    conv => zeta
    have hm : eqI ((os.length : Nat) : Int) 0 = false := by rw [eqI_f]; omega
    have f3 : leI ((os.length : Nat) : Int) 0 = false := by rw [leI_f]; omega
    have hlast := last_some (by omega) hm
    obtain ⟨g1, g2, _⟩ := idx_last (os := os) (by omega) hm
    (repeat' (first
            | (refine need_so ?_ ?_; (focus (first | exact ⟨rfl, by assumption⟩ | exact ⟨rfl, Or.inr (by assumption)⟩ | exact ⟨rfl, Or.inl rfl⟩ | assumption)))
            | (refine need_t ?_ ?_; (focus (first | assumption | exact hroomA | exact hroomB)))
            | (refine fork_t ?_ ?_; (focus (first | assumption | (simp only [*, Bool.not_true, Bool.not_false]; done))))
            | (refine fork_f ?_ ?_; (focus (first | assumption | (simp only [*, Bool.not_true, Bool.not_false]; done))))))
    exact ⟨rfl, 7, _, _, 2, _, _, rfl, rfl, rfl, NEq.app1 _ (NEq.base _) (fun j hj => by
          rcases j with _ | _ | _ | _ | _ | _ | j
          · exact congrArg int hlast
          · exact rfl
          · exact rfl
          · exact rfl
          · exact rfl
          · exact rfl
          · omega), ZRows.base _⟩)
theorem Sy.clo_t (ns : List NdV) (os : List Int) (h : os.length ≤ 64 ∧ os.length ≠ 0) : CallTo Try.prog 40 [.ptr 0 0] (bdM ns os) fun v M' => v = int 0 ∧ BEnd M' ns os.dropLast := by
  obtain ⟨ho, hno⟩ := h
  have hm : eqI ((os.length : Nat) : Int) 0 = false := by rw [eqI_f]; omega
  obtain ⟨g1, g2, _, g4, g5⟩ := idx_last (os := os) ho hm
  have key : CallTo Try.prog 40 [.ptr 0 0] (bdM ns os) fun v M' => v = int 0 ∧ M' = ⟨3, 1, [some (irowB os), some (nrowB ns), some (bdB 1 ns.length 2 (w64 ((os.length : Nat) - 1 : Int)).toNat)]⟩ :=
    to (G := fun r => r.1 = int 0 ∧ r.2 = ⟨3, 1, [some (irowB os), some (nrowB ns), some (bdB 1 ns.length 2 (w64 ((os.length : Nat) - 1 : Int)).toNat)]⟩) [] [] 400 30 (.auto 0 (.br .done (.yes .done))) (.fork (eqI (((os).length : Nat) : Int) (0 : Int)) (.leaf ((int (34 : Int)), (@Mem.mk 3 0 [(some (@Blk.mk [] 3 (some (@Rw.mk (os).length 1 (@zcell os))))), (some (@Blk.mk [] 40 (some (@Rw.mk (ns).length 6 (@ndcell ns))))), (some (@Blk.mk [(@AV.own 1 (ns).length 6), (@AV.own 2 (os).length 1)] 70 none))]))) (.need (true && ((leI (0 : Int) (w64 ((((os).length : Nat) : Int) - (1 : Int)))) && (leI (w64 ((((os).length : Nat) : Int) - (1 : Int))) (((os).length : Nat) : Int)))) (.leaf ((int (0 : Int)), (@Mem.mk 3 (0 + 1) [(some (@Blk.mk [] 3 (some (@Rw.mk (os).length 1 (@zcell os))))), (some (@Blk.mk [] 40 (some (@Rw.mk (ns).length 6 (@ndcell ns))))), (some (@Blk.mk [(@AV.own 1 (ns).length 6), (@AV.own 2 ((w64 ((((os).length : Nat) : Int) - (1 : Int)))).toNat 1)] 70 none))]))))) (by kernel_rfl) (fork_f hm (need_t g5 ⟨rfl, rfl⟩))
  refine (key.cutRow 2 (w64 ((os.length : Nat) - 1 : Int)).toNat rfl (by omega)).mono fun v M' hg => ?_
  obtain ⟨rfl, rfl⟩ := hg
  exact ⟨rfl, 1, _, _, 2, _, _, rfl, rfl, rfl, NEq.base _, ZRows.cut g4⟩
noncomputable abbrev Sy.cOpn (nd : NdV) (ns : List NdV) (os : List Int) : Con Try.prog := conB 38 [ndG nd] ns os (ns ++ [putN nd os]) (os ++ [(ns.length : Int)]) (OpnC nd ns os) fun h => ⟨⟨ndG_free nd, trivial⟩, opn_t nd ns os h⟩
noncomputable abbrev Sy.cWrd (x : ByteArray) (ns : List NdV) (os : List Int) : Con Try.prog := conB 41 [.lit (.string x)] ns os (ns ++ [wrdN x os]) os (WrdC x ns os) fun h => ⟨⟨trivial, trivial⟩, wrd_t x ns os h⟩
noncomputable abbrev Sy.cClo (ns : List NdV) (os : List Int) : Con Try.prog := conB 40 [] ns os ns os.dropLast (os.length ≤ 64 ∧ os.length ≠ 0) fun h => ⟨trivial, clo_t ns os h⟩
end Go.Proofs.Ytglkdhmikpejnaa
namespace Go.Proofs.Ytglkdhmikpejnaa
open Go Go.RowKit Pl Sy
def ndN (ns : List NdV) (k : Int) : NdV := ns.getD k.toNat ndNone
namespace Sy
abbrev dnF (n : Nat) (m : Nat) (k : Int) : Fr := (some ((@AV.ptr 0 0)) :: none :: none :: none :: some (.own 3 m 6) :: (nn29 (some (.own 1 n 6) :: some (int (n : Nat)) :: some (int k) :: (nn10 []))))
abbrev dnM (ns : List NdV) (os : List Int) (out : List NdV) : Mem := ⟨4, 0, some (nrowB out) :: (bdM ns os).bs⟩
abbrev dnF2 (n : Nat) (m : Nat) (k : Int) : Fr := (some ((@AV.ptr 0 0)) :: none :: none :: none :: some (.own 4 m 6) :: (nn29 (some (.own 1 n 6) :: some (int (n : Nat)) :: some (int k) :: (nn10 []))))
abbrev dnM2 (ns : List NdV) (os : List Int) (out : List NdV) : Mem := ⟨5, 0, some (nrowB out) :: none :: (bdM ns os).bs⟩
end Sy
namespace Sy
abbrev dnZ : Value := .agg #[.int .i64 0, .string ⟨#[]⟩, .string ⟨#[]⟩, .slice none 0 0, .slice none 0 0, .string ⟨#[]⟩]
abbrev dnG (n x m : Nat) (k : Int) : Fr := (some ((@AV.ptr 0 0)) :: none :: none :: none :: some (.own x m 6) :: (nn29 (some (.own 1 n 6) :: some (int (n : Nat)) :: some (int k) :: (nn10 []))))
theorem dnF_ren (n : Nat) {x m m' : Nat} {k k' : Int} (hm : m = m') (hk : k = k') : RenF (nm [0, 1, 2, 3, x]) (dnG n x m k) (dnF2 n m' k') := by
  subst hm hk
  simp only [RenF, and_true]
  exact ⟨⟨rfl, rfl⟩, ⟨rfl, rfl, rfl⟩, ⟨rfl, rfl, rfl⟩, rfl, rfl⟩
theorem dnM_ren {M : Mem} {ns out : List NdV} {os : List Int} {x n : Nat} {c : Nat → Nat → AV} (hd : [0, 1, 2, 3, x].Nodup) (h0 : M.get 0 = some ⟨[.own 1 ns.length 6, .own 2 os.length 1], 70, none⟩)
    (h1 : M.get 1 = some (nrowB ns)) (h2 : M.get 2 = some (irowB os)) (h5 : M.get x = some ⟨[], 40, some ⟨n, 6, c⟩⟩)
    (r : NRows n c out) : RenM (nm [0, 1, 2, 3, x]) M (dnM2 ns os out) := by
  have z : RenR (nm [0, 1, 2, 3, x]) (some ⟨os.length, 1, zcell os⟩) (some ⟨os.length, 1, zcell os⟩) := ⟨rfl, rfl, fun i j hi hj => RenV.free _ trivial⟩
  have y : ∀ {n : Nat} {cz : Nat → Nat → AV} {ns : List NdV}, NRows n cz ns → RenR (nm [0, 1, 2, 3, x]) (some ⟨n, 6, cz⟩) (some ⟨ns.length, 6, ndcell ns⟩) := fun h => ⟨h.1.symm, rfl, fun i j hi hj => h.2 _ i j (by have := h.1; simp only at hi; omega) hj⟩
  refine .of rfl rfl hd ⟨⟨x, _, rfl, h5, rfl, trivial, y r⟩, ⟨2, _, rfl, h2, rfl, trivial, z⟩, ⟨1, _, rfl, h1, rfl, trivial, y (NRows.base ns)⟩, ⟨0, _, rfl, h0, rfl, ⟨⟨rfl, rfl, rfl⟩, ⟨rfl, rfl, rfl⟩, trivial⟩, trivial⟩, trivial⟩
theorem dnF_id (n : Nat) : RenF (nm [0, 1, 2, 3]) (dnF n 0 0) (dnF n 0 0) := by
  simp only [RenF, and_true]
  exact ⟨⟨rfl, rfl⟩, ⟨rfl, rfl, rfl⟩, ⟨rfl, rfl, rfl⟩, rfl, rfl⟩
theorem dnM_id (ns : List NdV) (os : List Int) : RenM (nm [0, 1, 2, 3]) ⟨4, 0, some ⟨[], 40, some ⟨0, 6, mkc dnZ⟩⟩ :: (bdM ns os).bs⟩ (dnM ns os []) := by
  have z : RenR (nm [0, 1, 2, 3]) (some ⟨os.length, 1, zcell os⟩) (some ⟨os.length, 1, zcell os⟩) := ⟨rfl, rfl, fun i j hi hj => RenV.free _ trivial⟩
  have y : ∀ {n : Nat} {cz : Nat → Nat → AV} {ns : List NdV}, NRows n cz ns → RenR (nm [0, 1, 2, 3]) (some ⟨n, 6, cz⟩) (some ⟨ns.length, 6, ndcell ns⟩) := fun h => ⟨h.1.symm, rfl, fun i j hi hj => h.2 _ i j (by have := h.1; simp only at hi; omega) hj⟩
  refine .of rfl rfl (by decide) ⟨⟨3, _, rfl, rfl, rfl, trivial, y (ns := []) ⟨rfl, fun σ i j hi hj => absurd hi (by omega)⟩⟩, ⟨2, _, rfl, rfl, rfl, trivial, z⟩, ⟨1, _, rfl, rfl, rfl, trivial, y (NRows.base ns)⟩, ⟨0, _, rfl, rfl, rfl, ⟨⟨rfl, rfl, rfl⟩, ⟨rfl, rfl, rfl⟩, trivial⟩, trivial⟩, trivial⟩
theorem dn_loop2 (ns : List NdV) (os : List Int) (hn : ns.length ≤ 1024) (hs : ∀ x ∈ ns, x.cls.length ≤ 1024 ∧ x.atts.length ≤ 1024) : ∀ (n k : Nat), k ≤ ns.length → ns.length - k < n →
    LoopToT 4 Try.prog (theBody Try.prog 22 8) n (dnF2 ns.length (ns.take k).length k) (dnM2 ns os (ns.take k)) (RG 4 fun ex F M => ex = .exit 1 ∧ F = dnF2 ns.length ns.length ns.length ∧ M = dnM2 ns os ns) := by
  intro n
  induction n with
  | zero => intro k h1 h2; omega
  | succ n ih =>
    intro k h1 h2
    have hk : (ns.take k).length = k := by rw [List.length_take]; omega
    refine roundT plain mixed 4 [cClS (ndN ns (k : Int)).cls, cClA (ndN ns (k : Int)).atts] [] 400 30 22 8 Try.func22 rfl (by kernel_rfl) (true :: false :: false :: false :: true :: (ff29 (true :: true :: true :: (ff10 [])))) ((.br (.yes (.yes (.yes (.yes (.yes .done))))) .done)) (let k0 := k; let k : Int := k; let out := ns.take k0; (let e1 := (@ByteArray.mk (@Array.mk _ [])); let e2 := (@Value.tuple (@Array.mk _ [])); let e3 := (@AV.view (((ns.getD (k).toNat ndNone)).cls).length 1 (fun y0 => (fun y1 => (@AV.lit ([(@Value.string (((ns.getD (k).toNat ndNone)).cls.getD y0 e1))].getD y1 e2))))); let e4 := (((@ndN ns k)).cls); let e5 := (@AV.view e4.length 1 (fun y0 => (fun y1 => (@AV.lit ([(@Value.string (((@ndN ns k)).cls.getD y0 e1))].getD y1 e2))))); let e6 := (@AV.view (((ns.getD (k).toNat ndNone)).atts).length 2 (fun y0 => (fun y1 => (@AV.lit ([(@Value.string ((((ns.getD (k).toNat ndNone)).atts.getD y0 attrNone)).name), (@Value.string ((((ns.getD (k).toNat ndNone)).atts.getD y0 attrNone)).value)].getD y1 e2))))); let e7 := (((@ndN ns k)).atts); let e8 := (@AV.view e7.length 2 (fun y0 => (fun y1 => (@AV.lit ([(@Value.string ((((@ndN ns k)).atts.getD y0 attrNone)).name), (@Value.string ((((@ndN ns k)).atts.getD y0 attrNone)).value)].getD y1 e2))))); let e9 := ((out).length + 1); let e10 := (some (@AV.own 1 (ns).length 6)); let e11 := (some (int (((ns).length : Nat) : Int))); let e12 := (int ((ns.getD (k).toNat ndNone)).par); let e13 := (@AV.lit (@Value.string ((ns.getD (k).toNat ndNone)).tag)); let e14 := (@AV.lit (@Value.string ((ns.getD (k).toNat ndNone)).id)); let e15 := (@AV.view e4.length 1 (fun y2 => (fun y3 => (@AV.lit ([(@Value.string (((@ndN ns k)).cls.getD y2 e1))].getD y3 e2))))); let e16 := (@AV.view e7.length 2 (fun y2 => (fun y3 => (@AV.lit ([(@Value.string ((((@ndN ns k)).atts.getD y2 attrNone)).name), (@Value.string ((((@ndN ns k)).atts.getD y2 attrNone)).value)].getD y3 e2))))); let e17 := (@AV.lit (@Value.string ((ns.getD (k).toNat ndNone)).text)); let e18 := (@Value.string e1); let e19 := (@Value.slice none 0 0); let e20 := (@Array.toList _ (@Array.mk _ [(@Value.int IntKind.i64 (0 : Int)), e18, e18, e19, e19, e18])); let e21 := (@List.map _ _ AV.lit (@Array.toList _ (@Array.mk _ [(@List.get _ e20 (@Fin.mk _ 0 (@Nat.le_of_ble_eq_true _ _ (@Eq.refl _ true)))), (@List.get _ e20 (@Fin.mk _ 1 (@Nat.le_of_ble_eq_true _ _ (@Eq.refl _ true)))), (@List.get _ e20 (@Fin.mk _ 2 (@Nat.le_of_ble_eq_true _ _ (@Eq.refl _ true)))), (@List.get _ e20 (@Fin.mk _ 3 (@Nat.le_of_ble_eq_true _ _ (@Eq.refl _ true)))), (@List.get _ e20 (@Fin.mk _ 4 (@Nat.le_of_ble_eq_true _ _ (@Eq.refl _ true)))), (@List.get _ e20 (@Fin.mk _ 5 (@Nat.le_of_ble_eq_true _ _ (@Eq.refl _ true))))]))); let e22 := (0 + ((e12 :: e13 :: e14 :: e5 :: e8 :: [e17])).length); let e23 := (@AV.lit e18); let e24 := (@AV.lit e19); let e25 := (some (@Blk.mk [] 3 (some (@Rw.mk (os).length 1 (@zcell os))))); let e26 := (some (@Blk.mk [] 40 (some (@Rw.mk (ns).length 6 (@ndcell ns))))); let e27 := (some (@Blk.mk [(@AV.own 1 (ns).length 6), (@AV.own 2 (os).length 1)] 70 none)); (.fork (!(leI (((ns).length : Nat) : Int) k)) (.need (@inR k (ns).length) (.need (@Nat.blt (k).toNat (ns).length) (.need (@isSo (@And ((@HAppend.hAppend _ _ _ _ (@HAppend.hAppend _ _ _ _ [] [e3]) []) = [e5]) (@Or (false = true) (e4.length ≤ 1024)))) (.need (@isSo (@And ((@HAppend.hAppend _ _ _ _ (@HAppend.hAppend _ _ _ _ [] [e6]) []) = [e8]) (@Or (false = true) (e7.length ≤ 1024)))) (.need (Bool.true && ((@Nat.ble (out).length (out).length) && ((@Nat.ble (e9 * 104) 140737488355328) && (@Nat.ble e9 17592186044416)))) (.leaf (Ex.norm, (((some (@AV.ptr 0 0)) :: none :: none :: none :: (some (@AV.own ((((5 + 1) + 1) + 1) + 1) e9 6)) :: (nn29 (e10 :: e11 :: (some (int (w64 (k + (1 : Int))))) :: (nn10 [])))), (@Mem.mk (((((5 + 1) + 1) + 1) + 1) + 1) (((((0 + 1) + 1) + 1) + 1) + 1) ((some (@Blk.mk [] 40 (some (@Rw.mk e9 6 (@appc (out).length (@ndcell out) (fun y0 => (fun y1 => (@getA (@List.take _ 6 (e12 :: e13 :: e14 :: e15 :: e16 :: (e17 :: (@List.drop _ (0 + ((e12 :: e13 :: e14 :: e15 :: e16 :: [e17])).length) e21)))) ((y0 * 6) + y1))))))))) :: ((some (@Blk.mk (e12 :: e13 :: e14 :: e5 :: e8 :: (e17 :: (@List.drop _ e22 e21))) 40 none)) :: ((some (@Blk.mk (e12 :: e13 :: e14 :: e5 :: e8 :: (e17 :: (@List.drop _ e22 [(int (0 : Int)), e23, e23, e24, e24, e23]))) 40 none)) :: (some (@Blk.mk (e12 :: e13 :: e14 :: e5 :: e8 :: (@List.drop _ (4 + ([e8]).length) (e12 :: e13 :: e14 :: e5 :: (@List.drop _ (3 + ([e5]).length) [e12, e13, e14, e3, e6, e17])))) 40 none)) :: [(some (@Blk.mk (e12 :: e13 :: e14 :: e3 :: e6 :: e17 :: (@List.drop _ (0 + ([e12, e13, e14, e3, e6, e17]).length) [(int (0 : Int)), e23, e23, e24, e24, e23])) 40 none)), none, none, e25, e26, e27])))))))))))) (.leaf ((@Ex.exit 1), (((some (@AV.ptr 0 0)) :: none :: none :: none :: (some (@AV.own 4 (out).length 6)) :: (nn29 (e10 :: e11 :: (some (int k)) :: (nn10 [])))), (@Mem.mk 5 0 [(some (@Blk.mk [] 40 (some (@Rw.mk (out).length 6 (@ndcell out))))), none, e25, e26, e27]))))))) (by kernel_rfl) ?_
    refine fork_ok (fun h3 => ?_) (fun h3 => ?_)
    · simp only [Bool.not_eq_true', Bool.not_eq_false', leI_t, leI_f, eqI_t, eqI_f, inR_t, inR_f, isSo_t, isSo_f] at h3
      have hin : inR (k : Int) ns.length = true := by rw [inR_t]; omega
      have hlt : Nat.blt (k : Int).toNat ns.length = true := by rw [Nat.blt_eq]; omega
      obtain ⟨hc, ha⟩ := hs _ (getD_mem ns (k : Int) ndNone (by omega) (by omega))
      have hroom : (true && (Nat.ble (ns.take k).length (ns.take k).length && (Nat.ble (((ns.take k).length + 1) * 104) 140737488355328 && Nat.ble ((ns.take k).length + 1) 17592186044416))) = true := by
        simp only [Bool.true_and, Bool.and_eq_true, Nat.ble_eq]; omega
      refine need_t hin (need_t hlt (need_so ⟨rfl, Or.inr hc⟩ (need_so ⟨rfl, Or.inr ha⟩ (need_t hroom ?_))))
      have et : ns.take (k + 1) = ns.take k ++ [ndN ns (k : Int)] := by
        unfold ndN
        rw [List.take_add_one, List.getD_eq_getElem?_getD]
        have hg : ns[k]? = some ns[k] := List.getElem?_eq_getElem (by omega)
        rw [Int.toNat_natCast, hg]; rfl
      have := ih (k + 1) (by omega) (by omega)
      rw [et] at this
      refine LoopToT.ren [0, 1, 2, 3, 9] rfl ?_ ?_ this
      · exact dnF_ren _ (by simp) (by rw [w64_in (by omega)]; rfl)
      · exact dnM_ren (by decide) rfl rfl rfl rfl (NRows.app1 _ (NRows.base _) (fun σ j hj => by
          rcases j with _ | _ | _ | _ | _ | _ | j
          · exact rfl
          · exact rfl
          · exact rfl
          · exact RenV.free σ (ndA_free (ndN ns (k : Int)) 3)
          · exact RenV.free σ (ndA_free (ndN ns (k : Int)) 4)
          · exact rfl
          · omega))
    · simp only [Bool.not_eq_true', Bool.not_eq_false', leI_t, leI_f, eqI_t, eqI_f, inR_t, inR_f, isSo_t, isSo_f] at h3
      have hk : k = ns.length := by omega
      subst hk
      rw [List.take_length]
      exact ⟨_, _, [0, 1, 2, 3, 4], rfl, dnF_ren _ rfl rfl, dnM_ren (by decide) rfl rfl rfl rfl (NRows.base _), rfl, rfl, rfl⟩
theorem dn_loop (ns : List NdV) (os : List Int) (h0 : 0 < ns.length) (hn : ns.length ≤ 1024) (hs : ∀ x ∈ ns, x.cls.length ≤ 1024 ∧ x.atts.length ≤ 1024) :
    LoopToT 4 Try.prog (theBody Try.prog 22 8) (ns.length + 1) (dnF ns.length ([] : List NdV).length 0) (dnM ns os []) (RG 4 fun ex F M => ex = .exit 1 ∧ F = dnF2 ns.length ns.length ns.length ∧ M = dnM2 ns os ns) := by
  refine roundT plain mixed 4 [cClS (ndN ns 0).cls, cClA (ndN ns 0).atts] [] 400 30 22 8 Try.func22 rfl (by kernel_rfl) (true :: false :: false :: false :: true :: (ff29 (true :: true :: true :: (ff10 [])))) ((.br (.yes (.yes (.yes (.yes (.yes .done))))) .done)) (let k : Int := 0; let out : List NdV := []; (let e1 := (@ByteArray.mk (@Array.mk _ [])); let e2 := (@Value.tuple (@Array.mk _ [])); let e3 := (@AV.view (((ns.getD (k).toNat ndNone)).cls).length 1 (fun y0 => (fun y1 => (@AV.lit ([(@Value.string (((ns.getD (k).toNat ndNone)).cls.getD y0 e1))].getD y1 e2))))); let e4 := (((@ndN ns k)).cls); let e5 := (@AV.view e4.length 1 (fun y0 => (fun y1 => (@AV.lit ([(@Value.string (((@ndN ns k)).cls.getD y0 e1))].getD y1 e2))))); let e6 := (@AV.view (((ns.getD (k).toNat ndNone)).atts).length 2 (fun y0 => (fun y1 => (@AV.lit ([(@Value.string ((((ns.getD (k).toNat ndNone)).atts.getD y0 attrNone)).name), (@Value.string ((((ns.getD (k).toNat ndNone)).atts.getD y0 attrNone)).value)].getD y1 e2))))); let e7 := (((@ndN ns k)).atts); let e8 := (@AV.view e7.length 2 (fun y0 => (fun y1 => (@AV.lit ([(@Value.string ((((@ndN ns k)).atts.getD y0 attrNone)).name), (@Value.string ((((@ndN ns k)).atts.getD y0 attrNone)).value)].getD y1 e2))))); let e9 := ((out).length + 1); let e10 := (some (@AV.own 1 (ns).length 6)); let e11 := (some (int (((ns).length : Nat) : Int))); let e12 := (int ((ns.getD (k).toNat ndNone)).par); let e13 := (@AV.lit (@Value.string ((ns.getD (k).toNat ndNone)).tag)); let e14 := (@AV.lit (@Value.string ((ns.getD (k).toNat ndNone)).id)); let e15 := (@AV.view e4.length 1 (fun y2 => (fun y3 => (@AV.lit ([(@Value.string (((@ndN ns k)).cls.getD y2 e1))].getD y3 e2))))); let e16 := (@AV.view e7.length 2 (fun y2 => (fun y3 => (@AV.lit ([(@Value.string ((((@ndN ns k)).atts.getD y2 attrNone)).name), (@Value.string ((((@ndN ns k)).atts.getD y2 attrNone)).value)].getD y3 e2))))); let e17 := (@AV.lit (@Value.string ((ns.getD (k).toNat ndNone)).text)); let e18 := (@Value.string e1); let e19 := (@Value.slice none 0 0); let e20 := (@Array.toList _ (@Array.mk _ [(@Value.int IntKind.i64 (0 : Int)), e18, e18, e19, e19, e18])); let e21 := (@List.map _ _ AV.lit (@Array.toList _ (@Array.mk _ [(@List.get _ e20 (@Fin.mk _ 0 (@Nat.le_of_ble_eq_true _ _ (@Eq.refl _ true)))), (@List.get _ e20 (@Fin.mk _ 1 (@Nat.le_of_ble_eq_true _ _ (@Eq.refl _ true)))), (@List.get _ e20 (@Fin.mk _ 2 (@Nat.le_of_ble_eq_true _ _ (@Eq.refl _ true)))), (@List.get _ e20 (@Fin.mk _ 3 (@Nat.le_of_ble_eq_true _ _ (@Eq.refl _ true)))), (@List.get _ e20 (@Fin.mk _ 4 (@Nat.le_of_ble_eq_true _ _ (@Eq.refl _ true)))), (@List.get _ e20 (@Fin.mk _ 5 (@Nat.le_of_ble_eq_true _ _ (@Eq.refl _ true))))]))); let e22 := (0 + ((e12 :: e13 :: e14 :: e5 :: e8 :: [e17])).length); let e23 := (@AV.lit e18); let e24 := (@AV.lit e19); let e25 := (some (@Blk.mk [] 3 (some (@Rw.mk (os).length 1 (@zcell os))))); let e26 := (some (@Blk.mk [] 40 (some (@Rw.mk (ns).length 6 (@ndcell ns))))); let e27 := (some (@Blk.mk [(@AV.own 1 (ns).length 6), (@AV.own 2 (os).length 1)] 70 none)); (.fork (!(leI (((ns).length : Nat) : Int) k)) (.need (@inR k (ns).length) (.need (@Nat.blt (k).toNat (ns).length) (.need (@isSo (@And ((@HAppend.hAppend _ _ _ _ (@HAppend.hAppend _ _ _ _ [] [e3]) []) = [e5]) (@Or (false = true) (e4.length ≤ 1024)))) (.need (@isSo (@And ((@HAppend.hAppend _ _ _ _ (@HAppend.hAppend _ _ _ _ [] [e6]) []) = [e8]) (@Or (false = true) (e7.length ≤ 1024)))) (.need (Bool.true && ((@Nat.ble (out).length (out).length) && ((@Nat.ble (e9 * 104) 140737488355328) && (@Nat.ble e9 17592186044416)))) (.leaf (Ex.norm, (((some (@AV.ptr 0 0)) :: none :: none :: none :: (some (@AV.own ((((4 + 1) + 1) + 1) + 1) e9 6)) :: (nn29 (e10 :: e11 :: (some (int (w64 (k + (1 : Int))))) :: (nn10 [])))), (@Mem.mk (((((4 + 1) + 1) + 1) + 1) + 1) (((((0 + 1) + 1) + 1) + 1) + 1) ((some (@Blk.mk [] 40 (some (@Rw.mk e9 6 (@appc (out).length (@ndcell out) (fun y0 => (fun y1 => (@getA (@List.take _ 6 (e12 :: e13 :: e14 :: e15 :: e16 :: (e17 :: (@List.drop _ (0 + ((e12 :: e13 :: e14 :: e15 :: e16 :: [e17])).length) e21)))) ((y0 * 6) + y1))))))))) :: ((some (@Blk.mk (e12 :: e13 :: e14 :: e5 :: e8 :: (e17 :: (@List.drop _ e22 e21))) 40 none)) :: ((some (@Blk.mk (e12 :: e13 :: e14 :: e5 :: e8 :: (e17 :: (@List.drop _ e22 [(int (0 : Int)), e23, e23, e24, e24, e23]))) 40 none)) :: (some (@Blk.mk (e12 :: e13 :: e14 :: e5 :: e8 :: (@List.drop _ (4 + ([e8]).length) (e12 :: e13 :: e14 :: e5 :: (@List.drop _ (3 + ([e5]).length) [e12, e13, e14, e3, e6, e17])))) 40 none)) :: [(some (@Blk.mk (e12 :: e13 :: e14 :: e3 :: e6 :: e17 :: (@List.drop _ (0 + ([e12, e13, e14, e3, e6, e17]).length) [(int (0 : Int)), e23, e23, e24, e24, e23])) 40 none)), none, e25, e26, e27])))))))))))) (.leaf ((@Ex.exit 1), (((some (@AV.ptr 0 0)) :: none :: none :: none :: (some (@AV.own 3 (out).length 6)) :: (nn29 (e10 :: e11 :: (some (int k)) :: (nn10 [])))), (@Mem.mk 4 0 [(some (@Blk.mk [] 40 (some (@Rw.mk (out).length 6 (@ndcell out))))), e25, e26, e27]))))))) (by kernel_rfl) ?_
  refine fork_ok (fun h3 => ?_) (fun h3 => ?_)
  · simp only [Bool.not_eq_true', Bool.not_eq_false', leI_t, leI_f, eqI_t, eqI_f, inR_t, inR_f, isSo_t, isSo_f] at h3
    have hin : inR (0 : Int) ns.length = true := by rw [inR_t]; omega
    have hlt : Nat.blt (0 : Int).toNat ns.length = true := by rw [Nat.blt_eq]; exact h0
    obtain ⟨hc, ha⟩ := hs _ (getD_mem ns (0 : Int) ndNone (by omega) (by omega))
    refine need_t hin (need_t hlt (need_so ⟨rfl, Or.inr hc⟩ (need_so ⟨rfl, Or.inr ha⟩ (need_t rfl ?_))))
    have et : ns.take 1 = [] ++ [ndN ns 0] := by
      unfold ndN
      match ns, h0 with
      | x :: r, _ => rfl
    have := dn_loop2 ns os hn hs ns.length 1 (by omega) (by omega)
    rw [et] at this
    refine LoopToT.ren [0, 1, 2, 3, 8] rfl ?_ ?_ this
    · exact dnF_ren _ (by simp) rfl
    · exact dnM_ren (by decide) rfl rfl rfl rfl (NRows.app1 _ (NRows.base _) (fun σ j hj => by
        rcases j with _ | _ | _ | _ | _ | _ | j
        · exact rfl
        · exact rfl
        · exact rfl
        · exact RenV.free σ (ndA_free (ndN ns 0) 3)
        · exact RenV.free σ (ndA_free (ndN ns 0) 4)
        · exact rfl
        · omega))
  · simp only [Bool.not_eq_true', Bool.not_eq_false', leI_t, leI_f, eqI_t, eqI_f, inR_t, inR_f, isSo_t, isSo_f] at h3
    omega
noncomputable abbrev lpDn (ns : List NdV) (os : List Int) : Lp Try.prog where
  f := 22
  key := 8
  S := formS (fun _ M => some M.stamp) (fun _ => dnF ns.length 0 0) (fun k => ⟨4, k, some ⟨[], 40, some ⟨0, 6, mkc dnZ⟩⟩ :: (bdM ns os).bs⟩) (fun _ => 0 < ns.length ∧ ns.length ≤ 1024 ∧ ∀ x ∈ ns, x.cls.length ≤ 1024 ∧ x.atts.length ≤ 1024) (fun _ => .leaf (.exit 1, dnF2 ns.length ns.length ns.length, dnM2 ns os ns)) (true :: false :: false :: false :: true :: (ff29 (true :: true :: true :: (ff10 []))))
  one := by kernel_rfl
  ok := formS_ok fun k ⟨h0, h1, h2⟩ => by
    refine ⟨ns.length + 1, ?_⟩
    have h3 := LoopToT.out (dn_loop ns os h0 h1 h2)
    have key : LoopToT 4 Try.prog (theBody Try.prog 22 8) (ns.length + 1) (dnF ns.length 0 0) ⟨4, 0, some ⟨[], 40, some ⟨0, 6, mkc dnZ⟩⟩ :: (bdM ns os).bs⟩ _ :=
      LoopToT.ren [0, 1, 2, 3] rfl (dnF_id _) (dnM_id ns os) h3
    exact (LoopTo.stampB 0 (LoopToT.to key (Nat.le_refl 4))).mono fun ex F M hg => by
      obtain ⟨rfl, rfl, rfl⟩ := hg
      rfl
end Sy
end Go.Proofs.Ytglkdhmikpejnaa
namespace Go.Proofs.Ytglkdhmikpejnaa
open Go Go.RowKit Pl Sy
abbrev Sy.nview (ns : List NdV) : AV := .view ns.length 6 (ndcell ns)
theorem Sy.nview_free (ns : List NdV) : Free (nview ns) := fun i j => ndA_free _ j
def DonC (ns : List NdV) : Prop := 0 < ns.length ∧ ns.length ≤ 1024 ∧ ∀ x ∈ ns, x.cls.length ≤ 1024 ∧ x.atts.length ≤ 1024
theorem Sy.don_t (ns : List NdV) (h : DonC ns) : CallTo Try.prog 22 [.ptr 0 0] (bdM ns []) fun v M' => v = .tup [.own 4 ns.length 6, int 0] ∧ M' = ⟨5, 0, [some (nrowB ns), none, some (irowB []), some (nrowB ns), some (bdB 1 ns.length 2 0)]⟩ :=
  to (G := fun r => r.1 = .tup [.own 4 ns.length 6, int 0] ∧ r.2 = ⟨5, 0, [some (nrowB ns), none, some (irowB []), some (nrowB ns), some (bdB 1 ns.length 2 0)]⟩) [] [lpDn ns []] 400 30 (.auto 0 (.br (.auto 5 (.br .done (.yes .done))) (.auto 6 .done))) (let os : List Int := []; (let e1 := (((ns).length : Nat) : Int); let e2 := (@Value.slice none 0 0); let e3 := (some (@Blk.mk [] 3 (some (@Rw.mk (os).length 1 (@zcell os))))); let e4 := (some (@Blk.mk [] 40 (some (@Rw.mk (ns).length 6 (@ndcell ns))))); let e5 := (some (@Blk.mk [(@AV.own 1 (ns).length 6), (@AV.own 2 (os).length 1)] 70 none)); let e6 := (some (@AV.own 1 (ns).length 6)); let e7 := (@Value.string (@ByteArray.mk (@Array.mk _ []))); (.fork (!(eqI e1 (0 : Int))) (.fork (!(leI (((os).length : Nat) : Int) (0 : Int))) (.leaf ((@AV.tup [(@AV.lit e2), (int (34 : Int))]), (@Mem.mk 3 0 [e3, e4, e5]))) (.need ((leI (0 : Int) e1) && ((leI (e1 * (104 : Int)) (140737488355328 : Int)) && (leI e1 (17592186044416 : Int)))) (.need (@isSo (@And (((some (@AV.ptr 0 0)) :: none :: none :: none :: (some (@AV.own 3 0 6)) :: (nn29 (e6 :: (some (int e1)) :: (some (int (0 : Int))) :: (nn10 [])))) = ((some (@AV.ptr 0 0)) :: none :: none :: none :: (some (@AV.own 3 0 6)) :: (nn29 (e6 :: (some (int e1)) :: (some (int (0 : Int))) :: (nn10 []))))) ((@Mem.mk (3 + 1) 0 [(some (@Blk.mk [] 40 (some (@Rw.mk 0 6 (@mkc (@Value.agg (@Array.mk _ [(@Value.int IntKind.i64 (0 : Int)), e7, e7, e2, e2, e7]))))))), e3, e4, e5]) = (@Mem.mk 4 0 [(some (@Blk.mk [] 40 (some (@Rw.mk 0 6 (@mkc dnZ))))), e3, e4, e5])))) (.need (@isSo (@And (0 < (ns).length) (@And ((ns).length ≤ 1024) (∀ (x : NdV), x ∈ ns → x.cls.length ≤ 1024 ∧ x.atts.length ≤ 1024)))) (.leaf ((@AV.tup [(@AV.own 4 (ns).length 6), (int (0 : Int))]), (@Mem.mk 5 0 [e4, none, e3, e4, e5]))))))) (.leaf ((@AV.tup [(@AV.lit e2), (int (34 : Int))]), (@Mem.mk 3 0 [e3, e4, e5])))))) (by kernel_rfl) (by
    obtain ⟨h0, h1, h2⟩ := h
    have e1 : eqI ((ns.length : Nat) : Int) 0 = false := by rw [eqI_f]; omega
    refine fork_t (by rw [e1]; rfl) (fork_f rfl (need_t ?_ (need_so ⟨rfl, rfl⟩ (need_so ⟨h0, h1, h2⟩ ⟨rfl, rfl⟩))))
    simp only [Bool.and_eq_true, leI_t]
    omega)
theorem Sy.don_v (ns : List NdV) (h : DonC ns) : CallTo Try.prog 22 [.ptr 0 0] (bdM ns []) fun v M' => v = .tup [nview ns, int 0] ∧ BEnd M' ns [] := fun w0 ρ us w hr hW => by
  refine (don_t ns h w0 ρ us w hr hW).mono ?_
  rintro x w' ⟨ρ', u, v, M', rfl, q1, q2, q3, rfl, rfl⟩
  simp only [rel, rels] at q2
  obtain ⟨l, rfl, u1, l1, rfl, hu1, u2, l2, rfl, rfl, rfl⟩ := q2
  rcases hu1 with ⟨_, e, _⟩ | ⟨g, tot, cap, hg, rfl, c1, c2, c3⟩
  · exact absurd e (by have := h.1; omega)
  · obtain ⟨cur, q4, q5, q6, q7, q8⟩ := q3.freeze (b := 4) (B := nrowB ns) rfl hg
    refine ⟨quiet ρ' g cur, _, .tup [nview ns, int 0], _, rfl, q1.trans q7, ?_, q8, rfl, 1, _, _, 2, _, _, rfl, rfl, rfl, NEq.base _, ZRows.base []⟩
    simp only [rel, rels]
    refine ⟨_, rfl, _, _, rfl, ⟨some ⟨g, 0, none⟩, cap, rfl, c1, c2, fun e => (by cases e), fun _ => ⟨g, 0, rfl, fun i j hi hj => ?_⟩⟩, _, _, rfl, rfl, rfl⟩
    obtain ⟨x, r1, r2, r3⟩ := q6.2 _ rfl i j hi hj
    refine ⟨x, ?_, r2.ext q7, r3⟩
    simp only [quiet, if_true, Nat.zero_add]
    exact r1
noncomputable def Sy.cDon (ns : List NdV) : Con Try.prog where
  f := 22
  run := fun args M => match bdGet args M with
    | some x => some (.tup [nview ns, int 0], bRes M x.bb x.x x.y ns [])
    | none => none
  ob := fun args M => match bdGet args M with
    | some x => some (isSo (M.get x.bb = some (bdB x.x ns.length x.y 0) ∧ M.get x.x = some (nrowB ns) ∧ M.get x.y = some (irowB []) ∧ x.rest = [] ∧ DonC ns))
    | none => none
  ok := fun args M v M' hr hob => by
    cases hg : bdGet args M with
    | none => rw [hg] at hr; cases hr
    | some x =>
      rw [hg] at hr hob
      simp at hr
      obtain ⟨rfl, rfl⟩ := hr
      have h1 := hob _ rfl
      rw [isSo_t] at h1
      obtain ⟨g0, g1, g2, hrest, hC⟩ := h1
      rw [bdGet_ok hg, hrest]
      refine ⟨?_, conB_frame (don_v ns hC) trivial ⟨nview_free ns, trivial, trivial⟩ g0 g1 g2⟩
      unfold bRes
      exact ((((Grow.put M _ _).trans (Grow.put _ _ _)).trans (Grow.put _ _ _)).trans (Grow.push _ _)).trans (Grow.push _ _)
end Go.Proofs.Ytglkdhmikpejnaa
namespace Go.Proofs.Ytglkdhmikpejnaa
open Go Go.RowKit Pl Sy
def pN (ns : List NdV) (k : Nat) : Int := (ns.getD k ndNone).par
def tgB (ns : List NdV) (k : Nat) : Bool := !bytesEq (ns.getD k ndNone).tag.data.toList []
def depI (ns : List NdV) (i : Int) : Int := dep (pN ns) i.toNat
def stdB (ns : List NdV) (i : Int) : Bool := standsN (pN ns) (tgB ns) i.toNat
namespace Sy
end Sy
namespace Sy
end Sy
def TreeOk (ns : List NdV) : Prop := (ns.length ≤ 1024 ∧ ∀ n ∈ ns, n.Ok) ∧ ∀ k : Nat, k < ns.length → ndB (ndN ns k) = true ∧ stdB ns k = true ∧ depI ns k ≤ 64
namespace Sy
end Sy
namespace Sy
end Sy
def OsAt (os : List Int) (rs : List Nat) : Prop := os = rs.reverse.map fun k : Nat => (k : Int)
structure BSt (k : Nat) (ns : List NdV) (os : List Int) : Prop where
  bi : ∃ rs, OsAt os rs ∧ BI (pN ns) (tgB ns) ns.length rs
  right : ∀ n ∈ ns, ndB n = true ∧ n.Ok
  len : ns.length ≤ k
  deep : os.length ≤ 64
theorem BSt.start (k : Nat) : BSt k [] [] := ⟨⟨[], rfl, BI.start _ _⟩, fun n h => (by cases h), Nat.zero_le _, Nat.zero_le _⟩
theorem OsAt.len {os : List Int} {rs : List Nat} (h : OsAt os rs) : os.length = rs.length := by rw [h]; simp
def headI (rs : List Nat) : Int := match rs with | [] => -1 | a :: _ => (a : Int)
theorem OsAt.last {os : List Int} {rs : List Nat} (h : OsAt os rs) : lastI os = headI rs := by
  unfold lastI
  cases rs with
  | nil =>
    rw [h.len]
    exact if_pos rfl
  | cons a r =>
    rw [h.len, if_neg (by rw [eqI_t]; simp only [List.length_cons]; omega)]
    rw [h]
    simp [List.getD_eq_getElem?_getD, headI]
theorem OsAt.push {os : List Int} {rs : List Nat} (h : OsAt os rs) (n : Nat) : OsAt (os ++ [(n : Int)]) (n :: rs) := by
  unfold OsAt at h ⊢
  rw [h]
  simp
theorem OsAt.pop {os : List Int} {rs : List Nat} (h : OsAt os rs) : OsAt os.dropLast rs.tail := by
  unfold OsAt at h ⊢
  rw [h]
  cases rs with
  | nil => rfl
  | cons a r => simp
theorem pN_app (ns : List NdV) (x : NdV) : (∀ j, j < ns.length → pN (ns ++ [x]) j = pN ns j) ∧ pN (ns ++ [x]) ns.length = x.par := by
  constructor
  · intro j hj
    unfold pN
    simp only [List.getD_eq_getElem?_getD]
    rw [List.getElem?_append_left hj]
  · unfold pN
    simp [List.getD_eq_getElem?_getD]
theorem tgB_app (ns : List NdV) (x : NdV) : (∀ j, j < ns.length → tgB (ns ++ [x]) j = tgB ns j) ∧ tgB (ns ++ [x]) ns.length = !bytesEq x.tag.data.toList [] := by
  constructor
  · intro j hj
    unfold tgB
    simp only [List.getD_eq_getElem?_getD]
    rw [List.getElem?_append_left hj]
  · unfold tgB
    simp [List.getD_eq_getElem?_getD]
theorem putN_right {n : NdV} (os : List Int) (h : ndB n = true) (hk : n.Ok) : ndB (putN n os) = true ∧ (putN n os).Ok := ⟨h, hk⟩
theorem wordN_right {n : NdV} (os : List Int) (h : textL n.text.data.toList = true) (hk : n.Ok) : ndB (wordN n os) = true ∧ (wordN n os).Ok := by
  constructor
  · unfold ndB wordN
    refine Eq.trans (if_pos rfl) ?_
    show (true && (true && (true && textL n.text.data.toList))) = true
    rw [h]; rfl
  · obtain ⟨_, _, _, _, h5⟩ := hk
    exact ⟨by show 0 ≤ _; omega, by show 0 ≤ _; omega, ⟨by show 0 ≤ _; omega, fun s hs => (by cases hs)⟩, ⟨by show 0 ≤ _; omega, fun s hs => (by cases hs)⟩, h5⟩
theorem BSt.push {k : Nat} {ns : List NdV} {os : List Int} (h : BSt k ns os) (x : NdV) (hx : ndB x = true ∧ x.Ok) (hp : x.par = lastI os) (hd : os.length ≠ 64) (h0 : os = [] → ns.length = 0 ∧ (!bytesEq x.tag.data.toList []) = true) :
    BSt (k + 1) (ns ++ [x]) os ∧ ((!bytesEq x.tag.data.toList []) = true → BSt (k + 1) (ns ++ [x]) (os ++ [(ns.length : Int)])) := by
  obtain ⟨⟨rs, hr, hb⟩, hrt, hl, hdp⟩ := h
  have hrl := hr.len
  have hright : ∀ n ∈ ns ++ [x], ndB n = true ∧ n.Ok := fun n hn => by
    rcases List.mem_append.1 hn with hn | hn
    · exact hrt n hn
    · rw [List.mem_singleton.1 hn]; exact hx
  have hlen : (ns ++ [x]).length = ns.length + 1 := by simp
  obtain ⟨q1, q2⟩ := BI.put (q := pN (ns ++ [x])) (tg' := tgB (ns ++ [x])) hb (pN_app ns x).1 (tgB_app ns x).1 (by rw [(pN_app ns x).2, hp, hr.last]; cases rs <;> rfl) (fun e => by
    subst e
    have : os = [] := List.eq_nil_of_length_eq_zero (by simpa using hrl)
    rw [(tgB_app ns x).2]
    exact h0 this) (by omega)
  refine ⟨⟨⟨rs, hr, by rw [hlen]; exact q1⟩, hright, by omega, hdp⟩, fun ht => ⟨⟨ns.length :: rs, hr.push _, by rw [hlen]; exact q2 (by rw [(tgB_app ns x).2]; exact ht)⟩, hright, by omega, by simp; omega⟩⟩
theorem BSt.pop {k : Nat} {ns : List NdV} {os : List Int} (h : BSt k ns os) : BSt (k + 1) ns os.dropLast := by
  obtain ⟨⟨rs, hr, hb⟩, hrt, hl, hdp⟩ := h
  refine ⟨⟨rs.tail, hr.pop, ?_⟩, hrt, by omega, by rw [List.length_dropLast]; omega⟩
  cases rs with
  | nil => exact hb
  | cons a r => exact hb.close
theorem BSt.tree {k : Nat} {ns : List NdV} {os : List Int} (h : BSt k ns os) (hk : k ≤ 1024) : TreeOk ns := by
  obtain ⟨⟨rs, hr, hb⟩, hrt, hl, hdp⟩ := h
  refine ⟨⟨by omega, fun n hn => (hrt n hn).2⟩, fun j hj => ⟨(hrt _ (getD_mem ns (j : Int) _ (by omega) (by omega))).1, hb.stand j hj, ?_⟩⟩
  have := hb.deep j hj
  unfold depI
  rw [Int.toNat_natCast]
  omega
theorem ndB_lens {n : NdV} (h : ndB n = true) : n.cls.length ≤ 1024 ∧ n.atts.length ≤ 1024 := by
  unfold ndB at h
  split at h
  · simp only [Bool.and_eq_true, eqI_t] at h
    omega
  · simp only [Bool.and_eq_true, leI_t] at h
    omega
end Go.Proofs.Ytglkdhmikpejnaa
namespace Go.Proofs.Ytglkdhmikpejnaa.Sy
open Go Go.RowKit
variable [Dfs]
def pent (k e : Int) : PanicEntry := { v := .iface 46 (.agg #[.int .i64 k, .int .i64 e]), recovered := false }
def PanTo (P : Program) (f : FuncId) (args : List AV) (M : Mem) (k e : Int) : Prop := ∀ w0 ρ us w, rels ρ args us → WR w0 ρ M w →
  Calls P f us.toArray w fun x w' => ∃ ρ' M', x = .panicked [pent k e] ∧ Ext ρ ρ' ∧ WR w0 ρ' M' w'
structure PanR where
  ob : Option Bool
  b : Bool
  k : Int
  e : Int
abbrev PanT := FuncId → List AV → Mem → Option PanR
def PanOk (P : Program) (pan : PanT) : Prop := ∀ f args M r, pan f args M = some r → owed r.ob → r.b = true → PanTo P f args M r.k r.e
inductive ExP where
  | norm
  | exit (id : Nat)
  | ret
  | goto (l : Nat)
  | pan (k e : Int)
def ExP.to : ExP → Exit
  | .norm => .normal
  | .exit id => .exit id
  | .ret => .ret
  | .goto l => .goto l
  | .pan k e => .panic [pent k e]
def EndP (w0 : World) (ρ' : Rho) : ExP → Fr → Mem → Act → World → Prop
  | .pan _ _, _, _, a', w' => a'.defers = Dfs.ds ∧ ∃ M'', WR w0 ρ' M'' w'
  | _, F', M', a', w' => FR ρ' F' a' ∧ WR w0 ρ' M' w'
noncomputable def panOf (P : Program) (pan : PanT) (F : Fr) (M : Mem) (o : Oper) : Option PanR := match o.op with
  | .call c => match calleeA F c with
    | some (f, args) => match P.funcs[f]? with
      | some fn => match fn.body.isSome with
        | true => pan f args M
        | false => none
      | none => none
    | none => none
  | _ => none
theorem panOf_sound {P : Program} (hP : Plainly P) {pan : PanT} (hpan : PanOk P pan) {w0 : World} {ρ : Rho} {M : Mem} {w : World} {F : Fr} {a : Act} (hF : FR ρ F a) (hW : WR w0 ρ M w) {o : Oper} {r : PanR} (he : panOf P pan F M o = some r) (hob : owed r.ob) (hb : r.b = true)
    {K : Act → World → Prop} {Q : Exit → Act → World → Prop} (hQ : ∀ ρ' M' w', Ext ρ ρ' → WR w0 ρ' M' w' → Q (.panic [pent r.k r.e]) a w') : o.wp P a w K Q := by
  unfold panOf at he
  split at he
  · rename_i c ho
    split at he
    · rename_i f args hc
      split at he
      · rename_i fn hf
        split at he
        · rename_i hbd
          obtain ⟨us, h1, h2⟩ := calleeA_sound hF hc P hf hbd (hP f fn hf) o.type w
          have h3 := hpan f args M r he hob hb w0 ρ us w h1 hW
          unfold Oper.wp execOp
          simp only [ho]
          rw [h2]
          simp only [Oper.upon_enter]
          refine h3.mono ?_
          rintro x w' ⟨ρ', M', rfl, q1, q2⟩
          exact hQ ρ' M' w' q1 q2
        · cases he
      · cases he
    · cases he
  · cases he
noncomputable def opsP {β : Type} (P : Program) (call : CallT) (pan : PanT) (inl : Inl β) (ops : Array Oper) : List Oper → Fr → Mem → D → (Fr → Mem → D → Tr β) → (Int → Int → Mem → D → Tr β) → Tr β
  | [], F, M, d, k, kp => k F M d
  | o :: rest, F, M, d, k, kp => wantK ops F o d fun b F d1 => match b with
    | true => match panOf P pan F M o with
      | some r => owedK r.ob d1 fun d2 => ask d2 r.b fun x d3 => match x with
        | true => kp r.k r.e M d3
        | false => opK P call inl F M d3 o fun v M' d4 => opsP P call pan inl ops rest (putF F o.dst (some v)) M' d4 k kp
      | none => opK P call inl F M d1 o fun v M' d2 => opsP P call pan inl ops rest (putF F o.dst (some v)) M' d2 k kp
    | false => opsP P call pan inl ops rest (putF F o.dst (some (.lit undef))) M d1 k kp
theorem opsP_sound {β : Type} {G : β → Prop} {P : Program} (hP : Plainly P) {call : CallT} (hcall : CallOk P call) {pan : PanT} (hpan : PanOk P pan) {inl : Inl β} (hinl : InlOk P inl) {w0 : World} (ops : Array Oper) : ∀ (l : List Oper) {ρ : Rho} {F : Fr} {M : Mem} {w : World} {a : Act} {d : D} {k : Fr → Mem → D → Tr β} {kp : Int → Int → Mem → D → Tr β},
    FR ρ F a → WR w0 ρ M w → (opsP P call pan inl ops l F M d k kp).Ok G → ∀ {Q : Exit → Act → World → Prop}, (∀ F' M' d' ρ' a' w', (k F' M' d').Ok G → Ext ρ ρ' → FR ρ' F' a' → WR w0 ρ' M' w' → Q .normal a' w') →
      (∀ kk e M1 d' ρ' M' a' w', (kp kk e M1 d').Ok G → Ext ρ ρ' → a'.defers = Dfs.ds → WR w0 ρ' M' w' → Q (.panic [pent kk e]) a' w') → wpList P ops Q l a w
  | [], ρ, F, M, w, a, d, k, kp, hF, hW, h, Q, hQ, hQp => hQ F M d ρ a w h (Ext.refl _) hF hW
  | o :: rest, ρ, F, M, w, a, d, k, kp, hF, hW, h, Q, hQ, hQp => by
    simp only [opsP] at h
    refine wpList_step fun K hK => ?_
    obtain ⟨b, d1, hw, h⟩ := wantK_ok h
    rw [wantedA_sound hF hw]
    have go : ∀ {d}, (opK P call inl F M d o fun v M' d2 => opsP P call pan inl ops rest (putF F o.dst (some v)) M' d2 k kp).Ok G → o.wp P a w K Q := fun h =>
      opK_sound hP hcall hinl hF hW h fun v M' d' ρ' u w' h0 h1 h2 h3 => hK _ _ (opsP_sound hP hcall hpan hinl ops rest ((hF.ext h1).put o.dst h2) h3 h0 (fun F2 M2 d2 ρ2 a2 w2 q0 q1 q2 q3 => hQ F2 M2 d2 ρ2 a2 w2 q0 (h1.trans q1) q2 q3) (fun kk e M1 d2 ρ2 M2 a2 w2 q0 q1 q2 q3 => hQp kk e M1 d2 ρ2 M2 a2 w2 q0 (h1.trans q1) q2 q3))
    cases b with
    | true =>
      rw [if_pos rfl]
      simp only at h
      cases hp : panOf P pan F M o with
      | none =>
        simp only [hp] at h
        exact go h
      | some r =>
        simp only [hp] at h
        obtain ⟨hob, d2, h⟩ := owedK_ok h
        obtain ⟨d3, h⟩ := ask_ok h
        cases hb : r.b with
        | true =>
          simp only [hb] at h
          exact panOf_sound hP hpan hF hW hp hob hb fun ρ' M' w' q1 q2 => hQp r.k r.e M d3 ρ' M' a w' h q1 hF.defers q2
        | false =>
          simp only [hb] at h
          exact go h
    | false =>
      simp only [Bool.false_eq_true, if_false]
      exact hK _ _ (opsP_sound hP hcall hpan hinl ops rest (hF.put o.dst (by simp [rel])) hW h hQ hQp)
def calleeC (o : Oper) : Option (Option FuncId) := match o.op with
  | .call c => match c.callee with
    | .value (.func f) => some (some f)
    | .builtin _ => some none
    | _ => none
  | _ => some none
noncomputable def pretend (call : CallT) (dm : FuncId → Option AV) : CallT where
  run := fun f args M => match dm f with | some v => some (v, M) | none => call.run f args M
  ob := fun f args M => match dm f with | some _ => none | none => call.ob f args M
  has := fun f args M => match dm f with | some _ => true | none => call.has f args M
theorem pretend_grow {call : CallT} (h : CallGrow call) (dm : FuncId → Option AV) : CallGrow (pretend call dm) := fun f args M v M' h1 h2 => by
  have h1 : (match dm f with | some v => some (v, M) | none => call.run f args M) = some (v, M') := h1
  have h2 : owed (match dm f with | some _ => none | none => call.ob f args M) := h2
  cases hd : dm f with
  | some x =>
    rw [hd] at h1
    simp at h1
    rw [← h1.2]
    exact Grow.refl _
  | none =>
    rw [hd] at h1 h2
    exact h f args M v M' h1 h2
theorem calleeA_C {F : Fr} {o : Oper} {c : Call} (ho : o.op = .call c) {f f' : FuncId} {args : List AV} (h : calleeC o = some (some f)) (hA : calleeA F c = some (f', args)) : f' = f := by
  unfold calleeC at h
  simp only [ho] at h
  split at h
  · rename_i g hc
    simp at h
    subst h
    unfold calleeA at hA
    simp only [hc] at hA
    split at hA
    · rename_i f2 first cap args2 h1 h2
      simp at hA
      simp [evX] at h1
      rw [← hA.1, ← h1.1]
    · rename_i f2 first cap args2 h1 h2
      simp at hA
      simp [evX] at h1
    · cases hA
  · simp at h
  · cases h
theorem pretend_same {P : Program} {call : CallT} {dm : FuncId → Option AV} {o : Oper} (h : calleeC o = some none ∨ ∃ f, calleeC o = some (some f) ∧ dm f = none) (F : Fr) (M : Mem) : evOp1 P (pretend call dm) F M o = evOp1 P call F M o ∧ obOp1 P (pretend call dm) F M o = obOp1 P call F M o := by
  unfold evOp1 obOp1
  cases ho : o.op with
  | call c =>
    simp only
    cases hA : calleeA F c with
    | none => exact ⟨rfl, rfl⟩
    | some fa =>
      obtain ⟨f', args⟩ := fa
      rcases h with h | ⟨f, h, hd⟩
      · exfalso
        unfold calleeC at h
        simp only [ho] at h
        split at h
        · simp at h
        · rename_i b hc
          unfold calleeA at hA
          simp only [hc] at hA
          cases hA
        · cases h
      · have e := calleeA_C ho h hA
        subst e
        simp only [pretend, hd]
        exact ⟨trivial, trivial⟩
  | _ => exact ⟨rfl, rfl⟩
theorem inv_pan {P : Program} {call : CallT} (hcall : CallGrow call) {ops : Array Oper} (hS : StatOk P ops) {es : List (AV × Mem)} {F0 : Fr} {M0 : Mem} {w0 : World} {ρ0 : Rho} (hs : evSeq P call ops ops.toList F0 M0 = some es)
    {listed : Array Bool} {a : Act} {w : World} (h : Inv P ops es F0 M0 w0 ρ0 listed a w) {i : Nat} (hi : i ∈ Region.ready .any ops listed) {o : Oper} (ho : ops[i]? = some o) (hE : isEff o = true) (hfl : fl P ops i = false) (hg : o.guard = none) {Q : Exit → Act → World → Prop} {K : Act → World → Prop}
    (hpan : ∀ ρ1, Ext ρ0 ρ1 → FR ρ1 (rst (frAt ops.toList es F0 i) (o.looksAt ops)) a → WR w0 ρ1 (memAt es M0 i) w → o.wp P a w K Q) : wpOp P ops Q i K a w := by
  obtain ⟨hi0, o1, ho1, hpre⟩ := mem_ready.1 hi
  rw [ho] at ho1
  simp at ho1
  subst ho1
  have hlt : i < ops.size := (Array.getElem?_eq_some_iff.1 ho).1
  have hlt' : i < listed.size := by rw [h.size]; exact hlt
  have hif : listed.getD i false = false := by
    rw [Array.getD_eq_getD_getElem?, Array.getElem?_eq_getElem hlt'] at hi0 ⊢
    simpa using hi0
  have hp : ∀ p ∈ preds o, listed.getD p false = true := fun p hp => by
    obtain ⟨e, he, hb, rfl⟩ := mem_preds.1 hp
    exact hpre e he hb
  obtain ⟨hlen, hspec⟩ := evSeq_spec _ _ _ _ hs
  have hlen' : es.length = ops.size := by simpa using hlen
  obtain ⟨ρ, i0, G, c1, ca, cb, c4⟩ := h.st
  have hi0le : i0 ≤ ops.size := by
    rcases c1 with rfl | ⟨e, o', e1, _, rfl⟩
    · omega
    · have := (Array.getElem?_eq_some_iff.1 e1).1; omega
  have hge : i0 ≤ i := by
    rcases Nat.lt_or_ge i i0 with hh | hh
    · have := ca i o ho hE hh
      rw [hif] at this; cases this
    · exact hh
  unfold wpOp
  simp only [ho]
  have done : ∀ (e : Nat) (o' : Oper), ops[e]? = some o' → isEff o' = true → e < i → listed.getD e false = true := fun e o' h1 h2 h3 => by
    rcases hS.eff i o e o' ho h1 h3 hE h2 with hr | hr
    · exact h.closed.ready ho hp hr
    · rw [hfl] at hr; cases hr
  obtain ⟨ρ1, s1⟩ := St.upto hS hs (i - i0) c4 (by omega) (fun e o' h1 h2 h3 => by
    cases he : isEff o' with
    | false => exact .inl rfl
    | true =>
      right
      have hl := done e o' h3 he (by omega)
      cases hfe : fl P ops e with
      | true => exact ⟨rfl, hl⟩
      | false => have := cb e o' h3 he hfe hl; omega)
  rw [show i0 + (i - i0) = i by omega] at s1
  have hF := s1.done.at hS hlen' h.closed ho hif hp (fun j p d _ hj _ _ _ => hj)
  have hw : Region.wanted o (yielded ops a.tmps) = true := by unfold Region.wanted; rw [hg]
  rw [hw, if_pos rfl]
  left
  exact hpan ρ1 s1.ext hF s1.wr
def panStat (P : Program) (ops : Array Oper) (dm : FuncId → Bool) (ip : Nat) : Bool := match ops[ip]? with
  | some o => isEff o && (!fl P ops ip && (o.guard.isNone && ops.toList.zipIdx.all fun oj => oj.2 == ip || match calleeC oj.1 with
    | some none => true
    | some (some f) => !dm f || ((masks ops.toList []).getD oj.2 0).testBit ip
    | none => false))
  | none => false
theorem any_of_pan {P : Program} (hP : Plainly P) {callT : CallT} (hcallT : CallOk P callT) {dm : FuncId → Option AV} {ops : Array Oper} (hS : StatOk P ops) {es : List (AV × Mem)} {F0 : Fr} {M0 : Mem} {w0 : World} {ρ0 : Rho} (hs : evSeq P (pretend callT dm) ops ops.toList F0 M0 = some es) (hL : LoadsOk P ops es F0 M0) (hO : ∀ x ∈ obSeq P (pretend callT dm) ops ops.toList es F0 M0, x = true) {ip : Nat} (hst : panStat P ops (fun f => (dm f).isSome) ip = true) {Q : Exit → Act → World → Prop}
    (hpan : ∀ o, ops[ip]? = some o → ∀ ρ1 a w K, Ext ρ0 ρ1 → FR ρ1 (rst (frAt ops.toList es F0 ip) (o.looksAt ops)) a → WR w0 ρ1 (memAt es M0 ip) w → o.wp P a w K Q) :
    ∀ (fuel : Nat) (listed : Array Bool) (a : Act) (w : World), unl listed = fuel → listed.getD ip false = false → Inv P ops es F0 M0 w0 ρ0 listed a w → wpAny P .any ops Q fuel listed a w := by
  unfold panStat at hst
  cases hop : ops[ip]? with
  | none => rw [hop] at hst; cases hst
  | some op =>
  rw [hop] at hst
  simp only [Bool.and_eq_true, Bool.not_eq_true', Option.isNone_iff_eq_none, List.all_eq_true, Bool.or_eq_true, beq_iff_eq] at hst
  obtain ⟨hE, hfl, hg, hall⟩ := hst
  have hip : ip < ops.size := (Array.getElem?_eq_some_iff.1 hop).1
  have hm : ∀ p j, ((masks ops.toList []).getD p 0).testBit j = true → Reach ops p j := masks_sound ops.toList [] (fun j => by simp) (fun p j hb => by simp at hb)
  have fin : ∀ (listed : Array Bool) (a : Act) (w : World), listed.getD ip false = false → Inv P ops es F0 M0 w0 ρ0 listed a w → Region.ready .any ops listed = [] → Q .normal a w := fun listed a w hj h hr => by
    have := all_of_ready hS h.size hr ip hip
    rw [hj] at this; cases this
  intro fuel
  induction fuel with
  | zero =>
    intro listed a w hu hj h
    have hr : Region.ready .any ops listed = [] := by
      rcases hx : Region.ready .any ops listed with _ | ⟨x, xs⟩
      · rfl
      · have hm : x ∈ Region.ready .any ops listed := by rw [hx]; simp
        have h1 := (mem_ready.1 hm).1
        rw [unl_zero hu x] at h1
        cases h1
    exact ⟨hr, fin listed a w hj h hr⟩
  | succ fuel ih =>
    intro listed a w hu hj h
    refine ⟨fin listed a w hj h, fun i hi => ?_⟩
    by_cases hip' : i = ip
    · subst hip'
      exact inv_pan (pretend_grow hcallT.grow dm) hS hs h hi hop hE hfl hg fun ρ1 q1 q2 q3 => hpan op hop ρ1 a w _ q1 q2 q3
    · have hsame : ∀ o, ops[i]? = some o → ∀ F M, evOp1 P (pretend callT dm) F M o = evOp1 P callT F M o ∧ obOp1 P (pretend callT dm) F M o = obOp1 P callT F M o := fun o ho F M => by
        have h1 := hall (o, i) (mem_zipIdx ho)
        rcases h1 with h1 | h1
        · exact absurd h1 hip'
        · simp only at h1
          split at h1
          · rename_i hc
            exact pretend_same (.inl hc) F M
          · rename_i f hc
            cases hd : dm f with
            | none => exact pretend_same (.inr ⟨f, hc, hd⟩) F M
            | some v =>
              exfalso
              rw [hd] at h1
              simp only [Option.isSome_some, Bool.not_true, Bool.false_eq_true, false_or, Bool.or_eq_true] at h1
              obtain ⟨_, o1, ho1, hpre⟩ := mem_ready.1 hi
              have hp : ∀ p ∈ preds o1, listed.getD p false = true := fun p hp => by
                obtain ⟨e, he, hb, rfl⟩ := mem_preds.1 hp
                exact hpre e he hb
              have := h.closed.ready ho1 hp (hm i ip h1)
              rw [hj] at this; cases this
          · cases h1
      refine inv_op hP (pretend_grow hcallT.grow dm) hcallT hS hs hL hO h hsame hi fun a' w' h' => ih _ a' w' ?_ ?_ h'
      · have := unl_set (mem_ready.1 hi).1
        omega
      · rw [getD_setB, if_neg (fun hh => hip' hh.1)]
        exact hj
theorem drawPan_core {P : Program} (hP : Plainly P) (hm : P.follows .mixedOrders = true) {callT : CallT} (hcallT : CallOk P callT) {dm : FuncId → Option AV} {w0 : World} {ops : Array Oper} {ρ : Rho} {F : Fr} {M : Mem} {w : World} {a : Act} (hF : FR ρ F a) (hW : WR w0 ρ M w)
    (hst : stat P ops = true) {es : List (AV × Mem)} (hs : evSeq P (pretend callT dm) ops ops.toList F M = some es) (hL : LoadsOk P ops es F M) (hO : ∀ x ∈ obSeq P (pretend callT dm) ops ops.toList es F M, x = true) {ip : Nat} (hps : panStat P ops (fun f => (dm f).isSome) ip = true) {id : Nat} {Q : Exit → Act → World → Prop}
    (hpan : ∀ o, ops[ip]? = some o → ∀ ρ1 a w K, Ext ρ ρ1 → FR ρ1 (rst (frAt ops.toList es F ip) (o.looksAt ops)) a → WR w0 ρ1 (memAt es M ip) w → o.wp P a w K Q) : (Code.region id ops true).wp P Q a w := by
  have hfalse : ∀ j, (Array.replicate ops.size false).getD j false = false := fun j => by
    rw [Array.getD_eq_getD_getElem?, Array.getElem?_replicate]
    split <;> rfl
  refine wp_region_any hm (any_of_pan hP hcallT (stat_spec hst) hs hL hO hps hpan ops.size _ a _ ?_ (hfalse ip) ⟨by simp, ?_, ρ, 0, fun _ => 0, .inl rfl, ?_, ?_, ⟨Ext.refl _, ?_, ⟨hF.len, hF.defers, ?_, ?_⟩, ?_, ?_⟩⟩)
  · unfold unl
    rw [Array.toList_replicate, List.filter_replicate]
    simp
  · intro i o ho hl
    rw [hfalse] at hl; cases hl
  · intro e o ho hh hlt
    omega
  · intro e o ho hh hf hl
    rw [hfalse] at hl; cases hl
  · have : memAt es M 0 = M := by cases es <;> rfl
    rw [this]
    exact hW.drew
  · intro j o t v M2 h1 h2 h3
    rw [hfalse] at h3; cases h3
  · intro t v _ hv
    exact hF.val t v hv
  · intro e o _ he
    have := he.2.2
    rw [hfalse] at this; cases this
  · intro e e' he
    have := he.2.2
    rw [hfalse] at this; cases this
theorem panOf_congr {P : Program} {pan : PanT} {F F' : Fr} {M : Mem} {o : Oper} (h : ∀ x ∈ o.op.operands, evX F x = evX F' x) : panOf P pan F M o = panOf P pan F' M o := by
  unfold panOf
  cases ho : o.op <;> simp only
  rename_i c
  have hc : calleeA F c = calleeA F' c := by
    simp only [ho, Op.operands, Call.operands] at h
    unfold calleeA
    cases hc : c.callee <;> simp only [hc] at h ⊢
    rename_i x
    rw [h x (by simp), mapX_congr (xs := c.args.toList) (fun y hy => h y (by simp at hy; simp [hy]))]
  rw [hc]
def calledFrom (ops : Array Oper) (ip : Nat) : List FuncId := (ops.toList.drop ip).filterMap fun o => match calleeC o with | some (some f) => some f | _ => none
noncomputable def dmOf (ops : Array Oper) (dum : FuncId → Option AV) (ip : Nat) (f : FuncId) : Option AV := match (calledFrom ops ip).any (Nat.beq f) with
  | true => dum f
  | false => none
def panIdx (ops : Array Oper) (has : FuncId → Bool) : List Nat := (ops.toList.zipIdx.filter fun oi => match calleeC oi.1 with | some (some f) => has f | _ => false).map (·.2)
structure PanS where
  pan : PanT
  has : FuncId → Bool
  dum : FuncId → Option AV
noncomputable def drawP {β : Type} (P : Program) (call : CallT) (ps : PanS) (ops : Array Oper) : List Nat → Fr → Mem → D → (Fr → Mem → D → Tr β) → (Int → Int → Mem → D → Tr β) → Tr β
  | [], F, M, d, k, kp => drawK P call ops F M d k
  | ip :: rest, F, M, d, k, kp => match stat P ops && panStat P ops (fun f => (dmOf ops ps.dum ip f).isSome) ip with
    | true => seqK P (pretend call (dmOf ops ps.dum ip)) ops ops.toList F M d fun es d1 => match ops[ip]? with
      | some o => match panOf P ps.pan (frAt ops.toList es F ip) (memAt es M ip) o with
        | some r => owedK r.ob d1 fun d2 => ask d2 r.b fun x d3 => match x with
          | true => match loadsOb P ops es F M with
            | some l => needsK l (kp r.k r.e (memAt es M ip)) d3
            | none => .bad 5
          | false => drawP P call ps ops rest F M d3 k kp
        | none => .bad 24
      | none => .bad 25
    | false => .bad 26
theorem drawP_sound {β : Type} {G : β → Prop} {P : Program} (hP : Plainly P) (hm : P.follows .mixedOrders = true) {call : CallT} (hcall : CallOk P call) {ps : PanS} (hpan : PanOk P ps.pan) {w0 : World} {ops : Array Oper} : ∀ (l : List Nat) {ρ : Rho} {F : Fr} {M : Mem} {w : World} {a : Act} {d : D} {k : Fr → Mem → D → Tr β} {kp : Int → Int → Mem → D → Tr β},
    FR ρ F a → WR w0 ρ M w → (drawP P call ps ops l F M d k kp).Ok G → ∀ {id : Nat} {Q : Exit → Act → World → Prop}, (∀ F' M' d' ρ' a' w', (k F' M' d').Ok G → Ext ρ ρ' → FR ρ' F' a' → WR w0 ρ' M' w' → Q .normal a' w') →
      (∀ kk e M1 d' ρ' M' a' w', (kp kk e M1 d').Ok G → Ext ρ ρ' → a'.defers = Dfs.ds → WR w0 ρ' M' w' → Q (.panic [pent kk e]) a' w') → (Code.region id ops true).wp P Q a w
  | [], ρ, F, M, w, a, d, k, kp, hF, hW, h, id, Q, hQ, hQp => drawK_sound hP hm hcall hF hW h hQ
  | ip :: rest, ρ, F, M, w, a, d, k, kp, hF, hW, h, id, Q, hQ, hQp => by
    simp only [drawP] at h
    split at h
    · rename_i hst
      rw [Bool.and_eq_true] at hst
      obtain ⟨es, d1, h1, h2, h3⟩ := seqK_ok _ _ _ _ _ (fun _ _ _ _ _ _ => trivial) h
      split at h3
      · rename_i o ho
        split at h3
        · rename_i r hr
          obtain ⟨hob, d2, h3⟩ := owedK_ok h3
          obtain ⟨d3, h3⟩ := ask_ok h3
          cases hb : r.b with
          | true =>
            simp only [hb] at h3
            split at h3
            · rename_i l hL
              obtain ⟨q1, d4, q2⟩ := needsK_ok h3
              refine drawPan_core hP hm hcall hF hW hst.1 h1 (.ob hL q1) h2 hst.2 fun o' ho' ρ1 a1 w1 K r1 r2 r3 => ?_
              rw [ho] at ho'
              simp at ho'
              subst ho'
              rw [← panOf_congr (F := rst (frAt ops.toList es F ip) (o.looksAt ops)) (fun x hx => rst_ev x hx)] at hr
              exact panOf_sound hP hpan r2 r3 hr hob hb fun ρ' M' w' s1 s2 => hQp r.k r.e _ d4 ρ' M' a1 w' q2 (r1.trans s1) r2.defers s2
            · exact h3.elim
          | false =>
            simp only [hb] at h3
            exact drawP_sound hP hm hcall hpan rest hF hW h3 hQ hQp
        · exact h3.elim
      · exact h3.elim
    · exact h.elim
abbrev SummP := Fr → Mem → Tr (ExP × Fr × Mem)
def ExP.of : Ex → ExP
  | .norm => .norm
  | .exit id => .exit id
  | .ret => .ret
def ScopeTo (P : Program) (c : Code) (F : Fr) (M : Mem) (G : ExP → Fr → Mem → Prop) : Prop := ∀ w0 ρ a w (Q : Exit → Act → World → Prop), FR ρ F a → WR w0 ρ M w →
  (∀ ex F' M' ρ' a' w', G ex F' M' → Ext ρ ρ' → EndP w0 ρ' ex F' M' a' w' → Q ex.to a' w') → (Code.scope c).wp P Q a w
noncomputable def codeP {β : Type} (P : Program) (call : CallT) (ps : PanS) (inl : Inl β) (lp : Nat → Option Summ) (sc : Option SummP) : Code → Fr → Mem → D → (ExP → Fr → Mem → D → Tr β) → Tr β
  | .skip, F, M, d, k => k .norm F M d
  | .label _, F, M, d, k => k .norm F M d
  | .region _ ops draw, F, M, d, k => match draw with
    | true => drawP P call ps ops (panIdx ops ps.has) F M d (fun F' M' d' => k .norm F' M' d') (fun kk e M' d' => k (.pan kk e) [] M' d')
    | false => opsP P call ps.pan inl ops ops.toList F M d (fun F' M' d' => k .norm F' M' d') (fun kk e M' d' => k (.pan kk e) [] M' d')
  | .seq a b, F, M, d, k => codeP P call ps inl lp sc a F M d fun ex F' M' d' => match ex with
    | .norm => codeP P call ps inl lp sc b F' M' d' k
    | .exit id => k (.exit id) F' M' d'
    | .ret => k .ret F' M' d'
    | .goto l => k (.goto l) F' M' d'
    | .pan kk e => k (.pan kk e) F' M' d'
  | .cond c t e, F, M, d, k => match litX F c with
    | some (.bool b) => ask d b fun r d' => match r with
      | true => codeP P call ps inl lp sc t (refX F c true) M d' k
      | false => codeP P call ps inl lp sc e (refX F c false) M d' k
    | _ => .bad 10
  | .block id body, F, M, d, k => codeP P call ps inl lp sc body F M d fun ex F' M' d' => match ex with
    | .norm => k .norm F' M' d'
    | .exit id' => if id' = id then k .norm F' M' d' else k (.exit id') F' M' d'
    | .ret => k .ret F' M' d'
    | .goto l => k (.goto l) F' M' d'
    | .pan kk e => k (.pan kk e) F' M' d'
  | .loop body, F, M, d, k => match lp (codeId body) with
    | some S => bindT (S F M) d fun r d' => k (ExP.of r.1) r.2.1 r.2.2 d'
    | none => .bad 22
  | .scope body, F, M, d, k => match sc with
    | some S => bindT (S F M) d fun r d' => k r.1 r.2.1 r.2.2 d'
    | none => .bad 23
  | .exit id, F, M, d, k => k (.exit id) F M d
  | .goto l, F, M, d, k => k (.goto l) F M d
  | .ret, F, M, d, k => k .ret F M d
  | _, _, _, _, _ => .bad 11
def ScOk (P : Program) (sc : Option SummP) : Code → Prop
  | .seq a b => ScOk P sc a ∧ ScOk P sc b
  | .cond _ a b => ScOk P sc a ∧ ScOk P sc b
  | .block _ b => ScOk P sc b
  | .scope b => ∀ S, sc = some S → ∀ F M (H : ExP × Fr × Mem → Prop), (S F M).Ok H → ScopeTo P b F M fun ex F' M' => H (ex, F', M')
  | _ => True
theorem codeP_sound {β : Type} {G : β → Prop} {P : Program} (hP : Plainly P) (hm : P.follows .mixedOrders = true) {call : CallT} (hcall : CallOk P call) {ps : PanS} (hpan : PanOk P ps.pan) {inl : Inl β} (hinl : InlOk P inl) {lp : Nat → Option Summ} {sc : Option SummP} {w0 : World} : ∀ (c : Code) (hlp : LoopsOk P lp c) (hsc : ScOk P sc c) {ρ : Rho} {F : Fr} {M : Mem} {w : World} {a : Act} {d : D} {k : ExP → Fr → Mem → D → Tr β}, FR ρ F a → WR w0 ρ M w →
    (codeP P call ps inl lp sc c F M d k).Ok G → ∀ {Q : Exit → Act → World → Prop}, (∀ ex F' M' d' ρ' a' w', (k ex F' M' d').Ok G → Ext ρ ρ' → EndP w0 ρ' ex F' M' a' w' → Q ex.to a' w') → c.wp P Q a w := by
  intro c
  induction c with
  | skip => intro hlp hsc ρ F M w a d k hF hW h Q hQ; exact wp_skip (hQ .norm F M d ρ a w h (Ext.refl _) ⟨hF, hW⟩)
  | label l => intro hlp hsc ρ F M w a d k hF hW h Q hQ; exact wp_label (hQ .norm F M d ρ a w h (Ext.refl _) ⟨hF, hW⟩)
  | exit id => intro hlp hsc ρ F M w a d k hF hW h Q hQ; exact wp_exit (hQ (.exit id) F M d ρ a w h (Ext.refl _) ⟨hF, hW⟩)
  | goto l => intro hlp hsc ρ F M w a d k hF hW h Q hQ; exact wp_goto (hQ (.goto l) F M d ρ a w h (Ext.refl _) ⟨hF, hW⟩)
  | ret => intro hlp hsc ρ F M w a d k hF hW h Q hQ; exact wp_ret (hQ .ret F M d ρ a w h (Ext.refl _) ⟨hF, hW⟩)
  | region id ops draw =>
    intro hlp hsc ρ F M w a d k hF hW h Q hQ
    cases draw with
    | true => exact drawP_sound hP hm hcall hpan _ hF hW h (fun F' M' d' ρ' a' w' q0 q1 q2 q3 => hQ .norm F' M' d' ρ' a' w' q0 q1 ⟨q2, q3⟩) (fun kk e M1 d' ρ' M' a' w' q0 q1 q2 q3 => hQ (.pan kk e) [] M1 d' ρ' a' w' q0 q1 ⟨q2, M', q3⟩)
    | false => exact wp_region_list (opsP_sound hP hcall hpan hinl ops ops.toList hF hW h (fun F' M' d' ρ' a' w' q0 q1 q2 q3 => hQ .norm F' M' d' ρ' a' w' q0 q1 ⟨q2, q3⟩) (fun kk e M1 d' ρ' M' a' w' q0 q1 q2 q3 => hQ (.pan kk e) [] M1 d' ρ' a' w' q0 q1 ⟨q2, M', q3⟩))
  | seq x y ihx ihy =>
    intro hlp hsc ρ F M w a d k hF hW h Q hQ
    refine wp_seq (ihx hlp.1 hsc.1 hF hW h fun ex F' M' d' ρ' a' w' h0 h1 h2 => ?_)
    cases ex with
    | norm => exact ihy hlp.2 hsc.2 h2.1 h2.2 h0 fun ex2 F2 M2 d2 ρ2 a2 w2 q0 q1 q2 => hQ ex2 F2 M2 d2 ρ2 a2 w2 q0 (h1.trans q1) q2
    | exit id => exact hQ (.exit id) F' M' d' ρ' a' w' h0 h1 h2
    | ret => exact hQ .ret F' M' d' ρ' a' w' h0 h1 h2
    | goto l => exact hQ (.goto l) F' M' d' ρ' a' w' h0 h1 h2
    | pan kk e => exact hQ (.pan kk e) F' M' d' ρ' a' w' h0 h1 h2
  | cond c t e iht ihe =>
    intro hlp hsc ρ F M w a d k hF hW h Q hQ
    simp only [codeP] at h
    split at h
    · rename_i b hc
      obtain ⟨d', h⟩ := ask_ok h
      cases b with
      | true => rw [refX_eq hc] at h; exact wp_cond_true (litX_sound hF hc) (iht hlp.1 hsc.1 hF hW h hQ)
      | false => rw [refX_eq hc] at h; exact wp_cond_false (litX_sound hF hc) (ihe hlp.2 hsc.2 hF hW h hQ)
    · exact h.elim
  | block id body ih =>
    intro hlp hsc ρ F M w a d k hF hW h Q hQ
    refine wp_block (ih hlp hsc hF hW h fun ex F' M' d' ρ' a' w' h0 h1 h2 => ?_)
    cases ex with
    | norm => exact hQ .norm F' M' d' ρ' a' w' h0 h1 h2
    | exit id' =>
      simp only at h0
      by_cases hid : id' = id
      · rw [if_pos hid] at h0
        simp only [ExP.to, Exit.inBlock, hid, if_true]
        exact hQ .norm F' M' d' ρ' a' w' h0 h1 h2
      · rw [if_neg hid] at h0
        simp only [ExP.to, Exit.inBlock, hid, if_false]
        exact hQ (.exit id') F' M' d' ρ' a' w' h0 h1 h2
    | ret => exact hQ .ret F' M' d' ρ' a' w' h0 h1 h2
    | goto l => exact hQ (.goto l) F' M' d' ρ' a' w' h0 h1 h2
    | pan kk e => exact hQ (.pan kk e) F' M' d' ρ' a' w' h0 h1 h2
  | loop body ih =>
    intro hlp hsc ρ F M w a d k hF hW h Q hQ
    simp only [codeP] at h
    simp only [LoopsOk] at hlp
    cases hl : lp (codeId body) with
    | some S =>
      simp only [hl] at h hlp
      obtain ⟨m, hm'⟩ := hlp F M _ (bindT_ok h)
      refine wp_loop_rounds m (hm' w0 ρ a w Q hF hW fun ex F' M' ρ' a' w' hg q1 q2 q3 => ?_)
      obtain ⟨d', hg⟩ := hg
      cases ex with
      | norm => exact hQ .norm F' M' d' ρ' a' w' hg q1 ⟨q2, q3⟩
      | exit id => exact hQ (.exit id) F' M' d' ρ' a' w' hg q1 ⟨q2, q3⟩
      | ret => exact hQ .ret F' M' d' ρ' a' w' hg q1 ⟨q2, q3⟩
    | none => simp only [hl] at h; exact h.elim
  | scope body ih =>
    intro hlp hsc ρ F M w a d k hF hW h Q hQ
    simp only [codeP] at h
    cases hs : sc with
    | some S =>
      simp only [hs] at h
      exact hsc S hs F M _ (bindT_ok h) w0 ρ a w Q hF hW fun ex F' M' ρ' a' w' hg q1 q2 => by
        obtain ⟨d', hg⟩ := hg
        exact hQ ex F' M' d' ρ' a' w' hg q1 q2
    | none => simp only [hs] at h; exact h.elim
  | _ => intro hlp hsc ρ F M w a d k hF hW h; exact h.elim
def Exit.jmp (J : Nat → Act → World → Prop) (Q : Exit → Act → World → Prop) : Exit → Act → World → Prop
  | .goto l, a, w => J l a w
  | e, a, w => Q e a w
def wpJ (P : Program) (c : Code) (Q : Exit → Act → World → Prop) : Nat → Code → Act → World → Prop
  | 0, _, _, _ => False
  | n + 1, x, a, w => x.wp P (Exit.jmp (fun l a' w' => ∃ rest, findLabel c l = some rest ∧ wpJ P c Q n rest a' w') Q) a w
theorem scope_of_jumps {P : Program} {c : Code} {Q : Exit → Act → World → Prop} {n : Nat} {a : Act} {w : World} (h : wpJ P c Q n c a w) : (Code.scope c).wp P Q a w := by
  intro b k cs
  have key : ∀ n x a w, wpJ P c Q n x a w → ∃ e a' w', Q e a' w' ∧ Arrives P (lone (b.at a (.code x :: .inScope c :: k)) cs w) b k cs e a' w' := by
    intro n
    induction n with
    | zero => intro x a w h; exact h.elim
    | succ n ih =>
      intro x a w h
      obtain ⟨e, a₁, w₁, hq, harr⟩ := h b (.inScope c :: k) cs
      cases e with
      | normal => exact ⟨.normal, a₁, w₁, hq, Steps.trans harr (.one step_inScope)⟩
      | exit id => exact ⟨.exit id, a₁, w₁, hq, fun k' hk => harr k' (by simp [exitTo, hk])⟩
      | goto l =>
        obtain ⟨rest, hf, hJ⟩ := hq
        obtain ⟨e₂, a₂, w₂, hq₂, harr₂⟩ := ih rest a₁ w₁ hJ
        have hg : gotoIn l (.inScope c :: k) = some (.code rest :: .inScope c :: k) := by simp [gotoIn, hf]
        exact ⟨e₂, a₂, w₂, hq₂, .of_steps (harr _ hg) harr₂⟩
      | ret => exact ⟨_, a₁, w₁, hq, harr⟩
      | panic ch => exact ⟨_, a₁, w₁, hq, harr⟩
      | outgrown => exact ⟨_, a₁, w₁, hq, harr⟩
  obtain ⟨e, a', w', hq, harr⟩ := key n c a w h
  exact ⟨e, a', w', hq, .of_steps (.one step_scope) harr⟩
end Go.Proofs.Ytglkdhmikpejnaa.Sy
namespace Go.Proofs.Ytglkdhmikpejnaa.Sy
open Go Go.RowKit
def scopesOf : Code → List Code
  | .seq a b => scopesOf a ++ scopesOf b
  | .cond _ a b => scopesOf a ++ scopesOf b
  | .block _ b => scopesOf b
  | .scope b => [b]
  | _ => []
theorem scOk_of {P : Program} {sc : Option SummP} : ∀ (c : Code), (∀ b ∈ scopesOf c, ∀ S, sc = some S → ∀ F M (H : ExP × Fr × Mem → Prop), (S F M).Ok H → ScopeTo P b F M fun ex F' M' => H (ex, F', M')) → ScOk P sc c
  | .seq a b, h => ⟨scOk_of a fun x hx => h x (by simp [scopesOf, hx]), scOk_of b fun x hx => h x (by simp [scopesOf, hx])⟩
  | .cond _ a b, h => ⟨scOk_of a fun x hx => h x (by simp [scopesOf, hx]), scOk_of b fun x hx => h x (by simp [scopesOf, hx])⟩
  | .block _ b, h => scOk_of b fun x hx => h x (by simp [scopesOf, hx])
  | .scope b, h => h b (by simp [scopesOf])
  | .loop b, h => trivial
  | .skip, _ | .label _, _ | .region .., _ | .exit _, _ | .ret, _ | .goto _, _ | .refuse _, _ | .rangeFunc .., _ => trivial
theorem scOk_none {P : Program} (c : Code) : ScOk P none c := scOk_of c fun _ _ S h => by cases h
def scopesIn (P : Program) (f : FuncId) : List Code := match P.funcs[f]? with
  | some fn => match fn.body with
    | some c => scopesOf c
    | none => []
  | none => []
def theScope (P : Program) (f : FuncId) : Code := (scopesIn P f).headD .skip
structure Sc (P : Program) (f : FuncId) where
  S : SummP
  one : Nat.beq (scopesIn P f).length 1 = true
  ok : ∀ F M (H : ExP × Fr × Mem → Prop), (S F M).Ok H → ScopeTo P (theScope P f) F M fun ex F' M' => H (ex, F', M')
theorem Sc.scOk {P : Program} {f : FuncId} (s : Sc P f) {fn : Func} {c : Code} (hf : P.funcs[f]? = some fn) (hb : fn.body = some c) : ScOk P (some s.S) c := scOk_of c fun b hbm S hS => by
  simp at hS
  subst hS
  have hmem : b ∈ scopesIn P f := by
    unfold scopesIn
    rw [hf]
    simp only [hb]
    exact hbm
  have h1 := s.one
  have h2 := s.ok
  unfold theScope at h2
  match hl : scopesIn P f, hmem, h1, h2 with
  | [x], hmem, _, h2 =>
    simp at hmem
    subst hmem
    exact h2
  | [], hmem, _, _ => cases hmem
  | _ :: _ :: _, _, h1, _ => cases h1
inductive RP where
  | ret (v : AV) (M : Mem)
  | pan (k e : Int)
def CallP (P : Program) (f : FuncId) (args : List AV) (M : Mem) (G : RP → Prop) : Prop := ∀ w0 ρ us w, rels ρ args us → WR w0 ρ M w →
  Calls P f us.toArray w fun x w' => (∃ ρ' u v M', x = .returned u ∧ Ext ρ ρ' ∧ rel ρ' v u ∧ WR w0 ρ' M' w' ∧ G (.ret v M')) ∨ ∃ k e ρ' M', x = .panicked [pent k e] ∧ Ext ρ ρ' ∧ WR w0 ρ' M' w' ∧ G (.pan k e)
theorem CallP.to {P : Program} {f : FuncId} {args : List AV} {M : Mem} {G : RP → Prop} (h : CallP P f args M G) (hn : ∀ k e, ¬ G (.pan k e)) : CallTo P f args M fun v M' => G (.ret v M') := fun w0 ρ us w hr hW => by
  refine (h w0 ρ us w hr hW).mono ?_
  rintro x w' (h1 | ⟨k, e, _, _, _, _, _, hg⟩)
  · exact h1
  · exact absurd hg (hn k e)
theorem CallP.pan {P : Program} {f : FuncId} {args : List AV} {M : Mem} {G : RP → Prop} {k e : Int} (h : CallP P f args M G) (hn : ∀ v M', ¬ G (.ret v M')) (he : ∀ k' e', G (.pan k' e') → k' = k ∧ e' = e) : PanTo P f args M k e := fun w0 ρ us w hr hW => by
  refine (h w0 ρ us w hr hW).mono ?_
  rintro x w' (⟨_, _, v, M', _, _, _, _, hg⟩ | ⟨k', e', ρ', M', rfl, q1, q2, hg⟩)
  · exact absurd hg (hn v M')
  · obtain ⟨rfl, rfl⟩ := he k' e' hg
    exact ⟨ρ', M', rfl, q1, q2⟩
noncomputable def funP {β : Type} (P : Program) (call : CallT) (ps : PanS) (lp : FuncId → Nat → Option Summ) (sc : Option SummP) (n m : Nat) (f : FuncId) (args : List AV) (M : Mem) (d : D) (k : RP → D → Tr β) : Tr β := match P.funcs[f]? with
  | some fn => match fn.body with
    | some c => codeP P call ps (callK P call lp n m) (lp f) sc c (frame args fn.ntmps) M d fun ex F' M' d' => match ex with
      | .norm => endK (resultsA P F' M' fn) fun v => k (.ret v M') d'
      | .ret => endK (resultsA P F' M' fn) fun v => k (.ret v M') d'
      | .pan kk e => k (.pan kk e) d'
      | .exit _ => .bad 14
      | .goto _ => .bad 27
    | none => .bad 15
  | none => .bad 16
theorem funP_sound {P : Program} (hP : Plainly P) (hm : P.follows .mixedOrders = true) {call : CallT} (hcall : CallOk P call) {ps : PanS} (hpan : PanOk P ps.pan) {lp : FuncId → Nat → Option Summ} (hlp : AllLoops P lp) {sc : Option SummP} {f : FuncId} (hsc : ∀ fn c, P.funcs[f]? = some fn → fn.body = some c → ScOk P sc c) (n m : Nat) {args : List AV} {M : Mem} {d : D} {G : RP → Prop}
    (h : (funP P call ps lp sc n m f args M d fun r _ => .leaf r).Ok G) : CallP P f args M G := fun w0 ρ us w hr hW => by
  unfold funP at h
  cases hf : P.funcs[f]? with
  | none => simp only [hf] at h; exact h.elim
  | some fn =>
    cases hb : fn.body with
    | none => simp only [hf, hb] at h; exact h.elim
    | some c =>
      simp only [hf, hb] at h
      refine calls_of_wp hf hb (codeP_sound hP hm hcall hpan (callK_ok hP hm hcall hlp n m) c (hlp f fn c hf hb) (hsc fn c hf hb) (frame_start hr fn.ntmps) hW h fun ex F' M' d' ρ' a' w' h0 h1 h2 => ?_)
      have fin : (endK (resultsA P F' M' fn) fun v => (.leaf (.ret v M') : Tr RP)).Ok G → FR ρ' F' a' → WR w0 ρ' M' w' → ∃ v u, rel ρ' v u ∧ (results fn a'.tmps).run P w' = .ok u w' ∧ G (.ret v M') := fun h0 h2 h3 => by
        cases hres : resultsA P F' M' fn with
        | none => rw [hres] at h0; exact h0.elim
        | some v =>
          rw [hres] at h0
          obtain ⟨u, q1, q2⟩ := resultsA_sound h2 h3 hres
          exact ⟨v, u, q1, q2, h0⟩
      cases ex with
      | norm =>
        obtain ⟨v, u, q1, q2, q3⟩ := fin h0 h2.1 h2.2
        exact bodyPost_end q2 h2.1.defers (.inl ⟨ρ', u, v, M', rfl, h1, q1, h2.2, q3⟩)
      | ret =>
        obtain ⟨v, u, q1, q2, q3⟩ := fin h0 h2.1 h2.2
        exact bodyPost_ret q2 h2.1.defers (.inl ⟨ρ', u, v, M', rfl, h1, q1, h2.2, q3⟩)
      | exit id => exact h0.elim
      | goto l => exact h0.elim
      | pan kk e =>
        obtain ⟨q1, M2, q2⟩ := h2
        exact ⟨q1, .inr ⟨kk, e, ρ', M2, rfl, h1, q2, h0⟩⟩
def JumpT (T : Nat) (P : Program) (c : Code) (n : Nat) (x : Code) (F : Fr) (M : Mem) (G : ExP → Fr → Mem → Prop) : Prop := ∀ w0 ρ a w (Q : Exit → Act → World → Prop), FR ρ F a → WR w0 ρ M w →
  (∀ ex F' M' ρ' a' w', G ex F' M' → Ext (cutR T ρ) ρ' → EndP w0 ρ' ex F' M' a' w' → Q ex.to a' w') → wpJ P c Q n x a w
theorem JumpT.mono {T : Nat} {P : Program} {c : Code} {n : Nat} {x : Code} {F : Fr} {M : Mem} {G H : ExP → Fr → Mem → Prop} (h : JumpT T P c n x F M G) (hG : ∀ ex F M, G ex F M → H ex F M) : JumpT T P c n x F M H := fun w0 ρ a w Q hF hW hQ => h w0 ρ a w Q hF hW fun ex F' M' ρ' a' w' hg => hQ ex F' M' ρ' a' w' (hG ex F' M' hg)
theorem JumpT.stamp {T : Nat} {P : Program} {c : Code} {n : Nat} {x : Code} {F : Fr} {T0 s : Nat} {bs : List (Option Blk)} {G : ExP → Fr → Mem → Prop} (s' : Nat) (h : JumpT T P c n x F ⟨T0, s', bs⟩ G) : JumpT T P c n x F ⟨T0, s, bs⟩ G := fun w0 ρ a w Q hF hW hQ => h w0 ρ a w Q hF (hW.restamp s') hQ
theorem JumpT.to {T : Nat} {P : Program} {c : Code} {n : Nat} {F : Fr} {M : Mem} {G : ExP → Fr → Mem → Prop} (h : JumpT T P c n c F M G) (hT : M.top ≤ T) : ScopeTo P c F M G := fun w0 ρ a w Q hF hW hQ => scope_of_jumps (n := n) (h w0 ρ a w Q hF hW fun ex F' M' ρ' a' w' hg h1 h2 => hQ ex F' M' ρ' a' w' hg ⟨fun b g hb => h1.blk b g (by
    have := hW.dom b g hb
    simp only [Sy.cutR, if_pos (show b < T by omega)]; exact hb), fun b hb => h1.nil b (by
    have := (hW.nild b hb).1
    simp only [Sy.cutR, if_pos (show b < T by omega)]; exact hb), h1.still, h1.base, h1.mine⟩ h2)
theorem JumpT.ren {T : Nat} {P : Program} {c : Code} {n : Nat} {x : Code} {F F2 : Fr} {M M2 : Mem} {G : ExP → Fr → Mem → Prop} (l : List Nat) (h0 : l.take T = List.range T) (hF2 : RenF (nm l) F F2) (hM : RenM (nm l) M M2) (h : JumpT T P c n x F2 M2 G) : JumpT T P c n x F M G := fun w0 ρ a w Q hF hW hQ => by
  have id := nm_id h0
  refine h w0 _ a w Q (hF2.fr hF) (hW.ren hM) fun ex F' M' ρ' a' w' hg q1 q2 => hQ ex F' M' ρ' a' w' hg ⟨fun b g hb => q1.blk b g ?_, fun b hb => q1.nil b ?_, q1.still, q1.base, q1.mine⟩ q2
  · simp only [Sy.cutR] at hb ⊢
    split at hb
    · rename_i hlt; rw [if_pos hlt]; show (pull (nm l) ρ) b = _; rw [pull_blk (id b hlt)]; exact hb
    · cases hb
  · simp only [Sy.cutR] at hb ⊢
    split at hb
    · rename_i hlt; rw [if_pos hlt]; show (pull (nm l) ρ).nil b = _; rw [pull_nil (id b hlt)]; exact hb
    · cases hb
def EndJ (T : Nat) (P : Program) (c : Code) (n : Nat) (G : ExP → Fr → Mem → Prop) (ex : ExP) (F : Fr) (M : Mem) : Prop := match ex with
  | .goto l => ∃ rest, findLabel c l = some rest ∧ JumpT T P c n rest F M G
  | .norm => G .norm F M
  | .exit id => G (.exit id) F M
  | .ret => G .ret F M
  | .pan k e => G (.pan k e) F M
noncomputable def maskP (p : List Bool) (ex : ExP) (F : Fr) : Fr := match ex with
  | .pan _ _ => []
  | _ => maskF p F
theorem seg {P : Program} (hP : Plainly P) (hm : P.follows .mixedOrders = true) (T : Nat) {call : CallT} (hcall : CallOk P call) {ps : PanS} (hpan : PanOk P ps.pan) {inl : Inl (ExP × Fr × Mem)} (hinl : InlOk P inl) (c x : Code) (hl : (loopsOf x).isEmpty = true) (p : List Bool) {n : Nat} {F : Fr} {M : Mem} (d : D) (t : Tr (ExP × Fr × Mem)) {G : ExP → Fr → Mem → Prop}
    (h : codeP P call ps inl (fun _ => none) none x F M d (fun ex F' M' _ => .leaf (ex, maskP p ex F', M')) = t)
    (ht : t.Ok fun r => EndJ T P c n G r.1 r.2.1 r.2.2) : JumpT T P c (n + 1) x F M G := fun w0 ρ a w Q hF hW hQ => by
  subst h
  have hlp : LoopsOk P (fun _ => none) x := loopsOk_of x fun b hb => by
    have : loopsOf x = [] := by simpa using hl
    rw [this] at hb
    cases hb
  refine codeP_sound hP hm hcall hpan hinl x hlp (scOk_none x) hF hW ht fun ex F' M' d' ρ' a' w' h0 h1 h2 => ?_
  cases ex with
  | norm => exact hQ .norm _ _ _ a' w' h0 (h1.cutR T) ⟨h2.1.mask p, h2.2⟩
  | exit id => exact hQ (.exit id) _ _ _ a' w' h0 (h1.cutR T) ⟨h2.1.mask p, h2.2⟩
  | ret => exact hQ .ret _ _ _ a' w' h0 (h1.cutR T) ⟨h2.1.mask p, h2.2⟩
  | pan k e => exact hQ (.pan k e) _ _ _ a' w' h0 (h1.cutR T) h2
  | goto l =>
    obtain ⟨rest, hf, hJ⟩ := h0
    refine ⟨rest, hf, hJ w0 _ a' w' Q (h2.1.mask p) h2.2 fun ex2 F2 M2 ρ2 a2 w2 g r1 r2 => hQ ex2 F2 M2 ρ2 a2 w2 g ⟨fun b g hb => r1.blk b g (by
      simp only [Sy.cutR] at hb ⊢
      split at hb
      · rename_i hlt; rw [if_pos hlt]; exact h1.blk b g hb
      · cases hb), fun b hb => r1.nil b (by
      simp only [Sy.cutR] at hb ⊢
      split at hb
      · rename_i hlt; rw [if_pos hlt]; exact h1.nil b hb
      · cases hb), fun g o v hv => r1.still g o v (h1.still g o v hv), r1.base.trans h1.base, r1.mine.trans h1.mine⟩ r2⟩
structure PCon (P : Program) where
  f : FuncId
  pan : List AV → Mem → Option PanR
  dum : AV
  ok : ∀ args M r, pan args M = some r → owed r.ob → r.b = true → PanTo P f args M r.k r.e
noncomputable def pansOf {P : Program} (l : List (PCon P)) : PanT := fun f args M => List.rec (motive := fun _ => Option PanR) none (fun c _ ih => Bool.rec (motive := fun _ => Option PanR) ih (c.pan args M) (Nat.beq c.f f)) l
theorem pansOf_ok {P : Program} : ∀ l : List (PCon P), PanOk P (pansOf l)
  | [] => fun f args M r h => by cases h
  | c :: l => fun f args M r h hob hb => by
    have e : pansOf (c :: l) f args M = Bool.rec (motive := fun _ => Option PanR) (pansOf l f args M) (c.pan args M) (Nat.beq c.f f) := rfl
    rw [e] at h
    cases hc : Nat.beq c.f f with
    | true =>
      have e : c.f = f := Nat.eq_of_beq_eq_true hc
      subst e
      rw [hc] at h
      exact c.ok args M r h hob hb
    | false =>
      rw [hc] at h
      exact pansOf_ok l f args M r h hob hb
def dumOf {P : Program} (l : List (PCon P)) (more : List (FuncId × AV)) (f : FuncId) : Option AV := match l.find? (fun c => Nat.beq c.f f) with
  | some c => some c.dum
  | none => (more.find? (fun x => Nat.beq x.1 f)).map (·.2)
noncomputable def psOf {P : Program} (l : List (PCon P)) (more : List (FuncId × AV)) : PanS := ⟨pansOf l, fun f => l.any (fun c => Nat.beq c.f f), dumOf l more⟩
theorem PanTo.frameG {P : Program} {f : FuncId} {args argc : List AV} {M Mc M' : Mem} {k e : Int} {σ : Nat → Option Nat} (h : PanTo P f argc Mc k e) (hA : RenVs σ args argc) (hM : RenM σ M Mc) (hl : Live σ Mc) (ht : M.top ≤ M'.top)
    (hb : ∀ b B, M'.get b = some B → b < M.top ∧ (∀ c, σ c ≠ some b) ∧ M.get b = some B) : ∀ w0 ρ us w, rels ρ args us → WR w0 ρ M w →
  Calls P f us.toArray w fun x w' => ∃ ρ', x = .panicked [pent k e] ∧ Ext ρ ρ' ∧ WR w0 ρ' M' w' := fun w0 ρ us w hr hW => by
  refine (h w (sub σ ρ) us w ((hA.rels hr).pull_sub) (hW.enter hM)).mono ?_
  rintro x w2 ⟨ρ2, M2, rfl, hE, hW2⟩
  obtain ⟨r1, r2, r3⟩ := hW.leave (τ := fun _ => none) (M' := M') hM hl hW2 (hE.cutR Mc.top) ⟨ht, fun _ _ hx => (by cases hx), fun _ _ _ hx => (by cases hx), fun _ _ _ hx => (by cases hx), fun b B hx => .inl (hb b B hx)⟩
  exact ⟨_, rfl, r1, r2⟩
theorem PanTo.any {P : Program} {f : FuncId} {args argc : List AV} {M Mc : Mem} {k e : Int} {σ : Nat → Option Nat} (h : PanTo P f argc Mc k e) (hA : RenVs σ args argc) (hM : RenM σ M Mc) (hl : Live σ Mc) : PanTo P f args M k e := fun w0 ρ us w hr hW =>
  (PanTo.frameG (M' := ⟨M.top, 0, []⟩) h hA hM hl (Nat.le_refl _) (fun b B hx => by simp [Mem.get_def] at hx) w0 ρ us w hr hW).mono fun x w' ⟨ρ', h1, h2, h3⟩ => ⟨ρ', _, h1, h2, h3⟩
theorem toP (l : List (Con Try.prog)) (pl : List (PCon Try.prog)) (more : List (FuncId × AV)) (lp : List (Lp Try.prog)) (n m : Nat) {f : FuncId} {args : List AV} {M : Mem} (d : D) (t : Tr RP) {G : RP → Prop}
    (h : funP Try.prog (table l) (psOf pl more) (lpOf lp) none n m f args M d (fun r _ => .leaf r) = t) (ht : t.Ok G) : CallP Try.prog f args M G :=
  funP_sound plain mixed (table_ok l) (pansOf_ok pl) (lps_ok lp) (fun fn c _ _ => scOk_none c) n m (h ▸ ht)
theorem toS (l : List (Con Try.prog)) (pl : List (PCon Try.prog)) (more : List (FuncId × AV)) (lp : List (Lp Try.prog)) {f : FuncId} (s : Sc Try.prog f) (n m : Nat) {args : List AV} {M : Mem} (d : D) (t : Tr RP) {G : RP → Prop}
    (h : funP Try.prog (table l) (psOf pl more) (lpOf lp) (some s.S) n m f args M d (fun r _ => .leaf r) = t) (ht : t.Ok G) : CallP Try.prog f args M G :=
  funP_sound plain mixed (table_ok l) (pansOf_ok pl) (lps_ok lp) (fun fn c hf hb => s.scOk hf hb) n m (h ▸ ht)
def pieceAt (c : Code) (l : Nat) : Code := match l with
  | 0 => c
  | l + 1 => (findLabel c l).getD .skip
theorem segJ (T : Nat) (l : List (Con Try.prog)) (pl : List (PCon Try.prog)) (more : List (FuncId × AV)) (k m : Nat) (f : FuncId) (lab : Nat) (hl : (loopsOf (pieceAt (theScope Try.prog f) lab)).isEmpty = true) (p : List Bool) {n : Nat} {F : Fr} {M : Mem} (d : D) (t : Tr (ExP × Fr × Mem)) {G : ExP → Fr → Mem → Prop}
    (h : codeP Try.prog (table l) (psOf pl more) (callK Try.prog (table l) (lpOf ([] : List (Lp Try.prog))) k m) (fun _ => none) none (pieceAt (theScope Try.prog f) lab) F M d (fun ex F' M' _ => .leaf (ex, maskP p ex F', M')) = t)
    (ht : t.Ok fun r => EndJ T Try.prog (theScope Try.prog f) n G r.1 r.2.1 r.2.2) : JumpT T Try.prog (theScope Try.prog f) (n + 1) (pieceAt (theScope Try.prog f) lab) F M G :=
  seg plain mixed T (table_ok l) (pansOf_ok pl) (callK_ok plain mixed (table_ok l) (lps_ok ([] : List (Lp Try.prog))) k m) _ _ hl p d t h ht
end Go.Proofs.Ytglkdhmikpejnaa.Sy
namespace Go.Proofs.Ytglkdhmikpejnaa
open Go Go.RowKit Sy
theorem fail_w (k e : Int) (w : World) : Calls Try.prog 35 #[.int .i64 k, .int .i64 e] w fun x w' => x = .panicked [pent k e] ∧ w' = w := by
  go_enter Try.func35, Try.ntmps35
  go_wp2
  exact ⟨rfl, rfl, rfl⟩
namespace Sy
theorem fail_p (k e : Int) (M : Mem) : PanTo Try.prog 35 [int k, int e] M k e := fun w0 ρ us w hr hW => by
  simp only [rels, rel] at hr
  obtain ⟨u, us1, rfl, rfl, u2, us2, rfl, rfl, rfl⟩ := hr
  refine (fail_w k e w).mono ?_
  rintro x w' ⟨rfl, rfl⟩
  exact ⟨ρ, M, rfl, Ext.refl ρ, hW⟩
noncomputable abbrev pFail : PCon Try.prog where
  f := 35
  dum := .tup []
  pan := fun args M => match args with
    | [.lit (.int .i64 k), .lit (.int .i64 e)] => some ⟨none, true, k, e⟩
    | _ => none
  ok := fun args M r h hob hb => by
    split at h
    · simp at h
      subst h
      exact fail_p _ _ M
    · cases h
abbrev mrB (s : ByteArray) (a : Int) (z : AV) : Blk := ⟨[.lit (.string s), int a, z], 52, none⟩
abbrev mrM (s : ByteArray) (a : Int) (u : Value) : Mem := ⟨1, 0, [some (mrB s a (.lit u))]⟩
theorem WR.swap1 {w0 : World} {ρ : Rho} {M : Mem} {w : World} (h : WR w0 ρ M w) {b g tot : Nat} {B C : Blk} (hb : M.get b = some B) (hg : ρ b = some (g, tot)) (hC : C.elem = B.elem) (hH : ∀ cur, w.heap[g]? = some (.cells cur B.elem (0, 0)) → Holds ρ B cur → Holds ρ C cur) : WR w0 ρ (M.put b (some C)) w := by
  have hlt := Mem.get_lt hb
  have key : ∀ (x : Nat) (D : Blk), (M.put b (some C)).get x = some D → (x = b ∧ D = C) ∨ (x ≠ b ∧ M.get x = some D) := fun x D hx => by
    rcases Mem.get_put hlt hx with ⟨q1, q2⟩ | ⟨q1, q2⟩
    · simp at q2
      exact .inl ⟨q1, q2.symm⟩
    · exact .inr ⟨q1, q2⟩
  have old : ∀ (x : Nat) (D : Blk), (M.put b (some C)).get x = some D → ∃ D', M.get x = some D' := fun x D hx => by
    rcases key x D hx with ⟨rfl, _⟩ | ⟨_, q⟩
    · exact ⟨_, hb⟩
    · exact ⟨_, q⟩
  refine ⟨h.keep, fun x y hx => h.dom x y hx, fun x hx => h.nild x hx, fun x D g' t' hx hg' => ?_, fun x D hx => ?_, fun x x' D D' g1 t1 t2 h1 h2 h3 h4 => ?_, h.still, h.first, fun x D g' t' hx hg' => ?_⟩
  · rcases key x D hx with ⟨rfl, rfl⟩ | ⟨_, q⟩
    · rw [hg] at hg'
      simp at hg'
      obtain ⟨rfl, rfl⟩ := hg'
      obtain ⟨q1, cur, q2, q3, q4⟩ := h.holds hb hg
      exact ⟨q1, cur, by rw [hC]; exact q2, q3, hH cur q2 q4⟩
    · exact h.blk x D g' t' q hg'
  · rcases key x D hx with ⟨rfl, rfl⟩ | ⟨_, q⟩
    · exact .inl ⟨g, tot, hg⟩
    · exact h.has x D q
  · obtain ⟨_, q1⟩ := old x D h1
    obtain ⟨_, q2⟩ := old x' D' h2
    exact h.inj x x' _ _ g1 t1 t2 q1 q2 h3 h4
  · obtain ⟨_, q1⟩ := old x D hx
    exact h.apart x _ g' t' q1 hg'
theorem get_bs {M : Mem} {b : Nat} {B : Blk} (h : M.get b = some B) : M.top - 1 - b < M.bs.length := by
  rw [Mem.get_def] at h
  split at h
  · cases hx : M.bs[M.top - 1 - b]? with
    | none => rw [hx] at h; cases h
    | some y => exact (List.getElem?_eq_some_iff.1 hx).1
  · cases h
theorem put_get {M : Mem} {b : Nat} {B C : Blk} (h : M.get b = some B) : (M.put b (some C)).get b = some C := by
  have h1 := Mem.get_lt h
  have h2 := get_bs h
  rw [Mem.put_def, Mem.get_def]
  simp only [h1, if_true]
  rw [List.getElem?_set_self h2]
theorem meth_start {w0 : World} {ρ : Rho} {M : Mem} {w : World} (hW : WR w0 ρ M w) {rb : Nat} {s : ByteArray} {a : Int} {z : AV} (hb : M.get rb = some (mrB s a z)) : ∃ u g tot, rel ρ z u ∧ ρ rb = some (g, tot) ∧ WR w0 ρ (M.put rb (some (mrB s a (.lit u)))) w := by
  obtain ⟨g, tot, hg⟩ : ∃ g t, ρ rb = some (g, t) := by
    rcases hW.has rb _ hb with h1 | ⟨_, _, R, h2, _⟩
    · exact h1
    · cases h2
  obtain ⟨_, cur, hcur, hsz, hH⟩ := hW.holds hb hg
  obtain ⟨u, hu1, hu2⟩ := hH.1 2 z rfl
  refine ⟨u, g, tot, hu2, hg, hW.swap1 hb hg rfl fun cur' h1 h2 => ?_⟩
  rw [hcur] at h1
  simp at h1
  subst h1
  refine Holds.plain fun i v hv => ?_
  rcases i with _ | _ | _ | i
  · exact h2.1 0 v hv
  · exact h2.1 1 v hv
  · simp at hv
    subst hv
    exact ⟨u, hu1, by simp only [rel]⟩
  · simp at hv
theorem CallTo.meth {f : FuncId} {args0 : List AV} {v0 : AV} {s : ByteArray} {a a2 : Int} {z : AV} {M : Mem} {rb : Nat} (h : ∀ u, CallTo Try.prog f (.ptr 0 0 :: args0) (mrM s a u) fun v M' => Frz true 1 M' v v0 ∧ M'.get 0 = some (mrB s a2 (.lit u))) (hf : Frees args0) (hv : Free v0) (hb : M.get rb = some (mrB s a z)) :
    CallTo Try.prog f (.ptr rb 0 :: args0) M fun v M' => v = v0 ∧ M' = M.put rb (some (mrB s a2 z)) := fun w0 ρ us w hr hW => by
  obtain ⟨u, g, tot, hu, hg, hW1⟩ := meth_start hW hb
  have key := CallTo.frame1 (M := M.put rb (some (mrB s a (.lit u)))) (B0 := mrB s a (.lit u)) (B := mrB s a (.lit u)) (b := rb) (args := .ptr rb 0 :: args0) (args1 := .ptr 0 0 :: args0) ((h u).mono fun v M' ⟨q1, q2⟩ => ⟨q1, _, q2, rfl, Frz.lit _ _ _ _, Frz.lit _ _ _ _, Frz.lit _ _ _ _, trivial⟩)
    ⟨⟨rfl, rfl⟩, RenVs.free _ hf⟩ (put_get hb) ⟨rfl, ⟨rfl, rfl, rfl, trivial⟩, trivial⟩ rfl rfl rfl ⟨trivial, trivial, trivial, trivial⟩ hv
  refine (key w0 ρ us w hr hW1).mono ?_
  rintro x w' ⟨ρ', u', v, M', rfl, q1, q2, q3, rfl, rfl⟩
  refine ⟨ρ', u', v, M.put rb (some (mrB s a2 z)), rfl, q1, q2, ?_, rfl, rfl⟩
  have hb2 : ((M.put rb (some (mrB s a (.lit u)))).put rb (some (mrB s a2 (.lit u)))).get rb = some (mrB s a2 (.lit u)) := put_get (put_get hb)
  have h3 := q3.swap1 (C := mrB s a2 z) hb2 (q1.blk rb _ hg) rfl fun cur' h1 h2 => by
    refine Holds.plain fun i v hv => ?_
    rcases i with _ | _ | _ | i
    · exact h2.1 0 v hv
    · exact h2.1 1 v hv
    · simp at hv
      subst hv
      obtain ⟨u2, r1, r2⟩ := h2.1 2 (.lit u) rfl
      simp only [rel] at r2
      subst r2
      exact ⟨_, r1, hu.ext q1⟩
    · simp at hv
  have e : ((M.put rb (some (mrB s a (.lit u)))).put rb (some (mrB s a2 (.lit u)))).put rb (some (mrB s a2 z)) = ⟨M.top, M.stamp + 1 + 1 + 1, (M.put rb (some (mrB s a2 z))).bs⟩ := by
    simp only [Mem.put_def, List.set_set]
  rw [e] at h3
  exact h3.restamp (M.stamp + 1)
theorem PanTo.meth {f : FuncId} {args0 : List AV} {s : ByteArray} {a k e : Int} {z : AV} {M : Mem} {rb : Nat} (h : ∀ u, PanTo Try.prog f (.ptr 0 0 :: args0) (mrM s a u) k e) (hf : Frees args0) (hb : M.get rb = some (mrB s a z)) :
    PanTo Try.prog f (.ptr rb 0 :: args0) M k e := fun w0 ρ us w hr hW => by
  obtain ⟨u, g, tot, hu, hg, hW1⟩ := meth_start hW hb
  exact PanTo.any (M := M.put rb (some (mrB s a (.lit u)))) (args := .ptr rb 0 :: args0) (σ := nm [rb]) (argc := .ptr 0 0 :: args0) (h u) ⟨⟨rfl, rfl⟩, RenVs.free _ hf⟩ (.of rfl rfl (by simp) ⟨⟨rb, _, rfl, put_get hb, rfl, ⟨rfl, rfl, rfl, trivial⟩, trivial⟩, trivial⟩) (fun b c hbc => by
    rcases b with _ | b
    · exact ⟨_, rfl⟩
    · cases hbc) w0 ρ us w hr hW1
structure MrX where
  rb : Nat
  a : Int
  z : AV
  rest : List AV
noncomputable def mrGet (args : List AV) (M : Mem) : Option MrX := match args with
  | .ptr rb 0 :: rest => match M.get rb with
    | some ⟨[_, .lit (.int .i64 a), z], _, none⟩ => some ⟨rb, a, z, rest⟩
    | _ => none
  | _ => none
theorem mrGet_ok {args : List AV} {M : Mem} {x : MrX} (hg : mrGet args M = some x) : args = .ptr x.rb 0 :: x.rest := by
  unfold mrGet at hg
  split at hg
  · split at hg
    · simp at hg; subst hg; rfl
    · cases hg
  · cases hg
noncomputable def conM {Y : Type} (s : ByteArray) (f : FuncId) (get : List AV → Option Y) (args0 : Y → List AV) (v0 : Int → Y → AV) (at2 : Int → Y → Int) (C : Int → Y → Prop) (h : ∀ a y, C a y → (Frees (args0 y) ∧ Free (v0 a y)) ∧ ∀ u, CallTo Try.prog f (.ptr 0 0 :: args0 y) (mrM s a u) fun v M' => Frz true 1 M' v (v0 a y) ∧ M'.get 0 = some (mrB s (at2 a y) (.lit u))) : Con Try.prog where
  f := f
  run := fun args M => match mrGet args M with
    | some x => match get x.rest with
      | some y => some (v0 x.a y, M.put x.rb (some (mrB s (at2 x.a y) x.z)))
      | none => none
    | none => none
  ob := fun args M => match mrGet args M with
    | some x => match get x.rest with
      | some y => some (isSo (M.get x.rb = some (mrB s x.a x.z) ∧ x.rest = args0 y ∧ C x.a y))
      | none => none
    | none => none
  ok := fun args M v M' hr hob => by
    cases hg : mrGet args M with
    | none => rw [hg] at hr; cases hr
    | some x =>
      rw [hg] at hr hob
      cases hy : get x.rest with
      | none => simp only [hy] at hr; cases hr
      | some y =>
        simp only [hy] at hr hob
        simp at hr
        obtain ⟨rfl, rfl⟩ := hr
        have h1 := hob _ rfl
        rw [isSo_t] at h1
        obtain ⟨hb, hrest, hC⟩ := h1
        obtain ⟨⟨hf, hv⟩, h2⟩ := h x.a y hC
        refine ⟨Grow.put _ _ _, ?_⟩
        rw [mrGet_ok hg, hrest]
        exact CallTo.meth h2 hf hv hb
theorem put_same {M : Mem} {b : Nat} {B : Blk} (h : M.get b = some B) : M.put b (some B) = ⟨M.top, M.stamp + 1, M.bs⟩ := by
  have h2 := get_bs h
  rw [Mem.put_def]
  congr 1
  rw [Mem.get_def] at h
  split at h
  · cases hx : M.bs[M.top - 1 - b]? with
    | none => rw [hx] at h; cases h
    | some y =>
      rw [hx] at h
      cases y with
      | none => cases h
      | some C =>
        simp at h
        subst h
        exact set_same hx
  · cases h
noncomputable def conMr {Y : Type} (s : ByteArray) (f : FuncId) (get : List AV → Option Y) (args0 : Y → List AV) (v0 : Int → Y → AV) (C : Int → Y → Prop) (h : ∀ a y, C a y → (Frees (args0 y) ∧ Free (v0 a y)) ∧ ∀ u, CallTo Try.prog f (.ptr 0 0 :: args0 y) (mrM s a u) fun v M' => Frz true 1 M' v (v0 a y) ∧ M'.get 0 = some (mrB s a (.lit u))) : Con Try.prog where
  f := f
  run := fun args M => match mrGet args M with
    | some x => match get x.rest with
      | some y => some (v0 x.a y, M)
      | none => none
    | none => none
  ob := fun args M => match mrGet args M with
    | some x => match get x.rest with
      | some y => some (isSo (M.get x.rb = some (mrB s x.a x.z) ∧ x.rest = args0 y ∧ C x.a y))
      | none => none
    | none => none
  ok := fun args M v M' hr hob => by
    cases hg : mrGet args M with
    | none => rw [hg] at hr; cases hr
    | some x =>
      rw [hg] at hr hob
      cases hy : get x.rest with
      | none => simp only [hy] at hr; cases hr
      | some y =>
        simp only [hy] at hr hob
        simp at hr
        obtain ⟨rfl, rfl⟩ := hr
        have h1 := hob _ rfl
        rw [isSo_t] at h1
        obtain ⟨hb, hrest, hC⟩ := h1
        obtain ⟨⟨hf, hv⟩, h2⟩ := h x.a y hC
        refine ⟨Grow.refl _, ?_⟩
        rw [mrGet_ok hg, hrest]
        intro w0 ρ us w hr hW
        refine (CallTo.meth h2 hf hv hb w0 ρ us w hr hW).mono ?_
        rintro e w' ⟨ρ', u, v, M', q0, q1, q2, q3, rfl, rfl⟩
        rw [put_same hb] at q3
        exact ⟨ρ', u, _, M, q0, q1, q2, q3.restamp M.stamp, rfl, rfl⟩
noncomputable def panM {Y : Type} (s : ByteArray) (f : FuncId) (dum : AV) (get : List AV → Option Y) (args0 : Y → List AV) (bad : Int → Y → Bool) (kk ee : Int → Y → Int) (C : Int → Y → Prop) (h : ∀ a y, C a y → bad a y = true → Frees (args0 y) ∧ ∀ u, PanTo Try.prog f (.ptr 0 0 :: args0 y) (mrM s a u) (kk a y) (ee a y)) : PCon Try.prog where
  f := f
  dum := dum
  pan := fun args M => match mrGet args M with
    | some x => match get x.rest with
      | some y => some ⟨some (isSo (M.get x.rb = some (mrB s x.a x.z) ∧ x.rest = args0 y ∧ C x.a y)), bad x.a y, kk x.a y, ee x.a y⟩
      | none => none
    | none => none
  ok := fun args M r hr hob hbad => by
    cases hg : mrGet args M with
    | none => rw [hg] at hr; cases hr
    | some x =>
      rw [hg] at hr
      cases hy : get x.rest with
      | none => simp only [hy] at hr; cases hr
      | some y =>
        simp only [hy] at hr
        simp at hr
        subst hr
        have h1 := hob _ rfl
        rw [isSo_t] at h1
        obtain ⟨hb, hrest, hC⟩ := h1
        obtain ⟨hf, h2⟩ := h x.a y hC hbad
        rw [mrGet_ok hg, hrest]
        exact PanTo.meth h2 hf hb
end Sy
end Go.Proofs.Ytglkdhmikpejnaa
namespace Go.Proofs.Ytglkdhmikpejnaa
open Go Go.RowKit Pl Sy
def limM (n : Nat) : Prop := n ≤ 1000000
def InM (s : ByteArray) (a : Int) : Prop := (0 ≤ a ∧ a ≤ s.size) ∧ limM s.size
noncomputable def pkI (s : ByteArray) (a : Int) : Int := if leI s.size a = true then 0 else byteAt s a.toNat
abbrev Sy.u8A (n : Int) : AV := .lit (.int .u8 n)
noncomputable def scI (g : Int → Bool) (s : ByteArray) (a : Int) : Int := (Sy.hops (fun j => !g (byteAt s j)) (fun j => j + 1) s.size a.toNat : Nat)
theorem scI_step (g : Int → Bool) (s : ByteArray) (a : Int) (h0 : 0 ≤ a) : scI g s a = if a < s.size ∧ g (byteAt s a.toNat) = true then scI g s (a + 1) else a := by
  unfold scI
  rw [Sy.hops_step (fun k _ => Nat.lt_succ_self k)]
  by_cases h : a < s.size ∧ g (byteAt s a.toNat) = true
  · rw [if_pos h, if_pos ⟨by omega, by rw [h.2]; rfl⟩, show (a + 1).toNat = a.toNat + 1 by omega]
  · rw [if_neg h, if_neg (fun ⟨q1, q2⟩ => h ⟨by omega, by simpa using q2⟩)]
    omega
theorem scI_le (g : Int → Bool) (s : ByteArray) (a : Int) (h0 : 0 ≤ a) (h : a ≤ s.size) : a ≤ scI g s a ∧ scI g s a ≤ s.size := by
  have : a.toNat ≤ Sy.hops (fun j => !g (byteAt s j)) (fun j => j + 1) s.size a.toNat ∧ Sy.hops (fun j => !g (byteAt s j)) (fun j => j + 1) s.size a.toNat ≤ s.size := Sy.hops_le (fun k _ => Nat.lt_succ_self k) (fun k h => h) _ a.toNat (Nat.le_refl _) (by omega)
  unfold scI
  omega
theorem scI_in {g : Int → Bool} {s : ByteArray} {a : Int} (h : InM s a) : InM s (scI g s a) := by
  have := scI_le g s a h.1.1 h.1.2
  have := h.1.1
  exact ⟨by omega, h.2⟩
theorem Sy.up_scan {P : Program} {body : Code} (s : ByteArray) (g : Int → Bool) (F : Fr) (Mm : Int → Mem) (e : Ex)
    (step : ∀ (a : Int) (n : Nat) (G : Ex → Fr → Mem → Prop), 0 ≤ a → a ≤ s.size → (a < s.size → g (byteAt s a.toNat) = true → LoopTo P body n F (Mm (a + 1)) G) → (¬ (a < s.size ∧ g (byteAt s a.toNat) = true) → G e F (Mm a)) → LoopTo P body (n + 1) F (Mm a) G) :
    ∀ (k : Nat) (a : Int), s.size - a.toNat ≤ k → 0 ≤ a → a ≤ s.size → LoopTo P body (k + 1) F (Mm a) fun ex F' M' => ex = e ∧ F' = F ∧ M' = Mm (scI g s a) := by
  intro k
  induction k with
  | zero =>
    intro a h1 h2 h3
    refine step a 0 _ h2 h3 (fun h => absurd h (by omega)) (fun h => ⟨rfl, rfl, ?_⟩)
    rw [scI_step g s a h2, if_neg h]
  | succ k ih =>
    intro a h1 h2 h3
    refine step a (k + 1) _ h2 h3 (fun q1 q2 => ?_) (fun h => ⟨rfl, rfl, ?_⟩)
    · refine (ih (a + 1) (by omega) (by omega) (by omega)).mono fun ex F' M' ⟨e1, e2, e3⟩ => ⟨e1, e2, ?_⟩
      rw [scI_step g s a h2, if_pos ⟨q1, q2⟩, e3]
    · rw [scI_step g s a h2, if_neg h]
theorem Sy.pek_t (s : ByteArray) (a : Int) (h : InM s a) (u : Value) : CallTo Try.prog 33 [.ptr 0 0] (mrM s a u) fun v M' => Frz true 1 M' v (u8A (pkI s a)) ∧ M'.get 0 = some (mrB s a (.lit u)) :=
  to (G := fun r => Frz true 1 r.2 r.1 (u8A (pkI s a)) ∧ r.2.get 0 = some (mrB s a (.lit u))) [] [] 400 30 (.br .done (.yes .done)) (.fork (leI (((@ByteArray.size s) : Nat) : Int) a) (.leaf ((@AV.lit (@Value.int IntKind.u8 (0 : Int))), (@Mem.mk 1 0 [(some (@Blk.mk [(@AV.lit (@Value.string s)), (int a), (@AV.lit u)] 52 none))]))) (.need (@inR a (@ByteArray.size s)) (.leaf ((@AV.lit (@Value.int IntKind.u8 (@byteAt s (a).toNat))), (@Mem.mk 1 0 [(some (@Blk.mk [(@AV.lit (@Value.string s)), (int a), (@AV.lit u)] 52 none))]))))) (by kernel_rfl) (by
    have h0 := h.1
    unfold pkI
    refine fork_ok (fun q => ?_) (fun q => need_t (by simp only [Bool.not_eq_true', Bool.not_eq_false', leI_t, leI_f, eqI_t, eqI_f, inR_t, inR_f, isSo_t, isSo_f] at q; rw [inR_t]; omega) ?_)
    · rw [if_pos q]
      exact ⟨Frz.lit _ _ _ _, rfl⟩
    · rw [if_neg (by rw [q]; decide)]
      exact ⟨Frz.lit _ _ _ _, rfl⟩)
noncomputable abbrev Sy.cPek (s : ByteArray) : Con Try.prog := conMr s 33 (fun r => match r with | [] => some () | _ => none) (fun _ => []) (fun a _ => u8A (pkI s a)) (fun a _ => InM s a) fun a _ h => ⟨⟨trivial, trivial⟩, fun u => pek_t s a h u⟩
theorem Sy.mbg_t (c : Int) : CallTo Try.prog 53 [u8A c] M0 fun v _ => v = boo (begB c) :=
  toV [] [] 400 30 (.br (.auto 1 (.br (.auto 1 (.br (.auto 3 (.br (.auto 1 (.br (.auto 1 .done) (.auto 1 .done))) (.auto 4 .done))) (.auto 6 (.br (.auto 1 .done) (.auto 1 .done))))) (.auto 11 .done))) (.auto 4 (.br (.auto 3 (.br (.auto 1 (.br (.auto 1 .done) (.auto 1 .done))) (.auto 4 .done))) (.auto 6 (.br (.auto 1 .done) (.auto 1 .done)))))) (.fork (leI (97 : Int) c) (.fork (!(leI c (122 : Int))) (.fork (leI (65 : Int) c) (.fork (!(leI c (90 : Int))) (.fork (!(eqI c (95 : Int))) (.leaf (boo (leI (128 : Int) c))) (.leaf (boo true))) (.leaf (boo true))) (.fork (!(eqI c (95 : Int))) (.leaf (boo (leI (128 : Int) c))) (.leaf (boo true)))) (.leaf (boo true))) (.fork (leI (65 : Int) c) (.fork (!(leI c (90 : Int))) (.fork (!(eqI c (95 : Int))) (.leaf (boo (leI (128 : Int) c))) (.leaf (boo true))) (.leaf (boo true))) (.fork (!(eqI c (95 : Int))) (.leaf (boo (leI (128 : Int) c))) (.leaf (boo true))))) (by kernel_rfl) (by
    repeat' (first
      | refine fork_ok (fun _ => ?_) (fun _ => ?_)
      | refine need_so ⟨rfl, by (first | assumption | trivial | (try simp only [eqI_t, eqI_f, leI_t, leI_f, inR_t, inR_f, isSo_t, isSo_f, eqI_d, leI_d, decide_eq_true_eq, decide_eq_false_iff_not, Bool.not_eq_true', Bool.not_eq_false', Bool.false_eq_true, Bool.and_eq_true, Bool.or_eq_true, Bool.not_not, iff_false, false_iff, iff_true, true_iff] at *) <;> first | omega | grind)⟩ ?_
      | refine need_so (by (first | assumption | trivial | (try simp only [eqI_t, eqI_f, leI_t, leI_f, inR_t, inR_f, isSo_t, isSo_f, eqI_d, leI_d, decide_eq_true_eq, decide_eq_false_iff_not, Bool.not_eq_true', Bool.not_eq_false', Bool.false_eq_true, Bool.and_eq_true, Bool.or_eq_true, Bool.not_not, iff_false, false_iff, iff_true, true_iff] at *) <;> first | omega | grind)) ?_
      | refine need_t (by (first | assumption | trivial | (try simp only [eqI_t, eqI_f, leI_t, leI_f, inR_t, inR_f, isSo_t, isSo_f, eqI_d, leI_d, decide_eq_true_eq, decide_eq_false_iff_not, Bool.not_eq_true', Bool.not_eq_false', Bool.false_eq_true, Bool.and_eq_true, Bool.or_eq_true, Bool.not_not, iff_false, false_iff, iff_true, true_iff] at *) <;> first | omega | grind)) ?_)
    all_goals (first | refine leaf_boo ?_ | refine leaf_int ?_)
    all_goals (unfold begB; try simp only [eqI_t, eqI_f, leI_t, leI_f, inR_t, inR_f, isSo_t, isSo_f, eqI_d, leI_d, decide_eq_true_eq, decide_eq_false_iff_not, Bool.not_eq_true', Bool.not_eq_false', Bool.false_eq_true, Bool.and_eq_true, Bool.or_eq_true, Bool.not_not, iff_false, false_iff, iff_true, true_iff] at *)
    all_goals (first | omega | grind))
noncomputable abbrev Sy.cMbg : Con Try.prog := atX 53 (fun args => match args with | [.lit (.int .u8 c)] => some c | _ => none) (fun c => [u8A c]) (fun c => boo (begB c)) (fun _ => True) fun c _ => ⟨⟨⟨trivial, trivial⟩, trivial⟩, mbg_t c⟩
theorem Sy.mgo_t (c : Int) : CallTo Try.prog 72 [u8A c] M0 fun v _ => v = boo (goesB c) :=
  toV [cMbg] [] 400 30 (.yes (.br (.auto 1 (.br (.auto 3 (.br (.auto 1 .done) (.auto 1 .done))) (.auto 6 .done))) (.auto 8 .done))) (.need (@isSo (@And ((@HAppend.hAppend _ _ _ _ (@HAppend.hAppend _ _ _ _ [] [(@AV.lit (@Value.int IntKind.u8 c))]) []) = [(@AV.lit (@Value.int IntKind.u8 c))]) True)) (.fork (!(@Pl.begB c)) (.fork (leI (48 : Int) c) (.fork (!(leI c (57 : Int))) (.leaf (boo (eqI c (45 : Int)))) (.leaf (boo true))) (.leaf (boo (eqI c (45 : Int))))) (.leaf (boo true)))) (by kernel_rfl) (by
    unfold goesB
    refine need_so ⟨rfl, trivial⟩ ?_
    generalize begB c = B
    exact (by
    repeat' (first
      | refine fork_ok (fun _ => ?_) (fun _ => ?_)
      | refine need_so ⟨rfl, by (first | assumption | trivial | (try simp only [eqI_t, eqI_f, leI_t, leI_f, inR_t, inR_f, isSo_t, isSo_f, eqI_d, leI_d, decide_eq_true_eq, decide_eq_false_iff_not, Bool.not_eq_true', Bool.not_eq_false', Bool.false_eq_true, Bool.and_eq_true, Bool.or_eq_true, Bool.not_not, iff_false, false_iff, iff_true, true_iff] at *) <;> first | omega | grind)⟩ ?_
      | refine need_so (by (first | assumption | trivial | (try simp only [eqI_t, eqI_f, leI_t, leI_f, inR_t, inR_f, isSo_t, isSo_f, eqI_d, leI_d, decide_eq_true_eq, decide_eq_false_iff_not, Bool.not_eq_true', Bool.not_eq_false', Bool.false_eq_true, Bool.and_eq_true, Bool.or_eq_true, Bool.not_not, iff_false, false_iff, iff_true, true_iff] at *) <;> first | omega | grind)) ?_
      | refine need_t (by (first | assumption | trivial | (try simp only [eqI_t, eqI_f, leI_t, leI_f, inR_t, inR_f, isSo_t, isSo_f, eqI_d, leI_d, decide_eq_true_eq, decide_eq_false_iff_not, Bool.not_eq_true', Bool.not_eq_false', Bool.false_eq_true, Bool.and_eq_true, Bool.or_eq_true, Bool.not_not, iff_false, false_iff, iff_true, true_iff] at *) <;> first | omega | grind)) ?_)
    all_goals (first | refine leaf_boo ?_ | refine leaf_int ?_)
    all_goals (try simp only [eqI_t, eqI_f, leI_t, leI_f, inR_t, inR_f, isSo_t, isSo_f, eqI_d, leI_d, decide_eq_true_eq, decide_eq_false_iff_not, Bool.not_eq_true', Bool.not_eq_false', Bool.false_eq_true, Bool.and_eq_true, Bool.or_eq_true, Bool.not_not, iff_false, false_iff, iff_true, true_iff] at *)
    all_goals (first | omega | grind)))
noncomputable abbrev Sy.cMgo : Con Try.prog := atX 72 (fun args => match args with | [.lit (.int .u8 c)] => some c | _ => none) (fun c => [u8A c]) (fun c => boo (goesB c)) (fun _ => True) fun c _ => ⟨⟨⟨trivial, trivial⟩, trivial⟩, mgo_t c⟩
noncomputable def nmdB (s : ByteArray) (a : Int) : Bool := begB (pkI s a) || eqI (pkI s a) 45
theorem Sy.nmd_t (s : ByteArray) (a : Int) (h : InM s a) (u : Value) : CallTo Try.prog 34 [.ptr 0 0] (mrM s a u) fun v M' => Frz true 1 M' v (boo (nmdB s a)) ∧ M'.get 0 = some (mrB s a (.lit u)) :=
  to (G := fun r => Frz true 1 r.2 r.1 (boo (nmdB s a)) ∧ r.2.get 0 = some (mrB s a (.lit u))) [cPek s, cMbg] [] 400 30 (.yes (.yes (.br (.auto 1 .done) (.auto 1 .done)))) (.need (@isSo (@And ((some (@Blk.mk [(@AV.lit (@Value.string s)), (int a), (@AV.lit u)] 52 none)) = (some (@Blk.mk [(@AV.lit (@Value.string s)), (int a), (@AV.lit u)] 52 none))) (@And (([] : List AV) = []) (@And (@And ((0 : Int) ≤ a) (a ≤ (((@ByteArray.size s) : Nat) : Int))) ((@ByteArray.size s) ≤ 1000000))))) (.need (@isSo (@And ((@HAppend.hAppend _ _ _ _ (@HAppend.hAppend _ _ _ _ [] [(@AV.lit (@Value.int IntKind.u8 (@pkI s a)))]) []) = [(@AV.lit (@Value.int IntKind.u8 (@pkI s a)))]) True)) (.fork (!(@Pl.begB (@pkI s a))) (.leaf ((boo (eqI (@pkI s a) (45 : Int))), (@Mem.mk 1 0 [(some (@Blk.mk [(@AV.lit (@Value.string s)), (int a), (@AV.lit u)] 52 none))]))) (.leaf ((boo true), (@Mem.mk 1 0 [(some (@Blk.mk [(@AV.lit (@Value.string s)), (int a), (@AV.lit u)] 52 none))])))))) (by kernel_rfl) (by
    unfold nmdB
    refine need_so ⟨rfl, rfl, h⟩ (need_so ⟨rfl, trivial⟩ (fork_ok (fun q => ?_) (fun q => ?_)))
    · have q : begB (pkI s a) = false := by simpa using q
      rw [q]
      exact ⟨Frz.lit _ _ _ _, rfl⟩
    · have q : begB (pkI s a) = true := by simpa using q
      rw [q]
      exact ⟨Frz.lit _ _ _ _, rfl⟩)
noncomputable abbrev Sy.cNmd (s : ByteArray) : Con Try.prog := conMr s 34 (fun r => match r with | [] => some () | _ => none) (fun _ => []) (fun a _ => boo (nmdB s a)) (fun a _ => InM s a) fun a _ h => ⟨⟨trivial, trivial⟩, fun u => nmd_t s a h u⟩
def mblB (c : Int) : Bool := eqI c 32 || (eqI c 9 || (eqI c 10 || eqI c 13))
namespace Sy
abbrev mblF : Fr := (some ((@AV.ptr 0 0)) :: (nn15 []))
end Sy
theorem pk_in {s : ByteArray} {a : Int} (h : a < s.size) : pkI s a = byteAt s a.toNat := by
  unfold pkI
  rw [if_neg (by rw [leI_t]; omega)]
theorem pk_end {s : ByteArray} {a : Int} (h : ¬ a < s.size) : pkI s a = 0 := by
  unfold pkI
  rw [if_pos (by rw [leI_t]; omega)]
theorem pk_go (g : Int → Bool) (g0 : g 0 = false) (s : ByteArray) (a : Int) : g (pkI s a) = true ↔ (a < s.size ∧ g (byteAt s a.toNat) = true) := by
  by_cases h : a < s.size
  · rw [pk_in h]
    exact ⟨fun q => ⟨h, q⟩, fun q => q.2⟩
  · rw [pk_end h, g0]
    exact ⟨fun q => (by cases q), fun q => absurd q.1 h⟩
theorem Sy.mbl_scan (s : ByteArray) (a : Int) (h : InM s a) (u : Value) : LoopTo Try.prog (theBody Try.prog 32 1) (s.size + 1) mblF (mrM s a u) fun ex F' M' => ex = .ret ∧ F' = mblF ∧ M' = mrM s (scI mblB s a) u := by
  refine up_scan s mblB mblF (fun a => mrM s a u) .ret (fun a n G h0 h1 c1 c2 => ?_) s.size a (by omega) h.1.1 h.1.2
  have hl := h.2
  unfold limM at hl
  refine roundL [cPek s] [] 400 30 32 1 Try.func32 rfl (by kernel_rfl) (true :: (ff15 [])) (.yes (.br (.auto 0 .done) (.br (.auto 0 .done) (.br (.auto 0 .done) (.br .done .done))))) (let e1 := (some (@Blk.mk [(@AV.lit (@Value.string s)), (int a), (@AV.lit u)] 52 none)); (.need (@isSo (@And (e1 = e1) (@And (([] : List AV) = []) (@And (@And ((0 : Int) ≤ a) (a ≤ (((@ByteArray.size s) : Nat) : Int))) ((@ByteArray.size s) ≤ 1000000))))) (.fork (eqI (@pkI s a) (32 : Int)) (.leaf (Ex.norm, (((some (@AV.ptr 0 0)) :: (nn15 [])), (@Mem.mk 1 (0 + 1) [(some (@Blk.mk ((@AV.lit (@Value.string s)) :: [(int (w64 (a + (1 : Int)))), (@AV.lit u)]) 52 none))])))) (.fork (eqI (@pkI s a) (9 : Int)) (.leaf (Ex.norm, (((some (@AV.ptr 0 0)) :: (nn15 [])), (@Mem.mk 1 (0 + 1) [(some (@Blk.mk ((@AV.lit (@Value.string s)) :: [(int (w64 (a + (1 : Int)))), (@AV.lit u)]) 52 none))])))) (.fork (eqI (@pkI s a) (10 : Int)) (.leaf (Ex.norm, (((some (@AV.ptr 0 0)) :: (nn15 [])), (@Mem.mk 1 (0 + 1) [(some (@Blk.mk ((@AV.lit (@Value.string s)) :: [(int (w64 (a + (1 : Int)))), (@AV.lit u)]) 52 none))])))) (.fork (eqI (@pkI s a) (13 : Int)) (.leaf (Ex.norm, (((some (@AV.ptr 0 0)) :: (nn15 [])), (@Mem.mk 1 (0 + 1) [(some (@Blk.mk ((@AV.lit (@Value.string s)) :: [(int (w64 (a + (1 : Int)))), (@AV.lit u)]) 52 none))])))) (.leaf (Ex.ret, (((some (@AV.ptr 0 0)) :: (nn15 [])), (@Mem.mk 1 0 [e1])))))))))) (by kernel_rfl) ?_
  have go : mblB (pkI s a) = true → LoopTo Try.prog (theBody Try.prog 32 1) n mblF (mrM s (w64 (a + 1)) u) G := fun q => by
    obtain ⟨q1, q2⟩ := (pk_go mblB rfl s a).1 q
    rw [w64_in (r := a + 1) (by omega)]
    exact c1 q1 q2
  refine need_so ⟨rfl, rfl, ⟨h0, h1⟩, h.2⟩ (fork_ok (fun q => ?_) (fun q1 => fork_ok (fun q => ?_) (fun q2 => fork_ok (fun q => ?_) (fun q3 => fork_ok (fun q => ?_) (fun q4 => ?_)))))
  · exact LoopTo.stampB 0 (go (by unfold mblB; rw [q]; rfl))
  · exact LoopTo.stampB 0 (go (by unfold mblB; rw [q1, q]; rfl))
  · exact LoopTo.stampB 0 (go (by unfold mblB; rw [q1, q2, q]; rfl))
  · exact LoopTo.stampB 0 (go (by unfold mblB; rw [q1, q2, q3, q]; rfl))
  · exact c2 (fun x => by
      have := (pk_go mblB rfl s a).2 x
      unfold mblB at this
      rw [q1, q2, q3, q4] at this
      cases this)
namespace Sy
noncomputable abbrev lpMbl (s : ByteArray) (a : Int) (u : Value) : Lp Try.prog where
  f := 32
  key := 1
  S := formS (fun F M => some ()) (fun _ => mblF) (fun _ => mrM s a u) (fun _ => InM s a) (fun _ => .leaf (.ret, mblF, mrM s (scI mblB s a) u)) (true :: (ff15 []))
  one := by kernel_rfl
  ok := formS_ok fun _ h1 => by
    refine ⟨_, (Sy.mbl_scan s a h1 u).mono fun ex F M hg => ?_⟩
    obtain ⟨rfl, rfl, rfl⟩ := hg
    rfl
end Sy
theorem Sy.mbl_t (s : ByteArray) (a : Int) (h : InM s a) (u : Value) : CallTo Try.prog 32 [.ptr 0 0] (mrM s a u) fun v M' => Frz true 1 M' v (.tup []) ∧ M'.get 0 = some (mrB s (scI mblB s a) (.lit u)) :=
  to (G := fun r => Frz true 1 r.2 r.1 (.tup []) ∧ r.2.get 0 = some (mrB s (scI mblB s a) (.lit u))) [] [lpMbl s a u] 400 30 .done (.need (@isSo (@And (((some (@AV.ptr 0 0)) :: (nn15 [])) = mblF) ((@Mem.mk 1 0 [(some (@Blk.mk [(@AV.lit (@Value.string s)), (int a), (@AV.lit u)] 52 none))]) = (@Mem.mk 1 0 [(some (@Blk.mk [(@AV.lit (@Value.string s)), (int a), (@AV.lit u)] 52 none))])))) (.need (@isSo (@And (@And ((0 : Int) ≤ a) (a ≤ (((@ByteArray.size s) : Nat) : Int))) ((@ByteArray.size s) ≤ 1000000))) (.leaf ((@AV.tup []), (@Mem.mk 1 0 [(some (@Blk.mk [(@AV.lit (@Value.string s)), (int (@scI mblB s a)), (@AV.lit u)] 52 none))]))))) (by kernel_rfl) (need_so ⟨rfl, rfl⟩ (need_so h ⟨Frz.free _ _ trivial, rfl⟩))
noncomputable abbrev Sy.cMbl (s : ByteArray) : Con Try.prog := conM s 32 (fun r => match r with | [] => some () | _ => none) (fun _ => []) (fun a _ => .tup []) (fun a _ => scI mblB s a) (fun a _ => InM s a) fun a _ h => ⟨⟨trivial, trivial⟩, fun u => mbl_t s a h u⟩
noncomputable def nxB (s : ByteArray) (a c : Int) : Bool := leI s.size a || !eqI (byteAt s a.toNat) c
theorem Sy.ned_t (s : ByteArray) (a c : Int) (h : InM s a) (u : Value) : CallP Try.prog 60 [.ptr 0 0, u8A c] (mrM s a u) fun r => match r with
    | .ret v M' => nxB s a c = false ∧ Frz true 1 M' v (.tup []) ∧ M'.get 0 = some (mrB s (a + 1) (.lit u))
    | .pan k e => nxB s a c = true ∧ k = a ∧ e = 30 :=
  toP [] [pFail] [] [] 400 30 (.br (.auto 7 (.yes (.auto 2 (.br (.auto 0 .done) .done)))) (.auto 12 .done)) (.fork (!(leI (((@ByteArray.size s) : Nat) : Int) a)) (.need (@inR a (@ByteArray.size s)) (.fork (!(eqI (@byteAt s (a).toNat) c)) (.leaf (@RP.pan a (Int.ofNat 30))) (.leaf (@RP.ret (@AV.tup []) (@Mem.mk 1 (0 + 1) [(some (@Blk.mk ((@AV.lit (@Value.string s)) :: [(int (w64 (a + (1 : Int)))), (@AV.lit u)]) 52 none))]))))) (.leaf (@RP.pan a (Int.ofNat 30)))) (by kernel_rfl) (by
    have h0 := h.1
    have hl := h.2
    unfold limM at hl
    unfold nxB
    refine fork_ok (fun q => need_t (by simp only [Bool.not_eq_true', Bool.not_eq_false', leI_t, leI_f, eqI_t, eqI_f, inR_t, inR_f, isSo_t, isSo_f] at q; rw [inR_t]; omega) (fork_ok (fun q2 => ?_) (fun q2 => ?_))) (fun q => ?_)
    · have q2 : eqI (byteAt s a.toNat) c = false := by simpa using q2
      exact ⟨by rw [q2]; simp, rfl, rfl⟩
    · have q2 : eqI (byteAt s a.toNat) c = true := by simpa using q2
      have q : leI s.size a = false := by simpa using q
      rw [leI_f] at q
      rw [w64_in (r := a + 1) (by omega)]
      exact ⟨by rw [q2, show leI s.size a = false by rw [leI_f]; exact q]; rfl, Frz.free _ _ trivial, rfl⟩
    · have q : leI s.size a = true := by simpa using q
      exact ⟨by rw [q]; rfl, rfl, rfl⟩)
noncomputable abbrev Sy.cNed (s : ByteArray) : Con Try.prog := conM s 60 (fun r => match r with | [.lit (.int .u8 c)] => some c | _ => none) (fun c => [u8A c]) (fun a _ => .tup []) (fun a _ => a + 1) (fun a c => InM s a ∧ nxB s a c = false) fun a c h => ⟨⟨⟨trivial, trivial⟩, trivial⟩, fun u => ((ned_t s a c h.1 u).to fun k e hg => by rw [h.2] at hg; cases hg.1).mono fun v M' hg => hg.2⟩
noncomputable abbrev Sy.pNed (s : ByteArray) : PCon Try.prog := panM s 60 (.tup []) (fun r => match r with | [.lit (.int .u8 c)] => some c | _ => none) (fun c => [u8A c]) (fun a c => nxB s a c) (fun a _ => a) (fun _ _ => 30) (fun a c => InM s a) fun a c h hb => ⟨⟨trivial, trivial⟩, fun u => (ned_t s a c h u).pan (fun v M' hg => by rw [hb] at hg; cases hg.1) fun k e hg => hg.2⟩
theorem nd_in {s : ByteArray} {a c : Int} (h : InM s a) (hn : nxB s a c = false) : InM s (a + 1) ∧ a < s.size := by
  unfold nxB at hn
  rw [Bool.or_eq_false_iff, leI_f] at hn
  have := h.1
  exact ⟨⟨by omega, h.2⟩, by omega⟩
end Go.Proofs.Ytglkdhmikpejnaa
namespace Go.Proofs.Ytglkdhmikpejnaa
open Go Go.RowKit Pl Sy
noncomputable def nmZ (s : ByteArray) (a : Int) : Int := if eqI (pkI s a) 45 = true then a + 1 else a
noncomputable def startM (s : ByteArray) (a : Int) : Bool := if eqI (pkI s a) 45 = true then begB (pkI s (a + 1)) || eqI (pkI s (a + 1)) 45 else begB (pkI s a)
noncomputable def nmE (s : ByteArray) (a : Int) : Int := scI goesB s (nmZ s a)
noncomputable def nmBad (s : ByteArray) (a : Int) : Bool := !startM s a || !leI (nmE s a - a) 32
noncomputable def nmK (s : ByteArray) (a : Int) : Int := if startM s a = true then a else nmZ s a
noncomputable def nmX (s : ByteArray) (a : Int) : ByteArray := s.extract a.toNat (nmE s a).toNat
namespace Sy
abbrev namF (k : Int) : Fr := (some ((@AV.ptr 0 0)) :: none :: none :: some (int k) :: (nn19 (nn48 [])))
end Sy
theorem Sy.nam_scan (s : ByteArray) (a k : Int) (h : InM s a) (u : Value) : LoopTo Try.prog (theBody Try.prog 56 10) (s.size + 1) (namF k) (mrM s a u) fun ex F' M' => ex = .exit 0 ∧ F' = namF k ∧ M' = mrM s (scI goesB s a) u := by
  refine up_scan s goesB (namF k) (fun a => mrM s a u) (.exit 0) (fun a n G h0 h1 c1 c2 => ?_) s.size a (by omega) h.1.1 h.1.2
  have hl := h.2
  unfold limM at hl
  refine roundL [cPek s, cMgo] [] 400 30 56 10 Try.func56 rfl (by kernel_rfl) (true :: false :: false :: true :: (ff19 (ff48 []))) (.yes (.yes (.br .done .done))) (let e1 := (some (@Blk.mk [(@AV.lit (@Value.string s)), (int a), (@AV.lit u)] 52 none)); let e2 := (@AV.lit (@Value.int IntKind.u8 (@pkI s a))); (.need (@isSo (@And (e1 = e1) (@And (([] : List AV) = []) (@And (@And ((0 : Int) ≤ a) (a ≤ (((@ByteArray.size s) : Nat) : Int))) ((@ByteArray.size s) ≤ 1000000))))) (.need (@isSo (@And ((@HAppend.hAppend _ _ _ _ (@HAppend.hAppend _ _ _ _ [] [e2]) []) = [e2]) True)) (.fork (@Pl.goesB (@pkI s a)) (.leaf (Ex.norm, (((some (@AV.ptr 0 0)) :: none :: none :: (some (int k)) :: (nn19 (nn48 []))), (@Mem.mk 1 (0 + 1) [(some (@Blk.mk ((@AV.lit (@Value.string s)) :: [(int (w64 (a + (1 : Int)))), (@AV.lit u)]) 52 none))])))) (.leaf ((@Ex.exit 0), (((some (@AV.ptr 0 0)) :: none :: none :: (some (int k)) :: (nn19 (nn48 []))), (@Mem.mk 1 0 [e1])))))))) (by kernel_rfl) ?_
  refine need_so ⟨rfl, rfl, ⟨h0, h1⟩, h.2⟩ (need_so ⟨rfl, trivial⟩ (fork_ok (fun q => ?_) (fun q => ?_)))
  · obtain ⟨q1, q2⟩ := (pk_go goesB rfl s a).1 q
    rw [w64_in (r := a + 1) (by omega)]
    exact LoopTo.stampB 0 (c1 q1 q2)
  · exact c2 (fun x => by
      have := (pk_go goesB rfl s a).2 x
      rw [q] at this
      cases this)
namespace Sy
structure KB where
  k : Int
  b : Int
  z : Nat
noncomputable def kbGet (t : Nat) (F : Fr) (M : Mem) : Option KB := match nth F t with
  | some (some (.lit (.int _ k))) => match M with
    | ⟨_, z, [some ⟨[_, .lit (.int _ b), _], _, _⟩]⟩ => some ⟨k, b, z⟩
    | _ => none
  | _ => none
abbrev mrMz (s : ByteArray) (a : Int) (u : Value) (z : Nat) : Mem := ⟨1, z, [some (mrB s a (.lit u))]⟩
noncomputable abbrev lpNam (s : ByteArray) (u : Value) : Lp Try.prog where
  f := 56
  key := 10
  S := formS (fun F M => kbGet 3 F M) (fun x => namF x.k) (fun x => mrMz s x.b u x.z) (fun x => InM s x.b) (fun x => .leaf (.exit 0, namF x.k, mrM s (scI goesB s x.b) u)) (true :: false :: false :: true :: (ff19 (ff48 [])))
  one := by kernel_rfl
  ok := formS_ok fun x h1 => by
    refine ⟨_, LoopTo.stampB 0 ((Sy.nam_scan s x.b x.k h1 u).mono fun ex F M hg => ?_)⟩
    obtain ⟨rfl, rfl, rfl⟩ := hg
    rfl
end Sy
theorem pk_lt {s : ByteArray} {a c : Int} (hc : c ≠ 0) (h : eqI (pkI s a) c = true) : a < s.size := by
  rw [eqI_t] at h
  by_cases hl : a < s.size
  · exact hl
  · rw [pk_end hl] at h
    exact absurd h.symm hc
theorem nmZ_in {s : ByteArray} {a : Int} (h : InM s a) : InM s (nmZ s a) ∧ a ≤ nmZ s a := by
  have h0 := h.1
  unfold nmZ
  split
  · rename_i q
    have := pk_lt (by decide) q
    exact ⟨⟨by omega, h.2⟩, by omega⟩
  · exact ⟨h, Int.le_refl a⟩
theorem nmE_in {s : ByteArray} {a : Int} (h : InM s a) : InM s (nmE s a) ∧ a ≤ nmE s a := by
  obtain ⟨h1, h2⟩ := nmZ_in h
  have h3 := scI_le goesB s (nmZ s a) h1.1.1 h1.1.2
  exact ⟨scI_in h1, by unfold nmE; omega⟩
def NamR (s : ByteArray) (a : Int) (u : Value) (r : RP) : Prop := match r with
  | .ret v M' => nmBad s a = false ∧ Frz true 1 M' v (.lit (.string (nmX s a))) ∧ M'.get 0 = some (mrB s (nmE s a) (.lit u))
  | .pan k e => nmBad s a = true ∧ k = nmK s a ∧ e = 30
theorem Sy.nam_t (s : ByteArray) (a : Int) (h : InM s a) (u : Value) : CallP Try.prog 56 [.ptr 0 0] (mrM s a u) (NamR s a u) :=
  toP [cPek s, cMbg, cMgo] [pFail] [] [lpNam s u] 400 30 (.yes (.br (.yes (.yes (.br (.auto 1 (.br (.auto 0 .done) (.br (.auto 0 .done) (.yes .done)))) (.auto 2 (.br (.auto 0 .done) (.yes .done)))))) (.yes (.yes (.br (.auto 0 .done) (.br (.auto 0 .done) (.yes .done))))))) (let e1 := (@AV.lit (@Value.string s)); let e2 := (@AV.lit u); let e3 := (some (@Blk.mk [e1, (int a), e2] 52 none)); let e4 := (((@ByteArray.size s) : Nat) : Int); let e5 := ((@ByteArray.size s) ≤ 1000000); let e6 := (@And (@And ((0 : Int) ≤ a) (a ≤ e4)) e5); let e7 := (@isSo (@And (e3 = e3) (@And (([] : List AV) = []) e6))); let e8 := (w64 (a + (1 : Int))); let e9 := (some (@Blk.mk (e1 :: [(int e8), e2]) 52 none)); let e10 := (some (@Blk.mk [e1, (int e8), e2] 52 none)); let e11 := (@And (@And ((0 : Int) ≤ e8) (e8 ≤ e4)) e5); let e12 := (@AV.lit (@Value.int IntKind.u8 (@pkI s e8))); let e13 := (((some (@AV.ptr 0 0)) :: none :: none :: (some (int a)) :: (nn19 (nn48 []))) = ((some (@AV.ptr 0 0)) :: none :: none :: (some (int a)) :: (nn19 (nn48 [])))); let e14 := (@scI Pl.goesB s e8); let e15 := (@AV.lit (@Value.int IntKind.u8 (@pkI s a))); let e16 := (@scI Pl.goesB s a); (.need e7 (.fork (eqI (@pkI s a) (45 : Int)) (.need (@isSo (@And (e9 = e10) (@And (([] : List AV) = []) e11))) (.need (@isSo (@And ((@HAppend.hAppend _ _ _ _ (@HAppend.hAppend _ _ _ _ [] [e12]) []) = [e12]) True)) (.fork (!(@Pl.begB (@pkI s e8))) (.fork (!(eqI (@pkI s e8) (45 : Int))) (.leaf (@RP.pan e8 (Int.ofNat 30))) (.need (@isSo (@And e13 ((@Mem.mk 1 (0 + 1) [e9]) = (@Mem.mk 1 (0 + 1) [e10])))) (.need (@isSo e11) (.fork (!(leI (w64 (e14 - a)) (32 : Int))) (.leaf (@RP.pan a (Int.ofNat 30))) (.need ((leI (0 : Int) a) && ((leI a e14) && (leI e14 e4))) (.leaf (@RP.ret (@AV.lit (@Value.string (@ByteArray.extract s (a).toNat (e14).toNat))) (@Mem.mk 1 0 [(some (@Blk.mk [e1, (int e14), e2] 52 none))])))))))) (.need (@isSo (@And e13 ((@Mem.mk 1 (0 + 1) [e9]) = (@Mem.mk 1 (0 + 1) [e10])))) (.need (@isSo e11) (.fork (!(leI (w64 (e14 - a)) (32 : Int))) (.leaf (@RP.pan a (Int.ofNat 30))) (.need ((leI (0 : Int) a) && ((leI a e14) && (leI e14 e4))) (.leaf (@RP.ret (@AV.lit (@Value.string (@ByteArray.extract s (a).toNat (e14).toNat))) (@Mem.mk 1 0 [(some (@Blk.mk [e1, (int e14), e2] 52 none))])))))))))) (.need e7 (.need (@isSo (@And ((@HAppend.hAppend _ _ _ _ (@HAppend.hAppend _ _ _ _ [] [e15]) []) = [e15]) True)) (.fork (!(@Pl.begB (@pkI s a))) (.leaf (@RP.pan a (Int.ofNat 30))) (.need (@isSo (@And e13 ((@Mem.mk 1 0 [e3]) = (@Mem.mk 1 0 [e3])))) (.need (@isSo e6) (.fork (!(leI (w64 (e16 - a)) (32 : Int))) (.leaf (@RP.pan a (Int.ofNat 30))) (.need ((leI (0 : Int) a) && ((leI a e16) && (leI e16 e4))) (.leaf (@RP.ret (@AV.lit (@Value.string (@ByteArray.extract s (a).toNat (e16).toNat))) (@Mem.mk 1 0 [(some (@Blk.mk [e1, (int e16), e2] 52 none))]))))))))))))) (by kernel_rfl) (by
    have h0 := h.1
    have hl := h.2
    unfold limM at hl
    have hE := nmE_in h
    have hE1 := hE.1.1
    have hZ := nmZ_in h
    conv => zeta
    refine need_so ⟨rfl, rfl, h⟩ (fork_ok (fun q => ?_) (fun q => ?_))
    · have hlt := pk_lt (by decide) q
      have eZ : nmZ s a = a + 1 := by unfold nmZ; rw [if_pos q]
      have eE : scI goesB s (a + 1) = nmE s a := by unfold nmE; rw [eZ]
      have eS : startM s a = (begB (pkI s (a + 1)) || eqI (pkI s (a + 1)) 45) := by unfold startM; rw [if_pos q]
      have hz : InM s (a + 1) := by rw [← eZ]; exact hZ.1
      rw [w64_in (r := a + 1) (by omega), eE, w64_in (r := nmE s a - a) (by omega)]
      have fin : startM s a = true → (Tr.fork (!leI (nmE s a - a) 32) (Tr.leaf (RP.pan a 30)) (Tr.need (leI 0 a && (leI a (nmE s a) && leI (nmE s a) s.size)) (Tr.leaf (RP.ret (.lit (.string (s.extract a.toNat (nmE s a).toNat))) (mrM s (nmE s a) u))))).Ok (NamR s a u) := fun hs => by
        refine fork_ok (fun q2 => ?_) (fun q2 => need_t (by rw [Bool.and_eq_true, Bool.and_eq_true, leI_t, leI_t, leI_t]; omega) ?_)
        · have q2 : leI (nmE s a - a) 32 = false := by simpa using q2
          exact ⟨by unfold nmBad; rw [hs, q2]; rfl, by unfold nmK; rw [if_pos hs], rfl⟩
        · have q2 : leI (nmE s a - a) 32 = true := by simpa using q2
          exact ⟨by unfold nmBad; rw [hs, q2]; rfl, Frz.lit _ _ _ _, rfl⟩
      refine need_so ⟨rfl, rfl, hz⟩ (need_so ⟨rfl, trivial⟩ (fork_ok (fun q2 => fork_ok (fun q3 => ?_) (fun q3 => need_so ⟨rfl, rfl⟩ (need_so hz (fin ?_)))) (fun q2 => need_so ⟨rfl, rfl⟩ (need_so hz (fin ?_)))))
      · have q2 : begB (pkI s (a + 1)) = false := by simpa using q2
        have q3 : eqI (pkI s (a + 1)) 45 = false := by simpa using q3
        have hs : startM s a = false := by rw [eS, q2, q3]; rfl
        exact ⟨by unfold nmBad; rw [hs]; rfl, by unfold nmK; rw [if_neg (by rw [hs]; decide), eZ], rfl⟩
      · have q3 : eqI (pkI s (a + 1)) 45 = true := by simpa using q3
        rw [eS, q3, Bool.or_true]
      · have q2 : begB (pkI s (a + 1)) = true := by simpa using q2
        rw [eS, q2, Bool.true_or]
    · have eZ : nmZ s a = a := by unfold nmZ; rw [if_neg (by rw [q]; decide)]
      have eE : scI goesB s a = nmE s a := by unfold nmE; rw [eZ]
      have eS : startM s a = begB (pkI s a) := by unfold startM; rw [if_neg (by rw [q]; decide)]
      rw [eE, w64_in (r := nmE s a - a) (by omega)]
      refine need_so ⟨rfl, rfl, h⟩ (need_so ⟨rfl, trivial⟩ (fork_ok (fun q2 => ?_) (fun q2 => need_so ⟨rfl, rfl⟩ (need_so h (fork_ok (fun q3 => ?_) (fun q3 => need_t (by rw [Bool.and_eq_true, Bool.and_eq_true, leI_t, leI_t, leI_t]; omega) ?_))))))
      · have q2 : begB (pkI s a) = false := by simpa using q2
        have hs : startM s a = false := by rw [eS, q2]
        exact ⟨by unfold nmBad; rw [hs]; rfl, by unfold nmK; rw [if_neg (by rw [hs]; decide), eZ], rfl⟩
      · have hs : startM s a = true := by rw [eS]; simpa using q2
        have q3 : leI (nmE s a - a) 32 = false := by simpa using q3
        exact ⟨by unfold nmBad; rw [hs, q3]; rfl, by unfold nmK; rw [if_pos hs], rfl⟩
      · have hs : startM s a = true := by rw [eS]; simpa using q2
        have q3 : leI (nmE s a - a) 32 = true := by simpa using q3
        exact ⟨by unfold nmBad; rw [hs, q3]; rfl, Frz.lit _ _ _ _, rfl⟩)
noncomputable abbrev Sy.cNam (s : ByteArray) : Con Try.prog := conM s 56 (fun r => match r with | [] => some () | _ => none) (fun _ => []) (fun a _ => .lit (.string (nmX s a))) (fun a _ => nmE s a) (fun a _ => InM s a ∧ nmBad s a = false) fun a _ h => ⟨⟨trivial, trivial⟩, fun u => ((nam_t s a h.1 u).to fun k e hg => by have := hg.1; rw [h.2] at this; cases this).mono fun v M' hg => hg.2⟩
noncomputable abbrev Sy.pNam (s : ByteArray) : PCon Try.prog := panM s 56 (.lit (.string ⟨⟨[]⟩⟩)) (fun r => match r with | [] => some () | _ => none) (fun _ => []) (fun a _ => nmBad s a) (fun a _ => nmK s a) (fun _ _ => 30) (fun a _ => InM s a) fun a _ h hb => ⟨trivial, fun u => (nam_t s a h u).pan (fun v M' hg => by have := hg.1; rw [hb] at this; cases this) fun k e hg => hg.2⟩
end Go.Proofs.Ytglkdhmikpejnaa
namespace Go.Proofs.Ytglkdhmikpejnaa
open Go Go.RowKit Pl Sy
def wdG (c : Int) : Bool := leI 32 c && !eqI c 34
noncomputable def wdE (s : ByteArray) (a : Int) : Int := scI wdG s (a + 1)
noncomputable def wdBad (s : ByteArray) (a : Int) : Bool := nxB s a 34 || (nxB s (wdE s a) 34 || !leI (wdE s a - (a + 1)) 256)
noncomputable def wdK (s : ByteArray) (a : Int) : Int := if nxB s a 34 = true then a else if nxB s (wdE s a) 34 = true then wdE s a else a
noncomputable def wdX (s : ByteArray) (a : Int) : ByteArray := s.extract (a + 1).toNat (wdE s a).toNat
namespace Sy
abbrev wdsF (q f : Int) : Fr := (some ((@AV.ptr 0 0)) :: none :: none :: some (int q) :: some (int f) :: (nn22 (nn48 [])))
end Sy
theorem Sy.wds_scan (s : ByteArray) (a q f : Int) (h : InM s a) (u : Value) : LoopTo Try.prog (theBody Try.prog 42 5) (s.size + 1) (wdsF q f) (mrM s a u) fun ex F' M' => ex = .exit 0 ∧ F' = wdsF q f ∧ M' = mrM s (scI wdG s a) u := by
  refine up_scan s wdG (wdsF q f) (fun a => mrM s a u) (.exit 0) (fun a n G h0 h1 c1 c2 => ?_) s.size a (by omega) h.1.1 h.1.2
  have hl := h.2
  unfold limM at hl
  refine roundL [] [] 400 30 42 5 Try.func42 rfl (by kernel_rfl) (true :: false :: false :: true :: true :: (ff22 (ff48 []))) (.br (.auto 7 (.yes (.auto 1 (.br (.auto 7 (.yes (.auto 1 (.br .done .done)))) (.auto 10 .done))))) (.auto 21 .done)) (.fork (!(leI (((@ByteArray.size s) : Nat) : Int) a)) (.need (@inR a (@ByteArray.size s)) (.fork (leI (32 : Int) (@byteAt s (a).toNat)) (.need (@inR a (@ByteArray.size s)) (.fork (!(eqI (@byteAt s (a).toNat) (34 : Int))) (.leaf (Ex.norm, (((some (@AV.ptr 0 0)) :: none :: none :: (some (int q)) :: (some (int f)) :: (nn22 (nn48 []))), (@Mem.mk 1 (0 + 1) [(some (@Blk.mk ((@AV.lit (@Value.string s)) :: [(int (w64 (a + (1 : Int)))), (@AV.lit u)]) 52 none))])))) (.leaf ((@Ex.exit 0), (((some (@AV.ptr 0 0)) :: none :: none :: (some (int q)) :: (some (int f)) :: (nn22 (nn48 []))), (@Mem.mk 1 0 [(some (@Blk.mk [(@AV.lit (@Value.string s)), (int a), (@AV.lit u)] 52 none))])))))) (.leaf ((@Ex.exit 0), (((some (@AV.ptr 0 0)) :: none :: none :: (some (int q)) :: (some (int f)) :: (nn22 (nn48 []))), (@Mem.mk 1 0 [(some (@Blk.mk [(@AV.lit (@Value.string s)), (int a), (@AV.lit u)] 52 none))])))))) (.leaf ((@Ex.exit 0), (((some (@AV.ptr 0 0)) :: none :: none :: (some (int q)) :: (some (int f)) :: (nn22 (nn48 []))), (@Mem.mk 1 0 [(some (@Blk.mk [(@AV.lit (@Value.string s)), (int a), (@AV.lit u)] 52 none))]))))) (by kernel_rfl) ?_
  refine fork_ok (fun q1 => ?_) (fun q1 => ?_)
  · have q1 : leI s.size a = false := by simpa using q1
    rw [leI_f] at q1
    have hr : inR a s.size = true := by rw [inR_t]; omega
    refine need_t hr (fork_ok (fun q2 => need_t hr (fork_ok (fun q3 => ?_) (fun q3 => ?_))) (fun q2 => ?_))
    · rw [w64_in (r := a + 1) (by omega)]
      exact LoopTo.stampB 0 (c1 (by omega) (by unfold wdG; rw [q2, q3]; rfl))
    · refine c2 (fun x => ?_)
      have := x.2
      unfold wdG at this
      rw [q2, q3] at this
      cases this
    · refine c2 (fun x => ?_)
      have := x.2
      unfold wdG at this
      rw [q2] at this
      cases this
  · have q1 : leI s.size a = true := by simpa using q1
    rw [leI_t] at q1
    exact c2 (fun x => by omega)
namespace Sy
structure KB2 where
  q : Int
  f : Int
  b : Int
  z : Nat
noncomputable def kbGet2 (F : Fr) (M : Mem) : Option KB2 := match nth F 3 with
  | some (some (.lit (.int _ q))) => match nth F 4 with
    | some (some (.lit (.int _ f))) => match M with
      | ⟨_, z, [some ⟨[_, .lit (.int _ b), _], _, _⟩]⟩ => some ⟨q, f, b, z⟩
      | _ => none
    | _ => none
  | _ => none
noncomputable abbrev lpWds (s : ByteArray) (u : Value) : Lp Try.prog where
  f := 42
  key := 5
  S := formS (fun F M => kbGet2 F M) (fun x => wdsF x.q x.f) (fun x => mrMz s x.b u x.z) (fun x => InM s x.b) (fun x => .leaf (.exit 0, wdsF x.q x.f, mrM s (scI wdG s x.b) u)) (true :: false :: false :: true :: true :: (ff22 (ff48 [])))
  one := by kernel_rfl
  ok := formS_ok fun x h1 => by
    refine ⟨_, LoopTo.stampB 0 ((Sy.wds_scan s x.b x.q x.f h1 u).mono fun ex F M hg => ?_)⟩
    obtain ⟨rfl, rfl, rfl⟩ := hg
    rfl
end Sy
theorem Sy.rom_t (s : ByteArray) (a n : Int) (u : Value) : CallP Try.prog 57 [.ptr 0 0, int n] (mrM s a u) fun r => match r with
    | .ret v M' => leI 8 n = false ∧ Frz true 1 M' v (.tup []) ∧ M'.get 0 = some (mrB s a (.lit u))
    | .pan k e => leI 8 n = true ∧ k = a ∧ e = 30 :=
  toP [] [pFail] [] [] 400 30 (.br (.auto 0 .done) .done) (.fork (leI (8 : Int) n) (.leaf (@RP.pan a (Int.ofNat 30))) (.leaf (@RP.ret (@AV.tup []) (@Mem.mk 1 0 [(some (@Blk.mk [(@AV.lit (@Value.string s)), (int a), (@AV.lit u)] 52 none))])))) (by kernel_rfl) (fork_ok (fun q => ⟨q, rfl, rfl⟩) (fun q => ⟨q, Frz.free _ _ trivial, rfl⟩))
noncomputable abbrev Sy.cRom (s : ByteArray) : Con Try.prog := conMr s 57 (fun r => match r with | [.lit (.int .i64 n)] => some n | _ => none) (fun n => [int n]) (fun _ _ => .tup []) (fun _ n => leI 8 n = false) fun a n h => ⟨⟨⟨trivial, trivial⟩, trivial⟩, fun u => ((rom_t s a n u).to fun k e hg => by rw [h] at hg; cases hg.1).mono fun v M' hg => hg.2⟩
noncomputable abbrev Sy.pRom (s : ByteArray) : PCon Try.prog := panM s 57 (.tup []) (fun r => match r with | [.lit (.int .i64 n)] => some n | _ => none) (fun n => [int n]) (fun _ n => leI 8 n) (fun a _ => a) (fun _ _ => 30) (fun _ _ => True) fun a n _ hb => ⟨⟨trivial, trivial⟩, fun u => (rom_t s a n u).pan (fun v M' hg => by rw [hb] at hg; cases hg.1) fun k e hg => hg.2⟩
def fulE (n k : Int) : Int := if leI 1024 n = true then 32 else if leI 64 k = true then 31 else 0
theorem Sy.ful_t (s : ByteArray) (a n k : Int) (u : Value) : CallP Try.prog 36 [.ptr 0 0, int n, int k] (mrM s a u) fun r => match r with
    | .ret v M' => eqI (fulE n k) 0 = true ∧ Frz true 1 M' v (.tup []) ∧ M'.get 0 = some (mrB s a (.lit u))
    | .pan kk e => eqI (fulE n k) 0 = false ∧ kk = a ∧ e = fulE n k :=
  toP [] [pFail] [] [] 400 30 (.br (.auto 0 .done) (.br (.auto 0 .done) .done)) (.fork (leI (1024 : Int) n) (.leaf (@RP.pan a (Int.ofNat 32))) (.fork (leI (64 : Int) k) (.leaf (@RP.pan a (Int.ofNat 31))) (.leaf (@RP.ret (@AV.tup []) (@Mem.mk 1 0 [(some (@Blk.mk [(@AV.lit (@Value.string s)), (int a), (@AV.lit u)] 52 none))]))))) (by kernel_rfl) (by
    unfold fulE
    refine fork_ok (fun q => ?_) (fun q => fork_ok (fun q2 => ?_) (fun q2 => ?_))
    · rw [if_pos q]; exact ⟨rfl, rfl, rfl⟩
    · rw [if_neg (by rw [q]; decide), if_pos q2]; exact ⟨rfl, rfl, rfl⟩
    · rw [if_neg (by rw [q]; decide), if_neg (by rw [q2]; decide)]; exact ⟨rfl, Frz.free _ _ trivial, rfl⟩)
namespace Sy
structure I2 where
  n : Int
  k : Int
end Sy
noncomputable abbrev Sy.cFul (s : ByteArray) : Con Try.prog := conMr s 36 (fun r => match r with | [.lit (.int .i64 n), .lit (.int .i64 k)] => some (I2.mk n k) | _ => none) (fun x => [int x.n, int x.k]) (fun _ _ => .tup []) (fun _ x => eqI (fulE x.n x.k) 0 = true) fun a x h => ⟨⟨⟨trivial, trivial, trivial⟩, trivial⟩, fun u => ((ful_t s a x.n x.k u).to fun k e hg => by rw [h] at hg; cases hg.1).mono fun v M' hg => hg.2⟩
noncomputable abbrev Sy.pFul (s : ByteArray) : PCon Try.prog := panM s 36 (.tup []) (fun r => match r with | [.lit (.int .i64 n), .lit (.int .i64 k)] => some (I2.mk n k) | _ => none) (fun x => [int x.n, int x.k]) (fun _ x => !eqI (fulE x.n x.k) 0) (fun a _ => a) (fun _ x => fulE x.n x.k) (fun _ _ => True) fun a x _ hb => ⟨⟨trivial, trivial, trivial⟩, fun u => (ful_t s a x.n x.k u).pan (fun v M' hg => by rw [hg.1] at hb; cases hb) fun k e hg => hg.2⟩
theorem Sy.put_t (a e : Int) : CallP Try.prog 37 [int a, int e] M0 fun r => match r with
    | .ret v M' => eqI e 0 = true ∧ v = .tup [] ∧ M' = M0
    | .pan k e' => eqI e 0 = false ∧ k = a ∧ e' = e :=
  toP [] [pFail] [] [] 400 30 (.br (.auto 0 .done) .done) (.fork (!(eqI e (0 : Int))) (.leaf (@RP.pan a e)) (.leaf (@RP.ret (@AV.tup []) (@Mem.mk 0 0 [])))) (by kernel_rfl) (fork_ok (fun q => ⟨by simpa using q, rfl, rfl⟩) (fun q => ⟨by simpa using q, rfl, rfl⟩))
noncomputable abbrev Sy.cPut11 : Con Try.prog := atX 37 (fun args => match args with | [.lit (.int .i64 a), .lit (.int .i64 e)] => some (I2.mk a e) | _ => none) (fun x => [int x.n, int x.k]) (fun _ => .tup []) (fun x => eqI x.k 0 = true) fun x h => ⟨⟨⟨trivial, trivial, trivial⟩, trivial⟩, ((put_t x.n x.k).to fun k e hg => by rw [h] at hg; cases hg.1).mono fun v M' hg => hg.2.1⟩
end Go.Proofs.Ytglkdhmikpejnaa
namespace Go.Proofs.Ytglkdhmikpejnaa
open Go Go.RowKit Pl Sy
theorem wdE_in {s : ByteArray} {a : Int} (h : InM s a) (hn : nxB s a 34 = false) : InM s (wdE s a) ∧ a + 1 ≤ wdE s a := by
  obtain ⟨h1, h2⟩ := nd_in h hn
  have h3 := scI_le wdG s (a + 1) h1.1.1 h1.1.2
  exact ⟨scI_in h1, by unfold wdE; omega⟩
theorem wdX_in {s : ByteArray} {a : Int} (h : InM s a) (hb : wdBad s a = false) : InM s (wdE s a + 1) ∧ a + 2 ≤ wdE s a + 1 := by
  unfold wdBad at hb
  rw [Bool.or_eq_false_iff, Bool.or_eq_false_iff] at hb
  obtain ⟨h1, h2⟩ := wdE_in h hb.1
  exact ⟨(nd_in h1 hb.2.1).1, by omega⟩
def WdsR (s : ByteArray) (a : Int) (u : Value) (r : RP) : Prop := match r with
  | .ret v M' => wdBad s a = false ∧ Frz true 1 M' v (.lit (.string (wdX s a))) ∧ M'.get 0 = some (mrB s (wdE s a + 1) (.lit u))
  | .pan k e => wdBad s a = true ∧ k = wdK s a ∧ e = 30
theorem Sy.wds_t (s : ByteArray) (a : Int) (h : InM s a) (u : Value) : CallP Try.prog 42 [.ptr 0 0] (mrM s a u) (WdsR s a u) :=
  toP [cNed s] [pFail, pNed s] [] [lpWds s u] 400 30 (.yes (.br .done (.yes (.yes (.yes (.br .done (.yes (.br (.auto 0 .done) .done)))))))) (let e1 := (@AV.lit (@Value.string s)); let e2 := (some (@Blk.mk [e1, (int a), (@AV.lit u)] 52 none)); let e3 := (@AV.lit (@Value.int IntKind.u8 (34 : Int))); let e4 := ([e3] = [e3]); let e5 := (((@ByteArray.size s) : Nat) : Int); let e6 := ((@ByteArray.size s) ≤ 1000000); let e7 := (@And (@And ((0 : Int) ≤ a) (a ≤ e5)) e6); let e8 := (a + (1 : Int)); let e9 := (@Mem.mk 1 (0 + 1) [(some (@Blk.mk [e1, (int e8), (@AV.lit u)] 52 none))]); let e10 := (@scI wdG s e8); let e11 := (some (@Blk.mk [e1, (int e10), (@AV.lit u)] 52 none)); let e12 := (@And (@And ((0 : Int) ≤ e10) (e10 ≤ e5)) e6); let e13 := (@ByteArray.extract s (e8).toNat (e10).toNat); (.need (@isSo (@And (e2 = e2) (@And e4 e7))) (.fork (@nxB s a (34 : Int)) (.leaf (@RP.pan a (Int.ofNat 30))) (.need (@isSo (@And (e2 = e2) (@And e4 (@And e7 ((@nxB s a (34 : Int)) = false))))) (.need (@isSo (@And (((some (@AV.ptr 0 0)) :: none :: none :: (some (int a)) :: (some (int e8)) :: (nn22 (nn48 []))) = ((some (@AV.ptr 0 0)) :: none :: none :: (some (int a)) :: (some (int e8)) :: (nn22 (nn48 [])))) (e9 = e9))) (.need (@isSo (@And (@And ((0 : Int) ≤ e8) (e8 ≤ e5)) e6)) (.need ((leI (0 : Int) e8) && ((leI e8 e10) && (leI e10 e5))) (.need (@isSo (@And (e11 = e11) (@And e4 e12))) (.fork (@nxB s e10 (34 : Int)) (.leaf (@RP.pan e10 (Int.ofNat 30))) (.need (@isSo (@And (e11 = e11) (@And e4 (@And e12 ((@nxB s e10 (34 : Int)) = false))))) (.fork (!(leI (((@ByteArray.size e13) : Nat) : Int) (256 : Int))) (.leaf (@RP.pan a (Int.ofNat 30))) (.leaf (@RP.ret (@AV.lit (@Value.string e13)) (@Mem.mk 1 (0 + 1) [(some (@Blk.mk [e1, (int (e10 + (1 : Int))), (@AV.lit u)] 52 none))])))))))))))))) (by kernel_rfl) (by
    have h0 := h.1
    have hl := h.2
    unfold limM at hl
    conv => zeta
    refine need_so ⟨rfl, rfl, h⟩ (fork_ok (fun q => ?_) (fun q => ?_))
    · exact ⟨by unfold wdBad; rw [q]; rfl, by unfold wdK; rw [if_pos q], rfl⟩
    · obtain ⟨hz, hlt⟩ := nd_in h q
      obtain ⟨hE, hE2⟩ := wdE_in h q
      have hE1 := hE.1
      rw [show scI wdG s (a + 1) = wdE s a from rfl]
      have sz : (((s.extract (a + 1).toNat (wdE s a).toNat).size : Nat) : Int) = wdE s a - (a + 1) := by
        rw [ByteArray.size_extract]
        omega
      rw [sz]
      refine need_so ⟨rfl, rfl, h, q⟩ (need_so ⟨rfl, rfl⟩ (need_so hz (need_t (by rw [Bool.and_eq_true, Bool.and_eq_true, leI_t, leI_t, leI_t]; omega) (need_so ⟨rfl, rfl, hE⟩ (fork_ok (fun q2 => ?_) (fun q2 => need_so ⟨rfl, rfl, hE, q2⟩ (fork_ok (fun q3 => ?_) (fun q3 => ?_))))))))
      · exact ⟨by unfold wdBad; rw [q2]; simp, by unfold wdK; rw [if_neg (by rw [q]; decide), if_pos q2], rfl⟩
      · have q3 : leI (wdE s a - (a + 1)) 256 = false := by simpa using q3
        exact ⟨by unfold wdBad; rw [q3]; simp, by unfold wdK; rw [if_neg (by rw [q]; decide), if_neg (by rw [q2]; decide)], rfl⟩
      · have q3 : leI (wdE s a - (a + 1)) 256 = true := by simpa using q3
        exact ⟨by unfold wdBad; rw [q, q2, q3]; rfl, Frz.lit _ _ _ _, rfl⟩)
noncomputable abbrev Sy.cWds (s : ByteArray) : Con Try.prog := conM s 42 (fun r => match r with | [] => some () | _ => none) (fun _ => []) (fun a _ => .lit (.string (wdX s a))) (fun a _ => wdE s a + 1) (fun a _ => InM s a ∧ wdBad s a = false) fun a _ h => ⟨⟨trivial, trivial⟩, fun u => ((wds_t s a h.1 u).to fun k e hg => by have := hg.1; rw [h.2] at this; cases this).mono fun v M' hg => hg.2⟩
noncomputable abbrev Sy.pWds (s : ByteArray) : PCon Try.prog := panM s 42 (.lit (.string ⟨⟨[]⟩⟩)) (fun r => match r with | [] => some () | _ => none) (fun _ => []) (fun a _ => wdBad s a) (fun a _ => wdK s a) (fun _ _ => 30) (fun a _ => InM s a) fun a _ h hb => ⟨trivial, fun u => (wds_t s a h u).pan (fun v M' hg => by have := hg.1; rw [hb] at this; cases this) fun k e hg => hg.2⟩
noncomputable def atE (s : ByteArray) (a : Int) : Int := nmE s (a + 1)
noncomputable def atW (s : ByteArray) (a : Int) : Int := wdE s (atE s a + 1) + 1
noncomputable def atBad (s : ByteArray) (a : Int) : Bool := nxB s a 91 || (nmBad s (a + 1) || (nxB s (atE s a) 61 || (wdBad s (atE s a + 1) || nxB s (atW s a) 93)))
noncomputable def atK (s : ByteArray) (a : Int) : Int := if nxB s a 91 = true then a else if nmBad s (a + 1) = true then nmK s (a + 1) else if nxB s (atE s a) 61 = true then atE s a else if wdBad s (atE s a + 1) = true then wdK s (atE s a + 1) else atW s a
noncomputable def atA (s : ByteArray) (a : Int) : AV := .agg [.lit (.string (nmX s (a + 1))), .lit (.string (wdX s (atE s a + 1)))]
def AtrR (s : ByteArray) (a : Int) (u : Value) (r : RP) : Prop := match r with
  | .ret v M' => atBad s a = false ∧ Frz true 1 M' v (atA s a) ∧ M'.get 0 = some (mrB s (atW s a + 1) (.lit u))
  | .pan k e => atBad s a = true ∧ k = atK s a ∧ e = 30
theorem at_in {s : ByteArray} {a : Int} (h : InM s a) (hb : atBad s a = false) : InM s (atW s a + 1) ∧ a + 1 ≤ atW s a + 1 := by
  unfold atBad at hb
  simp only [Bool.or_eq_false_iff] at hb
  obtain ⟨q1, q2, q3, q4, q5⟩ := hb
  have h1 := (nd_in h q1).1
  have h2 := nmE_in h1
  have h3 := (nd_in h2.1 q3).1
  have h4 := wdX_in h3 q4
  have h5 := nd_in h4.1 q5
  have h6 := h2.2
  have h7 := h4.2
  unfold atW atE at *
  exact ⟨h5.1, by omega⟩
theorem Sy.atr_t (s : ByteArray) (a : Int) (h : InM s a) (u : Value) : CallP Try.prog 58 [.ptr 0 0] (mrM s a u) (AtrR s a u) :=
  toP [cNed s, cNam s, cWds s] [pFail, pNed s, pNam s, pWds s] [] [] 400 30 (.yes (.br .done (.yes (.yes (.br .done (.yes (.yes (.br .done (.yes (.yes (.br .done (.yes (.yes (.br .done (.yes .done))))))))))))))) (let e1 := (@AV.lit (@Value.string s)); let e2 := (@AV.lit u); let e3 := (some (@Blk.mk [e1, (int a), e2] 52 none)); let e4 := (@AV.lit (@Value.int IntKind.u8 (91 : Int))); let e5 := (((@ByteArray.size s) : Nat) : Int); let e6 := ((@ByteArray.size s) ≤ 1000000); let e7 := (@And (@And ((0 : Int) ≤ a) (a ≤ e5)) e6); let e8 := (Int.ofNat 30); let e9 := (a + (1 : Int)); let e10 := (some (@Blk.mk [e1, (int e9), e2] 52 none)); let e11 := (([] : List AV) = []); let e12 := (@And (@And ((0 : Int) ≤ e9) (e9 ≤ e5)) e6); let e13 := (@nmE s e9); let e14 := (some (@Blk.mk [e1, (int e13), e2] 52 none)); let e15 := (@AV.lit (@Value.int IntKind.u8 (61 : Int))); let e16 := (@And (@And ((0 : Int) ≤ e13) (e13 ≤ e5)) e6); let e17 := (e13 + (1 : Int)); let e18 := (some (@Blk.mk [e1, (int e17), e2] 52 none)); let e19 := (@And (@And ((0 : Int) ≤ e17) (e17 ≤ e5)) e6); let e20 := ((@wdE s e17) + (1 : Int)); let e21 := (some (@Blk.mk [e1, (int e20), e2] 52 none)); let e22 := (@AV.lit (@Value.int IntKind.u8 (93 : Int))); let e23 := (@And (@And ((0 : Int) ≤ e20) (e20 ≤ e5)) e6); let e24 := (@AV.lit (@Value.string (@nmX s e9))); let e25 := (@AV.lit (@Value.string (@wdX s e17))); let e26 := (@AV.lit (@Value.string (@ByteArray.mk (@Array.mk _ [])))); let e27 := (e24 :: (e25 :: (@List.drop _ (0 + ((e24 :: [e25])).length) [e26, e26]))); (.need (@isSo (@And (e3 = e3) (@And ([e4] = [e4]) e7))) (.fork (@nxB s a (91 : Int)) (.leaf (@RP.pan a e8)) (.need (@isSo (@And (e3 = e3) (@And ([e4] = [e4]) (@And e7 ((@nxB s a (91 : Int)) = false))))) (.need (@isSo (@And (e10 = e10) (@And e11 e12))) (.fork (@nmBad s e9) (.leaf (@RP.pan (@nmK s e9) e8)) (.need (@isSo (@And (e10 = e10) (@And e11 (@And e12 ((@nmBad s e9) = false))))) (.need (@isSo (@And (e14 = e14) (@And ([e15] = [e15]) e16))) (.fork (@nxB s e13 (61 : Int)) (.leaf (@RP.pan e13 e8)) (.need (@isSo (@And (e14 = e14) (@And ([e15] = [e15]) (@And e16 ((@nxB s e13 (61 : Int)) = false))))) (.need (@isSo (@And (e18 = e18) (@And e11 e19))) (.fork (@wdBad s e17) (.leaf (@RP.pan (@wdK s e17) e8)) (.need (@isSo (@And (e18 = e18) (@And e11 (@And e19 ((@wdBad s e17) = false))))) (.need (@isSo (@And (e21 = e21) (@And ([e22] = [e22]) e23))) (.fork (@nxB s e20 (93 : Int)) (.leaf (@RP.pan e20 e8)) (.need (@isSo (@And (e21 = e21) (@And ([e22] = [e22]) (@And e23 ((@nxB s e20 (93 : Int)) = false))))) (.leaf (@RP.ret (@AV.agg (@List.take _ 2 e27)) (@Mem.mk ((1 + 1) + 1) (((((((0 + 1) + 1) + 1) + 1) + 1) + 1) + 1) ((some (@Blk.mk (e24 :: (e25 :: [])) 67 none)) :: [(some (@Blk.mk e27 67 none)), (some (@Blk.mk [e1, (int (e20 + (1 : Int))), e2] 52 none))])))))))))))))))))))) (by kernel_rfl) (by
    conv => zeta
    rw [show nmE s (a + 1) = atE s a from rfl, show wdE s (atE s a + 1) + 1 = atW s a from rfl]
    refine need_so ⟨rfl, rfl, h⟩ (fork_ok (fun q => ?_) (fun q => ?_))
    · exact ⟨by unfold atBad; rw [q]; rfl, by unfold atK; rw [if_pos q], rfl⟩
    obtain ⟨hz, _⟩ := nd_in h q
    refine need_so ⟨rfl, rfl, h, q⟩ (need_so ⟨rfl, rfl, hz⟩ (fork_ok (fun q2 => ?_) (fun q2 => ?_)))
    · exact ⟨by unfold atBad; rw [q2]; simp, by unfold atK; rw [if_neg (by rw [q]; decide), if_pos q2], rfl⟩
    have hE : InM s (atE s a) := (nmE_in hz).1
    refine need_so ⟨rfl, rfl, hz, q2⟩ (need_so ⟨rfl, rfl, hE⟩ (fork_ok (fun q3 => ?_) (fun q3 => ?_)))
    · exact ⟨by unfold atBad; rw [q3]; simp, by unfold atK; rw [if_neg (by rw [q]; decide), if_neg (by rw [q2]; decide), if_pos q3], rfl⟩
    have hE1 := (nd_in hE q3).1
    refine need_so ⟨rfl, rfl, hE, q3⟩ (need_so ⟨rfl, rfl, hE1⟩ (fork_ok (fun q4 => ?_) (fun q4 => ?_)))
    · exact ⟨by unfold atBad; rw [q4]; simp, by unfold atK; rw [if_neg (by rw [q]; decide), if_neg (by rw [q2]; decide), if_neg (by rw [q3]; decide), if_pos q4], rfl⟩
    have hW : InM s (atW s a) := (wdX_in hE1 q4).1
    refine need_so ⟨rfl, rfl, hE1, q4⟩ (need_so ⟨rfl, rfl, hW⟩ (fork_ok (fun q5 => ?_) (fun q5 => need_so ⟨rfl, rfl, hW, q5⟩ ?_)))
    · exact ⟨by unfold atBad; rw [q5]; simp, by unfold atK; rw [if_neg (by rw [q]; decide), if_neg (by rw [q2]; decide), if_neg (by rw [q3]; decide), if_neg (by rw [q4]; decide)], rfl⟩
    · exact ⟨by unfold atBad; rw [q, q2, q3, q4, q5]; rfl, Frz.free _ _ ⟨trivial, trivial, trivial⟩, rfl⟩)
noncomputable abbrev Sy.cAtr (s : ByteArray) : Con Try.prog := conM s 58 (fun r => match r with | [] => some () | _ => none) (fun _ => []) (fun a _ => atA s a) (fun a _ => atW s a + 1) (fun a _ => InM s a ∧ atBad s a = false) fun a _ h => ⟨⟨trivial, trivial, trivial, trivial⟩, fun u => ((atr_t s a h.1 u).to fun k e hg => by have := hg.1; rw [h.2] at this; cases this).mono fun v M' hg => hg.2⟩
noncomputable abbrev Sy.pAtr (s : ByteArray) : PCon Try.prog := panM s 58 (.agg [.lit (.string ⟨⟨[]⟩⟩), .lit (.string ⟨⟨[]⟩⟩)]) (fun r => match r with | [] => some () | _ => none) (fun _ => []) (fun a _ => atBad s a) (fun a _ => atK s a) (fun _ _ => 30) (fun a _ => InM s a) fun a _ h hb => ⟨trivial, fun u => (atr_t s a h u).pan (fun v M' hg => by have := hg.1; rw [hb] at this; cases this) fun k e hg => hg.2⟩
end Go.Proofs.Ytglkdhmikpejnaa
namespace Go.Proofs.Ytglkdhmikpejnaa
open Go Go.RowKit Pl Sy
namespace Sy
abbrev hdZ : Blk := ⟨[int 0, .lit (.string ⟨⟨[]⟩⟩), .lit (.string ⟨⟨[]⟩⟩), .lit (.slice none 0 0), .lit (.slice none 0 0), .lit (.string ⟨⟨[]⟩⟩)], 40, none⟩
abbrev hdF0 : Fr := (some (.ptr 0 0) :: none :: some (.ptr 1 0) :: (nn14 (nn48 [])))
abbrev hdM0 (s : ByteArray) (a : Int) (u : Value) : Mem := ⟨2, 0, [some hdZ, some (mrB s a (.lit u))]⟩
abbrev hdF : Fr := (some (.ptr 0 0) :: none :: some (.ptr 1 0) :: some (.ptr 2 0) :: (nn13 (nn48 [])))
def hcell (cs : List ByteArray) (i _j : Nat) : AV := .lit (.string (cs.getD i ⟨#[]⟩))
def acell (ats : List AttrV) (i j : Nat) : AV := match j with
  | 0 => .lit (.string (ats.getD i attrNone).name)
  | _ => .lit (.string (ats.getD i attrNone).value)
abbrev hdB (t i : ByteArray) (x n y m : Nat) : Blk := ⟨[int 0, .lit (.string t), .lit (.string i), .own x n 1, .own y m 2, .lit (.string ⟨⟨[]⟩⟩)], 40, none⟩
abbrev hdM (s : ByteArray) (a : Int) (u : Value) (t i : ByteArray) (cs : List ByteArray) (ats : List AttrV) : Mem := ⟨5, 0, [some ⟨[], 67, some ⟨ats.length, 2, acell ats⟩⟩, some ⟨[], 9, some ⟨cs.length, 1, hcell cs⟩⟩, some (hdB t i 3 cs.length 4 ats.length), some hdZ, some (mrB s a (.lit u))]⟩
end Sy
end Go.Proofs.Ytglkdhmikpejnaa
namespace Go.Proofs.Ytglkdhmikpejnaa
open Go Go.RowKit Pl Sy
namespace Sy
theorem JumpT.nilc {T : Nat} {P : Program} {c : Code} {n : Nat} {y : Code} {F : Fr} {M : Mem} {G : ExP → Fr → Mem → Prop} (b i : Nat) (B : Blk) (e : TypeId) (s : Nat) (cell : Nat → Nat → AV) (hT : T ≤ M.top) (hb : M.get b = some B) (hi : B.cells[i]? = some (.lit (.slice none 0 0))) (h : JumpT T P c n y F ((M.push ⟨[], e, some ⟨0, s, cell⟩⟩).put b (some ⟨B.cells.set i (.own M.top 0 s), B.elem, B.rows⟩)) G) : JumpT T P c n y F M G := fun w0 ρ a w Q hF hW hQ => by
  obtain ⟨h1, h2, h3⟩ := hW.virt e s cell
  have hlt := Mem.get_lt hb
  have hlt' : b < (M.push ⟨[], e, some ⟨0, s, cell⟩⟩).top := by show b < M.top + 1; omega
  have h4 : WR w0 (nilled ρ M.top) ((M.push ⟨[], e, some ⟨0, s, cell⟩⟩).put b (some ⟨B.cells.set i (.own M.top 0 s), B.elem, B.rows⟩)) w := by
    refine WR.swap h3 (Nat.le_refl _) fun b' B' hb' => ?_
    rcases Mem.get_put hlt' hb' with ⟨rfl, hB⟩ | ⟨hne, hB⟩
    · simp at hB; subst hB
      refine ⟨B, by rw [Mem.get_push_old _ _ hlt]; exact hb, rfl, fun cur hH => ⟨fun k v hv => ?_, hH.2⟩, .inr (by intro h0; rw [h0] at hi; simp at hi)⟩
      simp only [List.getElem?_set] at hv
      by_cases hk : i = k
      · subst hk
        simp only [if_true] at hv
        split at hv
        · simp at hv; subst hv
          obtain ⟨u, q1, q2⟩ := hH.1 i _ hi
          refine ⟨u, q1, ?_⟩
          simp only [rel] at q2 ⊢
          exact .inl ⟨h2, trivial, q2⟩
        · cases hv
      · rw [if_neg hk] at hv
        exact hH.1 k v hv
    · exact ⟨B', hB, rfl, fun cur hH => hH, .inl rfl⟩
  refine h w0 _ a w Q ⟨hF.len, fun t v hv => (hF.val t v hv).ext h1, hF.defers⟩ h4 fun ex F' M' ρ' a' w' hg q1 q2 => hQ ex F' M' ρ' a' w' hg ?_ q2
  exact ⟨fun b g hb => q1.blk b g (by
      simp only [Sy.cutR] at hb ⊢
      split at hb
      · rename_i hlt; rw [if_pos hlt]; exact h1.blk b g hb
      · cases hb), fun b hb => q1.nil b (by
      simp only [Sy.cutR] at hb ⊢
      split at hb
      · rename_i hlt; rw [if_pos hlt]; exact h1.nil b hb
      · cases hb), fun g o v hv => q1.still g o v (h1.still g o v hv), q1.base.trans h1.base, q1.mine.trans h1.mine⟩
def selP (t : Tr (ExP × Fr × Mem)) (ex : ExP) (F : Fr) (M : Mem) : Prop := match ex with
  | .pan k e => ∃ F' M', t.sel (.pan k e, F', M')
  | _ => t.sel (ex, F, M)
noncomputable def formP {X : Type} (get : Fr → Mem → Option X) (form : X → Fr) (M0 : X → Mem) (C : X → Prop) (res : X → Tr (ExP × Fr × Mem)) (p : List Bool) : SummP := fun F M => match get F M with
  | some x => .need (isSo (maskF p F = form x ∧ M = M0 x)) (.need (isSo (C x)) (res x))
  | none => .bad 28
theorem ScopeTo.mask {P : Program} {c : Code} {F : Fr} {M : Mem} {G : ExP → Fr → Mem → Prop} (p : List Bool) (h : ScopeTo P c (maskF p F) M G) : ScopeTo P c F M G := fun w0 ρ a w Q hF hW hQ => h w0 ρ a w Q (hF.mask p) hW hQ
theorem formP_ok {P : Program} {b : Code} {X : Type} {get : Fr → Mem → Option X} {form : X → Fr} {M0 : X → Mem} {C : X → Prop} {res : X → Tr (ExP × Fr × Mem)} {p : List Bool} (h : ∀ x, C x → ScopeTo P b (form x) (M0 x) (selP (res x))) : ∀ F M (H : ExP × Fr × Mem → Prop), (formP get form M0 C res p F M).Ok H → ScopeTo P b F M fun ex F' M' => H (ex, F', M') := fun F M H hok => by
  unfold formP at hok
  split at hok
  · rename_i x _
    have h1 := hok.1
    have h2 := hok.2.1
    rw [isSo_t] at h1 h2
    rw [h1.2]
    refine ScopeTo.mask p ?_
    rw [h1.1]
    intro w0 ρ a w Q hF hW hQ
    refine h x h2 w0 ρ a w Q hF hW fun ex F' M' ρ' a' w' hg q1 q2 => ?_
    cases ex with
    | pan k e =>
      obtain ⟨F2, M2, hg⟩ := hg
      exact hQ (.pan k e) F2 M2 ρ' a' w' (Tr.Ok.of_sel hok.2.2 hg) q1 q2
    | norm => exact hQ .norm F' M' ρ' a' w' (Tr.Ok.of_sel hok.2.2 hg) q1 q2
    | exit id => exact hQ (.exit id) F' M' ρ' a' w' (Tr.Ok.of_sel hok.2.2 hg) q1 q2
    | ret => exact hQ .ret F' M' ρ' a' w' (Tr.Ok.of_sel hok.2.2 hg) q1 q2
    | goto l => exact hQ (.goto l) F' M' ρ' a' w' (Tr.Ok.of_sel hok.2.2 hg) q1 q2
  · exact hok.elim
end Sy
structure HdR where
  bad : Bool
  pl : Int
  id : ByteArray
  cls : List ByteArray
  ats : List AttrV
noncomputable def atR (s : ByteArray) (a : Int) : AttrV := ⟨nmX s (a + 1), wdX s (atE s a + 1)⟩
def someB (i : ByteArray) : Bool := !bytesEq i.data.toList (ByteArray.mk (Array.mk [])).data.toList
noncomputable def hdR (s : ByteArray) : Nat → Int → ByteArray → List ByteArray → List AttrV → HdR
  | 0, a, i, cs, ats => ⟨false, a, i, cs, ats⟩
  | n + 1, a, i, cs, ats => match eqI (pkI s a) 35 with
    | true => (match someB i with
      | true => ⟨true, a, i, cs, ats⟩
      | false => match nmBad s (a + 1) with
        | true => ⟨true, nmK s (a + 1), i, cs, ats⟩
        | false => hdR s n (nmE s (a + 1)) (nmX s (a + 1)) cs ats)
    | false => match eqI (pkI s a) 46 with
      | true => (match leI 8 cs.length with
        | true => ⟨true, a, i, cs, ats⟩
        | false => match nmBad s (a + 1) with
          | true => ⟨true, nmK s (a + 1), i, cs, ats⟩
          | false => hdR s n (nmE s (a + 1)) i (cs ++ [nmX s (a + 1)]) ats)
      | false => match eqI (pkI s a) 91 with
        | true => (match leI 8 ats.length with
          | true => ⟨true, a, i, cs, ats⟩
          | false => match atBad s a with
            | true => ⟨true, atK s a, i, cs, ats⟩
            | false => hdR s n (atW s a + 1) i cs (ats ++ [atR s a]))
        | false => ⟨false, a, i, cs, ats⟩
namespace Sy
def CRows (n : Nat) (c : Nat → Nat → AV) (cs : List ByteArray) : Prop := n = cs.length ∧ ∀ (σ : Nat → Option Nat) i j, i < n → j < 1 → RenV σ (c i j) (hcell cs i j)
def ARows (n : Nat) (c : Nat → Nat → AV) (ats : List AttrV) : Prop := n = ats.length ∧ ∀ (σ : Nat → Option Nat) i j, i < n → j < 2 → RenV σ (c i j) (acell ats i j)
theorem hcell_free (cs : List ByteArray) (i j : Nat) : Free (hcell cs i j) := trivial
theorem acell_free (ats : List AttrV) (i j : Nat) : Free (acell ats i j) := by
  unfold acell
  split <;> trivial
theorem CRows.base (cs : List ByteArray) : CRows cs.length (hcell cs) cs := ⟨rfl, fun σ i j _ _ => RenV.free σ (hcell_free _ _ _)⟩
theorem ARows.base (ats : List AttrV) : ARows ats.length (acell ats) ats := ⟨rfl, fun σ i j _ _ => RenV.free σ (acell_free _ _ _)⟩
theorem CRows.app1 {n : Nat} {c c' : Nat → Nat → AV} {cs : List ByteArray} (x : ByteArray) (h : CRows n c cs) (hx : ∀ (σ : Nat → Option Nat), RenV σ (c' 0 0) (.lit (.string x))) : CRows (n + 1) (appc n c c') (cs ++ [x]) := ⟨by rw [h.1]; simp, fun σ i j hi hj => by
  have hl := h.1
  obtain rfl : j = 0 := by omega
  by_cases hlt : i < n
  · rw [appc_lt hlt]
    have h3 := h.2 σ i 0 hlt hj
    unfold hcell at h3 ⊢
    simp only [List.getD_eq_getElem?_getD] at h3 ⊢
    rw [List.getElem?_append_left (by omega)]
    exact h3
  · have e : i = n := by omega
    subst e
    rw [appc_ge (Nat.le_refl _), Nat.sub_self]
    have h3 := hx σ
    unfold hcell
    simp only [List.getD_eq_getElem?_getD]
    rw [List.getElem?_append_right (by omega), hl, Nat.sub_self]
    exact h3⟩
theorem ARows.app1 {n : Nat} {c c' : Nat → Nat → AV} {ats : List AttrV} (x : AttrV) (h : ARows n c ats) (hx : ∀ (σ : Nat → Option Nat) j, j < 2 → RenV σ (c' 0 j) (acell [x] 0 j)) : ARows (n + 1) (appc n c c') (ats ++ [x]) := ⟨by rw [h.1]; simp, fun σ i j hi hj => by
  have hl := h.1
  by_cases hlt : i < n
  · rw [appc_lt hlt]
    have h3 := h.2 σ i j hlt hj
    have : (ats ++ [x]).getD i attrNone = ats.getD i attrNone := by
      simp only [List.getD_eq_getElem?_getD]
      rw [List.getElem?_append_left (by omega)]
    unfold acell at h3 ⊢
    rw [this]
    exact h3
  · have e : i = n := by omega
    subst e
    rw [appc_ge (Nat.le_refl _), Nat.sub_self]
    have h3 := hx σ j hj
    have : (ats ++ [x]).getD i attrNone = [x].getD 0 attrNone := by
      simp only [List.getD_eq_getElem?_getD]
      rw [List.getElem?_append_right (by omega), hl, Nat.sub_self]
    unfold acell at h3 ⊢
    rw [this]
    exact h3⟩
theorem hdF_ren {x y : Nat} : RenF (nm [0, 1, 2, x, y]) hdF hdF := by
  simp only [RenF, and_true]
  exact ⟨⟨rfl, rfl⟩, ⟨rfl, rfl⟩, rfl, rfl⟩
theorem hd_ren {M : Mem} {s : ByteArray} {a : Int} {u : Value} {t i : ByteArray} {cs : List ByteArray} {ats : List AttrV} {x y n m : Nat} {ca cb : Nat → Nat → AV} (hd : [0, 1, 2, x, y].Nodup) (h0 : M.get 0 = some (mrB s a (.lit u))) (h1 : M.get 1 = some hdZ) (h2 : M.get 2 = some (hdB t i x n y m))
    (h3 : M.get x = some ⟨[], 9, some ⟨n, 1, ca⟩⟩) (h4 : M.get y = some ⟨[], 67, some ⟨m, 2, cb⟩⟩) (r1 : CRows n ca cs) (r2 : ARows m cb ats) : RenM (nm [0, 1, 2, x, y]) M (hdM s a u t i cs ats) := by
  refine .of rfl rfl hd ⟨⟨y, _, rfl, h4, rfl, trivial, r2.1.symm, rfl, fun i j hi hj => r2.2 _ i j (by have := r2.1; simp only at hi; omega) hj⟩, ⟨x, _, rfl, h3, rfl, trivial, r1.1.symm, rfl, fun i j hi hj => r1.2 _ i j (by have := r1.1; simp only at hi; omega) hj⟩, ⟨2, _, rfl, h2, rfl, ⟨rfl, rfl, rfl, ⟨rfl, r1.1, rfl⟩, ⟨rfl, r2.1, rfl⟩, rfl, trivial⟩, trivial⟩, ⟨1, _, rfl, h1, rfl, ⟨rfl, rfl, rfl, rfl, rfl, rfl, trivial⟩, trivial⟩, ⟨0, _, rfl, h0, rfl, ⟨rfl, rfl, rfl, trivial⟩, trivial⟩, trivial⟩
abbrev hdE (s : ByteArray) (u : Value) (t : ByteArray) (r : HdR) : Mem := ⟨5, 1, [some ⟨[], 67, some ⟨r.ats.length, 2, acell r.ats⟩⟩, some ⟨[], 9, some ⟨r.cls.length, 1, hcell r.cls⟩⟩, some (hdB t r.id 3 r.cls.length 4 r.ats.length), some (hdB t r.id 3 r.cls.length 4 r.ats.length), some (mrB s r.pl (.lit u))]⟩
end Sy
open Sy in
def HdG (s : ByteArray) (u : Value) (t : ByteArray) (r : HdR) (ex : ExP) (F : Fr) (M : Mem) : Prop := match r.bad with
  | true => ex = .pan r.pl 30
  | false => ex = .ret ∧ F = hdF ∧ M = hdE s u t r
open Sy in
def HdAt (s : ByteArray) (u : Value) (t : ByteArray) (n : Nat) : Prop := ∀ (a : Int) (i : ByteArray) (cs : List ByteArray) (ats : List AttrV), InM s a → s.size - a < n → cs.length ≤ 8 → ats.length ≤ 8 →
    JumpT 2 Try.prog (theScope Try.prog 39) (2 * n) (pieceAt (theScope Try.prog 39) 4) hdF (hdM s a u t i cs ats) (HdG s u t (hdR s n a i cs ats))
theorem Sy.hd_ati {s : ByteArray} {u : Value} {t : ByteArray} {n : Nat} (ih : HdAt s u t n) (a : Int) (i : ByteArray) (cs : List ByteArray) (ats : List AttrV) (h : InM s a) (h2 : s.size - a < n + 1) (hc : cs.length ≤ 8) (ha : ats.length ≤ 8) (q : eqI (pkI s a) 35 = true) :
    JumpT 2 Try.prog (theScope Try.prog 39) (2 * n + 1) (pieceAt (theScope Try.prog 39) 1) hdF (hdM s a u t i cs ats) (HdG s u t (hdR s (n + 1) a i cs ats)) := by
  have h0 := h.1
  have hl := h.2
  unfold limM at hl
  have hw : a < s.size → w64 (a + 1) = a + 1 := fun q => w64_in (by omega)
  have hlt := pk_lt (by decide) q
  have hz : InM s (a + 1) := ⟨by omega, h.2⟩
  refine segJ (n := 2 * n) 2 [cNam s] [pFail, pNam s] [] 400 30 39 1 (by kernel_rfl) (true :: false :: true :: true :: (ff13 (ff48 []))) (.br (.auto 0 .done) (.yes (.br .done (.yes .done)))) (let e1 := (@ByteArray.mk (@Array.mk _ [])); let e2 := (some (@Blk.mk [] 67 (some (@Rw.mk (ats).length 2 (@acell ats))))); let e3 := (some (@Blk.mk [] 9 (some (@Rw.mk (cs).length 1 (@hcell cs))))); let e4 := (some (@Blk.mk [(int (0 : Int)), (@AV.lit (@Value.string t)), (@AV.lit (@Value.string i)), (@AV.own 3 (cs).length 1), (@AV.own 4 (ats).length 2), (@AV.lit (@Value.string e1))] 40 none)); let e5 := (@AV.lit (@Value.string s)); let e6 := (w64 (a + (1 : Int))); let e7 := (some (@Blk.mk (e5 :: [(int e6), (@AV.lit u)]) 52 none)); let e8 := (e7 = (some (@Blk.mk [e5, (int e6), (@AV.lit u)] 52 none))); let e9 := (@And (@And ((0 : Int) ≤ e6) (e6 ≤ (((@ByteArray.size s) : Nat) : Int))) ((@ByteArray.size s) ≤ 1000000)); (.fork (!(@bytesEq (@Array.toList _ (@ByteArray.data i)) (@Array.toList _ (@ByteArray.data e1)))) (.leaf ((@ExP.pan a (Int.ofNat 30)), ([], (@Mem.mk 5 0 [e2, e3, e4, (some hdZ), (some (@Blk.mk [e5, (int a), (@AV.lit u)] 52 none))])))) (.need (@isSo (@And e8 (@And (([] : List AV) = []) e9))) (.fork (@nmBad s e6) (.leaf ((@ExP.pan (@nmK s e6) (Int.ofNat 30)), ([], (@Mem.mk 5 (0 + 1) [e2, e3, e4, (some hdZ), e7])))) (.need (@isSo (@And e8 (@And (([] : List AV) = []) (@And e9 ((@nmBad s e6) = false))))) (.leaf ((@ExP.goto 3), (((some (@AV.ptr 0 0)) :: none :: (some (@AV.ptr 1 0)) :: (some (@AV.ptr 2 0)) :: (nn13 (nn48 []))), (@Mem.mk 5 (((0 + 1) + 1) + 1) [e2, e3, (some (@Blk.mk ((int (0 : Int)) :: (@AV.lit (@Value.string t)) :: [(@AV.lit (@Value.string (@nmX s e6))), (@AV.own 3 (cs).length 1), (@AV.own 4 (ats).length 2), (@AV.lit (@Value.string e1))]) 40 none)), (some hdZ), (some (@Blk.mk [e5, (int (@nmE s e6)), (@AV.lit u)] 52 none))]))))))))) (by kernel_rfl) ?_
  rw [hw hlt]
  unfold hdR
  rw [q]
  refine fork_ok (fun r1 => ?_) (fun r1 => ?_)
  · have e : someB i = true := r1
    rw [e]
    exact rfl
  · have e : someB i = false := r1
    rw [e]
    refine need_so ⟨rfl, rfl, hz⟩ (fork_ok (fun r2 => ?_) (fun r2 => need_so ⟨rfl, rfl, hz, r2⟩ ?_))
    · rw [r2]
      exact rfl
    · rw [r2]
      have hE := nmE_in hz
      refine ⟨_, (by kernel_rfl : findLabel (theScope Try.prog 39) 3 = some (pieceAt (theScope Try.prog 39) 4)), ?_⟩
      exact JumpT.stamp 0 (ih _ _ _ _ hE.1 (by have := hE.2; omega) hc ha)
theorem Sy.hd_atc {s : ByteArray} {u : Value} {t : ByteArray} {n : Nat} (ih : HdAt s u t n) (a : Int) (i : ByteArray) (cs : List ByteArray) (ats : List AttrV) (h : InM s a) (h2 : s.size - a < n + 1) (hc : cs.length ≤ 8) (ha : ats.length ≤ 8) (q : eqI (pkI s a) 35 = false) (q2 : eqI (pkI s a) 46 = true) :
    JumpT 2 Try.prog (theScope Try.prog 39) (2 * n + 1) (pieceAt (theScope Try.prog 39) 2) hdF (hdM s a u t i cs ats) (HdG s u t (hdR s (n + 1) a i cs ats)) := by
  have h0 := h.1
  have hl := h.2
  unfold limM at hl
  have hw : a < s.size → w64 (a + 1) = a + 1 := fun q => w64_in (by omega)
  have hlt := pk_lt (by decide) q2
  have hz : InM s (a + 1) := ⟨by omega, h.2⟩
  refine segJ (n := 2 * n) 2 [cNam s, cRom s] [pFail, pNam s, pRom s] [] 400 30 39 2 (by kernel_rfl) (true :: false :: true :: true :: (ff13 (ff48 []))) (.yes (.br .done (.yes (.yes (.yes (.br .done (.yes (.yes (.yes (.yes .done)))))))))) (let e1 := (@AV.lit (@Value.string s)); let e2 := (some (@Blk.mk [e1, (int a), (@AV.lit u)] 52 none)); let e3 := (((cs).length : Nat) : Int); let e4 := (some (@Blk.mk [] 67 (some (@Rw.mk (ats).length 2 (@acell ats))))); let e5 := (some (@Blk.mk [] 9 (some (@Rw.mk (cs).length 1 (@hcell cs))))); let e6 := (@Value.string (@ByteArray.mk (@Array.mk _ []))); let e7 := (some (@Blk.mk [(int (0 : Int)), (@AV.lit (@Value.string t)), (@AV.lit (@Value.string i)), (@AV.own 3 (cs).length 1), (@AV.own 4 (ats).length 2), (@AV.lit e6)] 40 none)); let e8 := ((cs).length + 1); let e9 := (Bool.true && ((@Nat.ble (cs).length (cs).length) && ((@Nat.ble (e8 * 16) 140737488355328) && (@Nat.ble e8 17592186044416)))); let e10 := (w64 (a + (1 : Int))); let e11 := (some (@Blk.mk (e1 :: [(int e10), (@AV.lit u)]) 52 none)); let e12 := (e11 = (some (@Blk.mk [e1, (int e10), (@AV.lit u)] 52 none))); let e13 := (@And (@And ((0 : Int) ≤ e10) (e10 ≤ (((@ByteArray.size s) : Nat) : Int))) ((@ByteArray.size s) ≤ 1000000)); let e14 := (@AV.lit (@Value.string (@nmX s e10))); let e15 := (e14 :: (@List.drop _ (0 + ([e14]).length) (@List.map _ _ AV.lit (@Array.toList _ (@Array.mk _ [(@List.get _ (@Array.toList _ (@Array.mk _ [e6])) (@Fin.mk _ 0 (@Nat.le_of_ble_eq_true _ _ (@Eq.refl _ true))))]))))); (.need (@isSo (@And (e2 = e2) (@And ([(int e3)] = [(int e3)]) True))) (.fork (leI (8 : Int) e3) (.leaf ((@ExP.pan a (Int.ofNat 30)), ([], (@Mem.mk 5 0 [e4, e5, e7, (some hdZ), e2])))) (.need (@isSo (@And (e2 = e2) (@And ([(int e3)] = [(int e3)]) ((leI (8 : Int) e3) = false)))) (.need e9 (.need (@isSo (@And e12 (@And (([] : List AV) = []) e13))) (.fork (@nmBad s e10) (.leaf ((@ExP.pan (@nmK s e10) (Int.ofNat 30)), ([], (@Mem.mk 5 (0 + 1) [e4, e5, e7, (some hdZ), e11])))) (.need (@isSo (@And e12 (@And (([] : List AV) = []) (@And e13 ((@nmBad s e10) = false))))) (.need e9 (.need (eqI e3 e3) (.need (eqI e3 e3) (.leaf ((@ExP.goto 3), (((some (@AV.ptr 0 0)) :: none :: (some (@AV.ptr 1 0)) :: (some (@AV.ptr 2 0)) :: (nn13 (nn48 []))), (@Mem.mk ((5 + 1) + 1) ((((0 + 1) + 1) + 1) + 1) ((some (@Blk.mk [] 9 (some (@Rw.mk e8 1 (@appc (cs).length (@hcell cs) (fun y0 => (fun y1 => (@getA (@List.take _ 1 e15) ((y0 * 1) + y1))))))))) :: ((some (@Blk.mk e15 9 none)) :: [e4, none, (some (@Blk.mk [(int (0 : Int)), (@AV.lit (@Value.string t)), (@AV.lit (@Value.string i)), (@AV.own (5 + 1) e8 1), (@AV.own 4 (ats).length 2), (@AV.lit e6)] 40 none)), (some hdZ), (some (@Blk.mk [e1, (int (@nmE s e10)), (@AV.lit u)] 52 none))]))))))))))))))))) (by kernel_rfl) ?_
  rw [hw hlt]
  unfold hdR
  rw [q, q2]
  refine need_so ⟨rfl, rfl, trivial⟩ (fork_ok (fun r1 => ?_) (fun r1 => need_so ⟨rfl, rfl, r1⟩ ?_))
  · rw [r1]
    exact rfl
  · rw [r1]
    have r1' := r1
    rw [leI_f] at r1'
    have cap : (Bool.true && ((Nat.ble cs.length cs.length) && ((Nat.ble ((cs.length + 1) * 16) 140737488355328) && (Nat.ble (cs.length + 1) 17592186044416)))) = true := by
      simp only [Bool.true_and, Bool.and_eq_true, Nat.ble_eq]
      omega
    refine need_t cap (need_so ⟨rfl, rfl, hz⟩ (fork_ok (fun r2 => ?_) (fun r2 => need_so ⟨rfl, rfl, hz, r2⟩ (need_t cap (need_t (by rw [eqI_t]) (need_t (by rw [eqI_t]) ?_))))))
    · rw [r2]
      exact rfl
    · rw [r2]
      have hE := nmE_in hz
      refine ⟨_, (by kernel_rfl : findLabel (theScope Try.prog 39) 3 = some (pieceAt (theScope Try.prog 39) 4)), ?_⟩
      exact JumpT.ren [0, 1, 2, 6, 4] rfl hdF_ren (hd_ren (by decide) rfl rfl rfl rfl rfl (CRows.app1 _ (CRows.base _) fun σ => rfl) (ARows.base _)) (ih _ _ _ _ hE.1 (by have := hE.2; omega) (by simp; omega) ha)
theorem Sy.hd_ata {s : ByteArray} {u : Value} {t : ByteArray} {n : Nat} (ih : HdAt s u t n) (a : Int) (i : ByteArray) (cs : List ByteArray) (ats : List AttrV) (h : InM s a) (h2 : s.size - a < n + 1) (hc : cs.length ≤ 8) (ha : ats.length ≤ 8) (q : eqI (pkI s a) 35 = false) (q2 : eqI (pkI s a) 46 = false) (q3 : eqI (pkI s a) 91 = true) :
    JumpT 2 Try.prog (theScope Try.prog 39) (2 * n + 1) (pieceAt (theScope Try.prog 39) 3) hdF (hdM s a u t i cs ats) (HdG s u t (hdR s (n + 1) a i cs ats)) := by
  have h0 := h.1
  have hl := h.2
  unfold limM at hl
  have hw : a < s.size → w64 (a + 1) = a + 1 := fun q => w64_in (by omega)
  have hlt := pk_lt (by decide) q3
  refine segJ (n := 2 * n) 2 [cAtr s, cRom s] [pFail, pAtr s, pRom s] [] 400 30 39 3 (by kernel_rfl) (true :: false :: true :: true :: (ff13 (ff48 []))) (.yes (.br .done (.yes (.yes (.yes (.br .done (.yes (.yes (.yes (.yes .done)))))))))) (let e1 := (some (@Blk.mk [(@AV.lit (@Value.string s)), (int a), (@AV.lit u)] 52 none)); let e2 := (((ats).length : Nat) : Int); let e3 := (some (@Blk.mk [] 9 (some (@Rw.mk (cs).length 1 (@hcell cs))))); let e4 := (@Value.string (@ByteArray.mk (@Array.mk _ []))); let e5 := ((ats).length + 1); let e6 := (Bool.true && ((@Nat.ble (ats).length (ats).length) && ((@Nat.ble (e5 * 32) 140737488355328) && (@Nat.ble e5 17592186044416)))); let e7 := (@And (@And ((0 : Int) ≤ a) (a ≤ (((@ByteArray.size s) : Nat) : Int))) ((@ByteArray.size s) ≤ 1000000)); let e8 := (@AV.lit (@Value.string (@nmX s (a + (1 : Int))))); let e9 := (@AV.lit (@Value.string (@wdX s ((@atE s a) + (1 : Int))))); let e10 := (@Array.toList _ (@Array.mk _ [e4, e4])); let e11 := (e8 :: e9 :: (@List.drop _ (0 + ([e8, e9]).length) (@List.map _ _ AV.lit (@Array.toList _ (@Array.mk _ [(@List.get _ e10 (@Fin.mk _ 0 (@Nat.le_of_ble_eq_true _ _ (@Eq.refl _ true)))), (@List.get _ e10 (@Fin.mk _ 1 (@Nat.le_of_ble_eq_true _ _ (@Eq.refl _ true))))]))))); (.need (@isSo (@And (e1 = e1) (@And ([(int e2)] = [(int e2)]) True))) (.fork (leI (8 : Int) e2) (.leaf ((@ExP.pan a (Int.ofNat 30)), ([], (@Mem.mk 5 0 [(some (@Blk.mk [] 67 (some (@Rw.mk (ats).length 2 (@acell ats))))), e3, (some (@Blk.mk [(int (0 : Int)), (@AV.lit (@Value.string t)), (@AV.lit (@Value.string i)), (@AV.own 3 (cs).length 1), (@AV.own 4 (ats).length 2), (@AV.lit e4)] 40 none)), (some hdZ), e1])))) (.need (@isSo (@And (e1 = e1) (@And ([(int e2)] = [(int e2)]) ((leI (8 : Int) e2) = false)))) (.need e6 (.need (@isSo (@And (e1 = e1) (@And (([] : List AV) = []) e7))) (.fork (@atBad s a) (.leaf ((@ExP.pan (@atK s a) (Int.ofNat 30)), ([], (@Mem.mk 5 0 [(some (@Blk.mk [] 67 (some (@Rw.mk (ats).length 2 (@acell ats))))), e3, (some (@Blk.mk [(int (0 : Int)), (@AV.lit (@Value.string t)), (@AV.lit (@Value.string i)), (@AV.own 3 (cs).length 1), (@AV.own 4 (ats).length 2), (@AV.lit e4)] 40 none)), (some hdZ), e1])))) (.need (@isSo (@And (e1 = e1) (@And (([] : List AV) = []) (@And e7 ((@atBad s a) = false))))) (.need e6 (.need (eqI e2 e2) (.need (eqI e2 e2) (.leaf ((@ExP.goto 3), (((some (@AV.ptr 0 0)) :: none :: (some (@AV.ptr 1 0)) :: (some (@AV.ptr 2 0)) :: (nn13 (nn48 []))), (@Mem.mk ((5 + 1) + 1) (((0 + 1) + 1) + 1) ((some (@Blk.mk [] 67 (some (@Rw.mk e5 2 (@appc (ats).length (@acell ats) (fun y0 => (fun y1 => (@getA (@List.take _ 2 e11) ((y0 * 2) + y1))))))))) :: ((some (@Blk.mk e11 67 none)) :: [none, e3, (some (@Blk.mk [(int (0 : Int)), (@AV.lit (@Value.string t)), (@AV.lit (@Value.string i)), (@AV.own 3 (cs).length 1), (@AV.own (5 + 1) e5 2), (@AV.lit e4)] 40 none)), (some hdZ), (some (@Blk.mk [(@AV.lit (@Value.string s)), (int ((@atW s a) + (1 : Int))), (@AV.lit u)] 52 none))]))))))))))))))))) (by kernel_rfl) ?_
  unfold hdR
  rw [q, q2, q3]
  refine need_so ⟨rfl, rfl, trivial⟩ (fork_ok (fun r1 => ?_) (fun r1 => need_so ⟨rfl, rfl, r1⟩ ?_))
  · rw [r1]
    exact rfl
  · rw [r1]
    have r1' := r1
    rw [leI_f] at r1'
    have cap : (Bool.true && ((Nat.ble ats.length ats.length) && ((Nat.ble ((ats.length + 1) * 32) 140737488355328) && (Nat.ble (ats.length + 1) 17592186044416)))) = true := by
      simp only [Bool.true_and, Bool.and_eq_true, Nat.ble_eq]
      omega
    refine need_t cap (need_so ⟨rfl, rfl, h⟩ (fork_ok (fun r2 => ?_) (fun r2 => need_so ⟨rfl, rfl, h, r2⟩ (need_t cap (need_t (by rw [eqI_t]) (need_t (by rw [eqI_t]) ?_))))))
    · rw [r2]
      exact rfl
    · rw [r2]
      have hE := at_in h r2
      refine ⟨_, (by kernel_rfl : findLabel (theScope Try.prog 39) 3 = some (pieceAt (theScope Try.prog 39) 4)), ?_⟩
      exact JumpT.ren [0, 1, 2, 3, 6] rfl hdF_ren (hd_ren (by decide) rfl rfl rfl rfl rfl (CRows.base _) (ARows.app1 _ (ARows.base _) fun σ j hj => by
        rcases j with _ | _ | j
        · exact rfl
        · exact rfl
        · omega)) (ih _ _ _ _ hE.1 (by have := hE.2; omega) hc (by simp; omega))
theorem Sy.hd_loop (s : ByteArray) (u : Value) (t : ByteArray) : ∀ (n : Nat), HdAt s u t n := by
  intro n
  induction n with
  | zero => intro a i cs ats h h2; have := h.1; omega
  | succ n ih =>
    intro a i cs ats h h2 hc ha
    have h0 := h.1
    have hl := h.2
    unfold limM at hl
    refine segJ (n := 2 * n + 1) 2 [cPek s] [pFail] [] 400 30 39 4 (by kernel_rfl) (true :: false :: true :: true :: (ff13 (ff48 []))) (.yes (.br .done (.br .done (.br .done .done)))) (let e1 := (some (@Blk.mk [(@AV.lit (@Value.string s)), (int a), (@AV.lit u)] 52 none)); let e2 := (some (@Blk.mk [] 67 (some (@Rw.mk (ats).length 2 (@acell ats))))); let e3 := (some (@Blk.mk [] 9 (some (@Rw.mk (cs).length 1 (@hcell cs))))); let e4 := (some (@Blk.mk [(int (0 : Int)), (@AV.lit (@Value.string t)), (@AV.lit (@Value.string i)), (@AV.own 3 (cs).length 1), (@AV.own 4 (ats).length 2), (@AV.lit (@Value.string (@ByteArray.mk (@Array.mk _ []))))] 40 none)); (.need (@isSo (@And (e1 = e1) (@And (([] : List AV) = []) (@And (@And ((0 : Int) ≤ a) (a ≤ (((@ByteArray.size s) : Nat) : Int))) ((@ByteArray.size s) ≤ 1000000))))) (.fork (eqI (@pkI s a) (35 : Int)) (.leaf ((@ExP.goto 0), (((some (@AV.ptr 0 0)) :: none :: (some (@AV.ptr 1 0)) :: (some (@AV.ptr 2 0)) :: (nn13 (nn48 []))), (@Mem.mk 5 0 [e2, e3, e4, (some hdZ), e1])))) (.fork (eqI (@pkI s a) (46 : Int)) (.leaf ((@ExP.goto 1), (((some (@AV.ptr 0 0)) :: none :: (some (@AV.ptr 1 0)) :: (some (@AV.ptr 2 0)) :: (nn13 (nn48 []))), (@Mem.mk 5 0 [e2, e3, e4, (some hdZ), e1])))) (.fork (eqI (@pkI s a) (91 : Int)) (.leaf ((@ExP.goto 2), (((some (@AV.ptr 0 0)) :: none :: (some (@AV.ptr 1 0)) :: (some (@AV.ptr 2 0)) :: (nn13 (nn48 []))), (@Mem.mk 5 0 [e2, e3, e4, (some hdZ), e1])))) (.leaf (ExP.ret, (((some (@AV.ptr 0 0)) :: none :: (some (@AV.ptr 1 0)) :: (some (@AV.ptr 2 0)) :: (nn13 (nn48 []))), (@Mem.mk 5 (0 + 1) [e2, e3, e4, e4, e1]))))))))) (by kernel_rfl) ?_
    have hw : a < s.size → w64 (a + 1) = a + 1 := fun q => w64_in (by omega)
    refine need_so ⟨rfl, rfl, h⟩ (fork_ok (fun q => ?_) (fun q => fork_ok (fun q2 => ?_) (fun q2 => fork_ok (fun q3 => ?_) (fun q3 => ?_))))
    · exact ⟨_, (by kernel_rfl : findLabel (theScope Try.prog 39) 0 = some (pieceAt (theScope Try.prog 39) 1)), hd_ati ih a i cs ats h h2 hc ha q⟩
    · exact ⟨_, (by kernel_rfl : findLabel (theScope Try.prog 39) 1 = some (pieceAt (theScope Try.prog 39) 2)), hd_atc ih a i cs ats h h2 hc ha q q2⟩
    · exact ⟨_, (by kernel_rfl : findLabel (theScope Try.prog 39) 2 = some (pieceAt (theScope Try.prog 39) 3)), hd_ata ih a i cs ats h h2 hc ha q q2 q3⟩
    · unfold hdR
      rw [q, q2, q3]
      exact ⟨rfl, rfl, rfl⟩
end Go.Proofs.Ytglkdhmikpejnaa
