/-
  Lemmas for TreeBuilds, part 4; no conditions.
-/
import Derived.Deep.Heap
import Derived.Test.YtkfecfbaljichaaTbpC
set_option linter.unusedVariables false
set_option linter.unusedSimpArgs false
namespace Go.Proofs.Ytkfecfbaljichaa
open Go Go.RowKit Pl Sy
noncomputable abbrev Sy.cNameR : Con Try.prog := str1 18 (fun s => boo (nameL s.data.toList)) (fun s => s.size ≤ maxLen) (fun _ => trivial) fun s h => old (us := [.string s]) (fun w => name_r s w h)
noncomputable abbrev Sy.cTextR : Con Try.prog := str1 9 (fun s => boo (textL s.data.toList)) (fun s => s.size ≤ maxLen) (fun _ => trivial) fun s h => old (us := [.string s]) (fun w => text_r s w h)
theorem Sy.scanOk {α : Type} {P : Program} {body : Code} (xs : List α) (g : α → Bool) (d : α) (F : Int → Bool → Fr) (M : Mem) (id : Nat)
    (step : ∀ (k : Int) (b : Bool) (n : Nat) (G : Ex → Fr → Mem → Prop), 0 ≤ k → k ≤ xs.length → (k < xs.length → b = true → LoopTo P body n (F (k + 1) (g (xs.getD k.toNat d))) M G) → (k = xs.length ∨ b = false → G (.exit id) (F k b) M) → LoopTo P body (n + 1) (F k b) M G) (b : Bool) :
    LoopTo P body (xs.length + 1) (F 0 b) M fun ex F' M' => M' = M ∧ ex = .exit id ∧ ∃ k, F' = F k (b && xs.all g) := by
  have key : ∀ (l pre : List α) (k : Int) (b : Bool), xs = pre ++ l → k = pre.length → LoopTo P body (l.length + 1) (F k b) M fun ex F' M' => M' = M ∧ ex = .exit id ∧ ∃ k, F' = F k (b && l.all g) := by
    intro l
    induction l with
    | nil =>
      intro pre k b h hk
      have hl : xs.length = pre.length := by rw [h]; simp
      exact step k b _ _ (by omega) (by omega) (fun h1 _ => by omega) (fun _ => ⟨rfl, rfl, k, by simp⟩)
    | cons x l ih =>
      intro pre k b h hk
      have hl : xs.length = pre.length + l.length + 1 := by rw [h]; simp; omega
      have hg : xs.getD k.toNat d = x := by rw [h]; exact getD_at _ _ _ _ _ hk
      refine step k b _ _ (by omega) (by omega) (fun h1 h2 => ?_) (fun h1 => ?_)
      · rw [hg]
        refine (ih (pre ++ [x]) (k + 1) (g x) (by rw [h]; simp) (by simp; omega)).mono fun ex F' M' ⟨q1, q2, j, q3⟩ => ⟨q1, q2, j, ?_⟩
        rw [q3, h2, List.all_cons, Bool.true_and]
      · rcases h1 with h1 | h1
        · omega
        · exact ⟨rfl, rfl, k, by rw [h1, Bool.false_and]⟩
  exact key xs [] 0 b rfl rfl
def ratB (t : AttrV) : Bool := nameL t.name.data.toList && textL t.value.data.toList
namespace Sy
abbrev repM (p : NdV) : Mem := (@Mem.mk 1 0 [(some (@Blk.mk [(int (p).par), (@AV.lit (@Value.string (p).tag)), (@AV.lit (@Value.string (p).id)), (@AV.view ((p).cls).length 1 (fun x132831 => (fun x547654 => (@AV.lit ([(@Value.string ((p).cls.getD x132831 (@ByteArray.mk (@Array.mk _ []))))].getD x547654 (@Value.tuple (@Array.mk _ []))))))), (@AV.view ((p).atts).length 2 (fun x15770 => (fun x266425 => (@AV.lit ([(@Value.string (((p).atts.getD x15770 attrNone)).name), (@Value.string (((p).atts.getD x15770 attrNone)).value)].getD x266425 (@Value.tuple (@Array.mk _ []))))))), (@AV.lit (@Value.string (p).text))] 30 none))])
abbrev recF (k : Int) (b : Bool) : Fr := (none :: some ((@AV.ptr 0 0)) :: none :: some (boo b) :: some (int k) :: (nn5 (nn44 (nn48 []))))
noncomputable def slotIB (F : Fr) (i j : Nat) : Option (Int × Bool) := match nth F i, nth F j with
  | some (some (.lit (.int .i64 k))), some (some (.lit (.bool b))) => some (k, b)
  | _, _ => none
end Sy
def allS (g : ByteArray → Bool) (xs : List ByteArray) : Bool := xs.all g
def allT (g : AttrV → Bool) (xs : List AttrV) : Bool := xs.all g
def nameB (s : ByteArray) : Bool := nameL s.data.toList
theorem Sy.rc_scan (p : NdV) (hx : StrsOk p.cls) (b : Bool) : LoopTo Try.prog (theBody Try.prog 6 6) (p.cls.length + 1) (recF 0 b) (repM p) fun ex F' M' => M' = repM p ∧ ex = .exit 0 ∧ ∃ k, F' = recF k (b && p.cls.all nameB) :=
  scanOk p.cls nameB ⟨#[]⟩ recF (repM p) 0 (fun k b n G h0 h1 c1 c2 => by
    refine roundL [cNameR] [] 400 30 6 6 Try.func6 rfl (by kernel_rfl) (false :: true :: false :: true :: true :: (ff5 (ff44 (ff48 [])))) (.br (.auto 0 (.br (.yes (.yes .done)) .done)) (.auto 1 .done)) (let e1 := (@ByteArray.mk (@Array.mk _ [])); let e2 := (@Value.tuple (@Array.mk _ [])); let e3 := (@Mem.mk 1 0 [(some (@Blk.mk [(int (p).par), (@AV.lit (@Value.string (p).tag)), (@AV.lit (@Value.string (p).id)), (@AV.view ((p).cls).length 1 (fun y0 => (fun y1 => (@AV.lit ([(@Value.string ((p).cls.getD y0 e1))].getD y1 e2))))), (@AV.view ((p).atts).length 2 (fun y0 => (fun y1 => (@AV.lit ([(@Value.string (((p).atts.getD y0 attrNone)).name), (@Value.string (((p).atts.getD y0 attrNone)).value)].getD y1 e2))))), (@AV.lit (@Value.string (p).text))] 30 none))]); (.fork (!(leI ((((p).cls).length : Nat) : Int) k)) (.fork b (.need (@inR k ((p).cls).length) (.need (@isSo ((@ByteArray.size ((p).cls.getD (k).toNat e1)) ≤ 9223372036854775807)) (.leaf (Ex.norm, ((none :: (some (@AV.ptr 0 0)) :: none :: (some (boo (@Pl.nameL (@Array.toList _ (@ByteArray.data ((p).cls.getD (k).toNat e1)))))) :: (some (int (w64 (k + (1 : Int))))) :: (nn5 (nn44 (nn48 [])))), e3))))) (.leaf ((@Ex.exit 0), ((none :: (some (@AV.ptr 0 0)) :: none :: (some (boo b)) :: (some (int k)) :: (nn5 (nn44 (nn48 [])))), e3)))) (.leaf ((@Ex.exit 0), ((none :: (some (@AV.ptr 0 0)) :: none :: (some (boo b)) :: (some (int k)) :: (nn5 (nn44 (nn48 [])))), e3))))) (by kernel_rfl) ?_
    have hl := hx.1
    refine fork_ok (fun h => fork_ok (fun h2 => ?_) (fun h2 => c2 (.inr h2))) (fun h => ?_)
    · simp only [Bool.not_eq_true', Bool.not_eq_false', leI_t, leI_f, eqI_t, eqI_f, inR_t, inR_f, isSo_t, isSo_f] at h
      have hr : inR k p.cls.length = true := by rw [inR_t]; omega
      refine need_t hr (need_so (hx.2 _ (getD_mem p.cls k _ h0 (by omega))) ?_)
      rw [w64_in (r := k + 1) (by omega)]
      exact c1 (by omega) h2
    · simp only [Bool.not_eq_true', Bool.not_eq_false', leI_t, leI_f, eqI_t, eqI_f, inR_t, inR_f, isSo_t, isSo_f] at h
      exact c2 (.inl (by omega))) b
namespace Sy
noncomputable abbrev lpRc (p : NdV) : Lp Try.prog where
  f := 6
  key := 6
  S := formS (fun F M => slotIB F 4 3) (fun x => recF x.1 x.2) (fun _ => repM p) (fun x => StrsOk p.cls ∧ x.1 = 0) (fun x => .leaf (.exit 0, (none :: some ((@AV.ptr 0 0)) :: none :: some (boo (x.2 && allS nameB p.cls)) :: (nn5 (nn45 (nn48 [])))), repM p)) (false :: true :: false :: true :: true :: (ff5 (ff44 (ff48 []))))
  one := by kernel_rfl
  ok := formS_ok fun x ⟨h1, h2⟩ => by
    obtain ⟨k, b⟩ := x
    simp only at h2
    subst h2
    refine ⟨p.cls.length + 1, ?_⟩
    refine ((Sy.rc_scan p h1 b).out (false :: true :: false :: true :: (ff5 (ff45 (ff48 []))))).mono fun ex F M hg => ?_
    obtain ⟨F0, ⟨hM, rfl, j, rfl⟩, rfl⟩ := hg
    rw [hM]; rfl
end Sy
namespace Sy
abbrev retF (k : Int) (b : Bool) : Fr := (none :: some ((@AV.ptr 0 0)) :: none :: some (boo b) :: none :: some (int k) :: (nn48 (nn48 [])))
end Sy
theorem Sy.rt_scan (p : NdV) (hx : AttrsOk p.atts) (b : Bool) : LoopTo Try.prog (theBody Try.prog 6 10) (p.atts.length + 1) (retF 0 b) (repM p) fun ex F' M' => M' = repM p ∧ ex = .exit 2 ∧ ∃ k, F' = retF k (b && p.atts.all ratB) :=
  scanOk p.atts ratB attrNone retF (repM p) 2 (fun k b n G h0 h1 c1 c2 => by
    refine roundL [cNameR, cTextR] [] 400 30 6 10 Try.func6 rfl (by kernel_rfl) (false :: true :: false :: true :: false :: true :: (ff48 (ff48 []))) (.br (.auto 0 (.br (.yes (.yes (.br (.auto 2 (.yes (.auto 2 (.yes (.auto 0 .done))))) (.auto 6 .done)))) .done)) (.auto 1 .done)) (let e1 := (some (@AV.ptr 0 0)); let e2 := (some (int (w64 (k + (1 : Int))))); let e3 := (@Value.tuple (@Array.mk _ [])); let e4 := (@Mem.mk 1 0 [(some (@Blk.mk [(int (p).par), (@AV.lit (@Value.string (p).tag)), (@AV.lit (@Value.string (p).id)), (@AV.view ((p).cls).length 1 (fun y0 => (fun y1 => (@AV.lit ([(@Value.string ((p).cls.getD y0 (@ByteArray.mk (@Array.mk _ []))))].getD y1 e3))))), (@AV.view ((p).atts).length 2 (fun y0 => (fun y1 => (@AV.lit ([(@Value.string (((p).atts.getD y0 attrNone)).name), (@Value.string (((p).atts.getD y0 attrNone)).value)].getD y1 e3))))), (@AV.lit (@Value.string (p).text))] 30 none))]); (.fork (!(leI ((((p).atts).length : Nat) : Int) k)) (.fork b (.need (@inR k ((p).atts).length) (.need (@isSo ((@ByteArray.size (((p).atts.getD (k).toNat attrNone)).name) ≤ 9223372036854775807)) (.fork (@Pl.nameL (@Array.toList _ (@ByteArray.data (((p).atts.getD (k).toNat attrNone)).name))) (.need (@inR k ((p).atts).length) (.need (@isSo ((@ByteArray.size (((p).atts.getD (k).toNat attrNone)).value) ≤ 9223372036854775807)) (.leaf (Ex.norm, ((none :: e1 :: none :: (some (boo (@Pl.textL (@Array.toList _ (@ByteArray.data (((p).atts.getD (k).toNat attrNone)).value))))) :: none :: e2 :: (nn48 (nn48 []))), e4))))) (.leaf (Ex.norm, ((none :: e1 :: none :: (some (boo false)) :: none :: e2 :: (nn48 (nn48 []))), e4)))))) (.leaf ((@Ex.exit 2), ((none :: e1 :: none :: (some (boo b)) :: none :: (some (int k)) :: (nn48 (nn48 []))), e4)))) (.leaf ((@Ex.exit 2), ((none :: e1 :: none :: (some (boo b)) :: none :: (some (int k)) :: (nn48 (nn48 []))), e4))))) (by kernel_rfl) ?_
    have hl := hx.1
    refine fork_ok (fun h => fork_ok (fun h2 => ?_) (fun h2 => c2 (.inr h2))) (fun h => ?_)
    · simp only [Bool.not_eq_true', Bool.not_eq_false', leI_t, leI_f, eqI_t, eqI_f, inR_t, inR_f, isSo_t, isSo_f] at h
      have hr : inR k p.atts.length = true := by rw [inR_t]; omega
      have ho := hx.2 _ (getD_mem p.atts k attrNone h0 (by omega))
      have c1 := c1 (by omega) h2
      unfold ratB at c1
      refine need_t hr (need_so ho.1 (fork_ok (fun h3 => need_t hr (need_so ho.2 ?_)) (fun h3 => ?_)))
      · rw [h3, Bool.true_and] at c1
        rw [w64_in (r := k + 1) (by omega)]
        exact c1
      · rw [h3, Bool.false_and] at c1
        rw [w64_in (r := k + 1) (by omega)]
        exact c1
    · simp only [Bool.not_eq_true', Bool.not_eq_false', leI_t, leI_f, eqI_t, eqI_f, inR_t, inR_f, isSo_t, isSo_f] at h
      exact c2 (.inl (by omega))) b
namespace Sy
noncomputable abbrev lpRt (p : NdV) : Lp Try.prog where
  f := 6
  key := 10
  S := formS (fun F M => slotIB F 5 3) (fun x => retF x.1 x.2) (fun _ => repM p) (fun x => AttrsOk p.atts ∧ x.1 = 0) (fun x => .leaf (.exit 2, (none :: some ((@AV.ptr 0 0)) :: none :: some (boo (x.2 && allT ratB p.atts)) :: (nn5 (nn45 (nn48 [])))), repM p)) (false :: true :: false :: true :: false :: true :: (ff48 (ff48 [])))
  one := by kernel_rfl
  ok := formS_ok fun x ⟨h1, h2⟩ => by
    obtain ⟨k, b⟩ := x
    simp only at h2
    subst h2
    refine ⟨p.atts.length + 1, ?_⟩
    refine ((Sy.rt_scan p h1 b).out (false :: true :: false :: true :: (ff5 (ff45 (ff48 []))))).mono fun ex F M hg => ?_
    obtain ⟨F0, ⟨hM, rfl, j, rfl⟩, rfl⟩ := hg
    rw [hM]; rfl
end Sy
def ndB (p : NdV) : Bool := if bytesEq p.tag.data.toList [] = true then bytesEq p.id.data.toList [] && (eqI p.cls.length 0 && (eqI p.atts.length 0 && textL p.text.data.toList))
  else nameB p.tag && ((bytesEq p.id.data.toList [] || nameB p.id) && (bytesEq p.text.data.toList [] && (leI p.cls.length 8 && (leI p.atts.length 8 && (allS nameB p.cls && allT ratB p.atts)))))
theorem Sy.rgt_t (p : NdV) (h : p.Ok) : CallTo Try.prog 6 [ndG p] M0 fun v _ => v = boo (ndB p) :=
  toV [cNameR, cTextR] [lpRc p, lpRt p] 400 30 (.br (.br (.auto 3 (.br (.auto 3 (.br (.auto 1 (.yes (.auto 0 .done))) (.auto 2 .done))) (.auto 7 .done))) (.auto 12 .done)) (.yes (.br (.auto 2 (.br (.auto 1 (.yes (.auto 2 (.br (.auto 2 (.br (.auto 3 (.br (.auto 3 .done) (.auto 3 .done))) (.auto 8 .done))) (.auto 12 .done))))) (.auto 8 (.br (.auto 3 (.br (.auto 3 .done) (.auto 3 .done))) (.auto 8 .done))))) (.auto 21 .done)))) (let e1 := (@Array.toList _ (@ByteArray.data (p).tag)); let e2 := (@ByteArray.mk (@Array.mk _ [])); let e3 := (@Array.toList _ (@ByteArray.data e2)); let e4 := (@Array.toList _ (@ByteArray.data (p).id)); let e5 := ((((p).cls).length : Nat) : Int); let e6 := (0 : Int); let e7 := ((((p).atts).length : Nat) : Int); let e8 := (@Array.toList _ (@ByteArray.data (p).text)); let e9 := (some (@AV.ptr 0 0)); let e10 := (some (boo (leI e7 (8 : Int)))); let e11 := (some (int e6)); let e12 := (some (int (Int.ofNat 0))); let e13 := (@Value.tuple (@Array.mk _ [])); let e14 := (@Mem.mk 1 0 [(some (@Blk.mk [(int (p).par), (@AV.lit (@Value.string (p).tag)), (@AV.lit (@Value.string (p).id)), (@AV.view ((p).cls).length 1 (fun y0 => (fun y1 => (@AV.lit ([(@Value.string ((p).cls.getD y0 e2))].getD y1 e13))))), (@AV.view ((p).atts).length 2 (fun y0 => (fun y1 => (@AV.lit ([(@Value.string (((p).atts.getD y0 attrNone)).name), (@Value.string (((p).atts.getD y0 attrNone)).value)].getD y1 e13))))), (@AV.lit (@Value.string (p).text))] 30 none))]); let e15 := ((leI e7 (8 : Int)) && (@allS nameB (p).cls)); let e16 := (false && (@allS nameB (p).cls)); (.fork (@bytesEq e1 e3) (.fork (@bytesEq e4 e3) (.fork (eqI e5 e6) (.fork (eqI e7 e6) (.need (@isSo ((@ByteArray.size (p).text) ≤ 9223372036854775807)) (.leaf (boo (@Pl.textL e8)))) (.leaf (boo false))) (.leaf (boo false))) (.leaf (boo false))) (.need (@isSo ((@ByteArray.size (p).tag) ≤ 9223372036854775807)) (.fork (@Pl.nameL e1) (.fork (!(@bytesEq e4 e3)) (.need (@isSo ((@ByteArray.size (p).id) ≤ 9223372036854775807)) (.fork (@Pl.nameL e4) (.fork (@bytesEq e8 e3) (.fork (leI e5 (8 : Int)) (.need (@isSo (@And ((none :: (e9 :: none :: e10 :: e11 :: (nn5 (nn44 (nn48 []))))) = (none :: e9 :: none :: e10 :: e12 :: (nn5 (nn44 (nn48 []))))) (e14 = e14))) (.need (@isSo (@And (@And (((p).cls).length ≤ 17592186044416) (∀ (s : ByteArray), s ∈ p.cls → s.size ≤ maxLen)) ((Int.ofNat 0) = e6))) (.need (@isSo (@And ((none :: e9 :: none :: (some (boo e15)) :: none :: e11 :: (nn48 (nn48 []))) = (none :: e9 :: none :: (some (boo e15)) :: none :: e12 :: (nn48 (nn48 [])))) (e14 = e14))) (.need (@isSo (@And (@And (((p).atts).length ≤ 17592186044416) (∀ (t : AttrV), t ∈ p.atts → t.Ok)) ((Int.ofNat 0) = e6))) (.leaf (boo (e15 && (@allT ratB (p).atts)))))))) (.need (@isSo (@And ((none :: (e9 :: none :: (some (boo false)) :: e11 :: (nn5 (nn44 (nn48 []))))) = (none :: e9 :: none :: (some (boo false)) :: e11 :: (nn5 (nn44 (nn48 []))))) (e14 = e14))) (.need (@isSo (@And (@And (((p).cls).length ≤ 17592186044416) (∀ (s : ByteArray), s ∈ p.cls → s.size ≤ maxLen)) (e6 = e6))) (.need (@isSo (@And ((none :: e9 :: none :: (some (boo e16)) :: none :: e11 :: (nn48 (nn48 []))) = (none :: e9 :: none :: (some (boo e16)) :: none :: e12 :: (nn48 (nn48 [])))) (e14 = e14))) (.need (@isSo (@And (@And (((p).atts).length ≤ 17592186044416) (∀ (t : AttrV), t ∈ p.atts → t.Ok)) ((Int.ofNat 0) = e6))) (.leaf (boo (e16 && (@allT ratB (p).atts))))))))) (.need (@isSo (@And ((none :: (e9 :: none :: (some (boo false)) :: e11 :: (nn5 (nn44 (nn48 []))))) = (none :: e9 :: none :: (some (boo false)) :: e11 :: (nn5 (nn44 (nn48 []))))) (e14 = e14))) (.need (@isSo (@And (@And (((p).cls).length ≤ 17592186044416) (∀ (s : ByteArray), s ∈ p.cls → s.size ≤ maxLen)) (e6 = e6))) (.need (@isSo (@And ((none :: e9 :: none :: (some (boo e16)) :: none :: e11 :: (nn48 (nn48 []))) = (none :: e9 :: none :: (some (boo e16)) :: none :: e12 :: (nn48 (nn48 [])))) (e14 = e14))) (.need (@isSo (@And (@And (((p).atts).length ≤ 17592186044416) (∀ (t : AttrV), t ∈ p.atts → t.Ok)) ((Int.ofNat 0) = e6))) (.leaf (boo (e16 && (@allT ratB (p).atts))))))))) (.need (@isSo (@And ((none :: (e9 :: none :: (some (boo false)) :: e11 :: (nn5 (nn44 (nn48 []))))) = (none :: e9 :: none :: (some (boo false)) :: e11 :: (nn5 (nn44 (nn48 []))))) (e14 = e14))) (.need (@isSo (@And (@And (((p).cls).length ≤ 17592186044416) (∀ (s : ByteArray), s ∈ p.cls → s.size ≤ maxLen)) (e6 = e6))) (.need (@isSo (@And ((none :: e9 :: none :: (some (boo e16)) :: none :: e11 :: (nn48 (nn48 []))) = (none :: e9 :: none :: (some (boo e16)) :: none :: e12 :: (nn48 (nn48 [])))) (e14 = e14))) (.need (@isSo (@And (@And (((p).atts).length ≤ 17592186044416) (∀ (t : AttrV), t ∈ p.atts → t.Ok)) ((Int.ofNat 0) = e6))) (.leaf (boo (e16 && (@allT ratB (p).atts)))))))))) (.fork (@bytesEq e8 e3) (.fork (leI e5 (8 : Int)) (.need (@isSo (@And ((none :: (e9 :: none :: e10 :: e11 :: (nn5 (nn44 (nn48 []))))) = (none :: e9 :: none :: e10 :: e12 :: (nn5 (nn44 (nn48 []))))) (e14 = e14))) (.need (@isSo (@And (@And (((p).cls).length ≤ 17592186044416) (∀ (s : ByteArray), s ∈ p.cls → s.size ≤ maxLen)) ((Int.ofNat 0) = e6))) (.need (@isSo (@And ((none :: e9 :: none :: (some (boo e15)) :: none :: e11 :: (nn48 (nn48 []))) = (none :: e9 :: none :: (some (boo e15)) :: none :: e12 :: (nn48 (nn48 [])))) (e14 = e14))) (.need (@isSo (@And (@And (((p).atts).length ≤ 17592186044416) (∀ (t : AttrV), t ∈ p.atts → t.Ok)) ((Int.ofNat 0) = e6))) (.leaf (boo (e15 && (@allT ratB (p).atts)))))))) (.need (@isSo (@And ((none :: (e9 :: none :: (some (boo false)) :: e11 :: (nn5 (nn44 (nn48 []))))) = (none :: e9 :: none :: (some (boo false)) :: e11 :: (nn5 (nn44 (nn48 []))))) (e14 = e14))) (.need (@isSo (@And (@And (((p).cls).length ≤ 17592186044416) (∀ (s : ByteArray), s ∈ p.cls → s.size ≤ maxLen)) (e6 = e6))) (.need (@isSo (@And ((none :: e9 :: none :: (some (boo e16)) :: none :: e11 :: (nn48 (nn48 []))) = (none :: e9 :: none :: (some (boo e16)) :: none :: e12 :: (nn48 (nn48 [])))) (e14 = e14))) (.need (@isSo (@And (@And (((p).atts).length ≤ 17592186044416) (∀ (t : AttrV), t ∈ p.atts → t.Ok)) ((Int.ofNat 0) = e6))) (.leaf (boo (e16 && (@allT ratB (p).atts))))))))) (.need (@isSo (@And ((none :: (e9 :: none :: (some (boo false)) :: e11 :: (nn5 (nn44 (nn48 []))))) = (none :: e9 :: none :: (some (boo false)) :: e11 :: (nn5 (nn44 (nn48 []))))) (e14 = e14))) (.need (@isSo (@And (@And (((p).cls).length ≤ 17592186044416) (∀ (s : ByteArray), s ∈ p.cls → s.size ≤ maxLen)) (e6 = e6))) (.need (@isSo (@And ((none :: e9 :: none :: (some (boo e16)) :: none :: e11 :: (nn48 (nn48 []))) = (none :: e9 :: none :: (some (boo e16)) :: none :: e12 :: (nn48 (nn48 [])))) (e14 = e14))) (.need (@isSo (@And (@And (((p).atts).length ≤ 17592186044416) (∀ (t : AttrV), t ∈ p.atts → t.Ok)) ((Int.ofNat 0) = e6))) (.leaf (boo (e16 && (@allT ratB (p).atts)))))))))) (.need (@isSo (@And ((none :: (e9 :: none :: (some (boo false)) :: e11 :: (nn5 (nn44 (nn48 []))))) = (none :: e9 :: none :: (some (boo false)) :: e11 :: (nn5 (nn44 (nn48 []))))) (e14 = e14))) (.need (@isSo (@And (@And (((p).cls).length ≤ 17592186044416) (∀ (s : ByteArray), s ∈ p.cls → s.size ≤ maxLen)) (e6 = e6))) (.need (@isSo (@And ((none :: e9 :: none :: (some (boo e16)) :: none :: e11 :: (nn48 (nn48 []))) = (none :: e9 :: none :: (some (boo e16)) :: none :: e12 :: (nn48 (nn48 [])))) (e14 = e14))) (.need (@isSo (@And (@And (((p).atts).length ≤ 17592186044416) (∀ (t : AttrV), t ∈ p.atts → t.Ok)) ((Int.ofNat 0) = e6))) (.leaf (boo (e16 && (@allT ratB (p).atts)))))))))))) (by kernel_rfl) (by
    obtain ⟨h1, h2, h3, h4, h5⟩ := h
    have e : ([] : List UInt8) = (ByteArray.mk #[]).data.toList := rfl
    unfold ndB
    rw [e]
    have n1 : nameB p.tag = nameL p.tag.data.toList := rfl
    have n2 : nameB p.id = nameL p.id.data.toList := rfl
    rw [n1, n2]
    repeat' (first
      | refine fork_ok (fun _ => ?_) (fun _ => ?_)
      | refine need_so h1 ?_
      | refine need_so h2 ?_
      | refine need_so h5 ?_
      | refine need_so ⟨rfl, rfl⟩ ?_
      | refine need_so ⟨h3, rfl⟩ ?_
      | refine need_so ⟨h4, rfl⟩ ?_)
    all_goals refine leaf_boo ?_
    all_goals (simp only [Bool.not_eq_true', Bool.not_eq_false', Bool.not_not] at *)
    all_goals simp only [*, Bool.false_eq_true, if_true, if_false, Bool.not_true, Bool.not_false, Bool.true_and, Bool.false_and, Bool.and_false, Bool.and_true, Bool.or_true, Bool.true_or, Bool.or_false, Bool.false_or, Bool.and_assoc])
noncomputable abbrev Sy.cRgt (n : NdV) : Con Try.prog := at1 6 [ndG n] (boo (ndB n)) n.Ok fun h => ⟨⟨⟨ndG_free n, trivial⟩, trivial⟩, rgt_t n h⟩
theorem oddB_eq (t : AttrV) : oddB t = !ratB t := by
  unfold oddB ratB
  cases nameL t.name.data.toList <;> cases textL t.value.data.toList <;> rfl
theorem elem_nd (n : NdV) : elemB n = (!bytesEq n.tag.data.toList [] && ndB n) := by
  have e1 : anyS lacksB n.cls = !allS nameB n.cls := by
    unfold anyS allS
    rw [Bool.eq_iff_iff]
    simp only [List.any_eq_true, Bool.not_eq_true', List.all_eq_false, lacksB, nameB, Bool.not_eq_true]
  have e2 : anyT oddB n.atts = !allT ratB n.atts := by
    unfold anyT allT
    rw [Bool.eq_iff_iff]
    simp only [List.any_eq_true, Bool.not_eq_true', List.all_eq_false, oddB_eq, Bool.not_eq_true]
  unfold elemB ndB
  rw [e1, e2]
  cases hb : bytesEq n.tag.data.toList [] with
  | true =>
    rw [bytesEq_eq, decide_eq_true_eq] at hb
    rw [hb]
    rfl
  | false =>
    unfold nameB
    simp
end Go.Proofs.Ytkfecfbaljichaa
namespace Go.Proofs.Ytkfecfbaljichaa
open Go.RowKit Pl
theorem tStrs : SliceT Try.prog 27 9 1 16 (.string ⟨#[]⟩) :=
  ⟨Try.underlying27, by obtain ⟨i0, hi, hz0, hz1, hz2⟩ := info_parts (show (Try.prog.info? 9).map (fun i => (i.zero, i.size, i.bytes)) = some (some (.string ⟨#[]⟩), 1, 16) by kernel_rfl); exact ⟨i0, hi, hz0, hz1, hz2⟩, rfl, by decide⟩
theorem tAttrs : SliceT Try.prog 28 50 2 32 (.agg #[.string ⟨#[]⟩, .string ⟨#[]⟩]) :=
  ⟨Try.underlying28, by obtain ⟨i0, hi, hz0, hz1, hz2⟩ := info_parts (show (Try.prog.info? 50).map (fun i => (i.zero, i.size, i.bytes)) = some (some (.agg #[.string ⟨#[]⟩, .string ⟨#[]⟩]), 2, 32) by kernel_rfl); exact ⟨i0, hi, hz0, hz1, hz2⟩, rfl, by decide⟩
@[go_sem] theorem nilS0 (w : World) : (binOp BinOp.eql 27 (.slice none 0 0) (.slice none 0 0)).run Try.prog w = .ok (.bool true) w := by kernel_rfl
@[go_sem] theorem nilS1 (ad : Addr) (n c : Nat) (w : World) : (binOp BinOp.eql 27 (.slice (some ad) n c) (.slice none 0 0)).run Try.prog w = .ok (.bool false) w := by kernel_rfl
@[go_sem] theorem nilA0 (w : World) : (binOp BinOp.eql 28 (.slice none 0 0) (.slice none 0 0)).run Try.prog w = .ok (.bool true) w := by kernel_rfl
@[go_sem] theorem nilA1 (ad : Addr) (n c : Nat) (w : World) : (binOp BinOp.eql 28 (.slice (some ad) n c) (.slice none 0 0)).run Try.prog w = .ok (.bool false) w := by kernel_rfl
theorem own_base {w : World} {base : Nat} {e : TypeId} {s : Nat} {v : Value} {n m c : Nat} {flat : List Value} {ad : Addr} (h : w.ownsRow base e s v n flat) (hv : v = .slice (some ad) m c) : base ≤ ad.block := by
  rcases h.2 with ⟨rfl, _⟩ | ⟨g, cap, cur, rfl, hb, _⟩
  · cases hv
  · simp at hv; rw [← hv.1]; exact hb
def Tagged (w : World) (a : Option Addr) (e : TypeId) : Prop := ∀ ad, a = some ad → ∃ cur fr, w.heap[ad.block]? = some (.cells cur e fr)
theorem own_tag {w : World} {base : Nat} {e : TypeId} {s : Nat} {v : Value} {n m c : Nat} {flat : List Value} {ad : Addr} (h : w.ownsRow base e s v n flat) (hv : v = .slice (some ad) m c) : ∃ cur fr, w.heap[ad.block]? = some (.cells cur e fr) := by
  rcases h.2 with ⟨rfl, _⟩ | ⟨g, cap, cur, rfl, hb, hc, _⟩
  · cases hv
  · simp at hv; rw [← hv.1]; exact ⟨cur, _, hc⟩
theorem own_empty (w : World) (e : TypeId) (s : Nat) : (w.alloc (.cells #[] e)).ownsRow w.heap.size e s (.slice (some ⟨w.heap.size, 0, none⟩) 0 0) 0 [] :=
  ⟨by simp, Or.inr ⟨w.heap.size, 0, #[], rfl, Nat.le_refl _, heap_alloc_new w _, Nat.le_refl _, by omega, by simp, by simp⟩⟩
set_option maxRecDepth 20000 in
theorem clone_strs {w : World} {a : Option Addr} {cap : Nat} {xs : List ByteArray} (h : RStrs w a cap xs) (hs : xs.length ≤ 1024) :
    Calls Try.prog 37 #[.slice a xs.length cap] w fun e w' => ∃ a' cap', e = .returned (.slice a' xs.length cap') ∧ RStrs w' a' cap' xs ∧ (∀ ad, a' = some ad → w.heap.size ≤ ad.block) ∧ Tagged w' a' 9 ∧ Below w.heap.size w w' := by
  cases ha : a with
  | none =>
    subst ha
    have hc := h.nil rfl
    subst hc
    have hx : xs = [] := List.eq_nil_of_length_eq_zero (by have := h.le; omega)
    subst hx
    go_enter Try.func37, Try.ntmps37
    go_wp2
    go_ret
    exact ⟨none, 0, rfl, h, (fun _ e => by cases e), (fun _ e => by cases e), Below.refl _ _⟩
  | some ad =>
    subst ha
    have HR := Lib.hid h; clear h
    go_enter Try.func37, Try.ntmps37
    go_wp2_with (first
      | (at_builtin; refine wpList_app_rows (cells := cStr) 27 9 1 16 _ tStrs rfl _ _ rfl w.heap.size _ 0 [] rfl (own_empty w 9 1) (some ad) cap xs rfl (HR.out.later _) (fun _ _ => rfl) (fun y _ u hu => by simp [cStr] at hu; subst hu; rfl) (by omega) (by omega) (by simp) ?_; intro v' w1 hown1 hb1))
    go_ret
    obtain ⟨b', c, rfl, hr⟩ := Rows.of_own (cells := cStr) (xs := xs) (by simpa using hown1) (fun k hk j u hu => by simpa using flat_get cStr 1 xs (fun _ _ => rfl) k hk j u hu) (by omega)
    exact ⟨b', c, by simp, hr, (fun ad e => own_base hown1 (by rw [e])), (fun ad e => own_tag hown1 (by rw [e])), (balloc (Below.refl _ _) _).trans hb1⟩
set_option maxRecDepth 20000 in
theorem clone_attrs {w : World} {a : Option Addr} {cap : Nat} {xs : List AttrV} (h : RAttrs w a cap xs) (hs : xs.length ≤ 1024) :
    Calls Try.prog 38 #[.slice a xs.length cap] w fun e w' => ∃ a' cap', e = .returned (.slice a' xs.length cap') ∧ RAttrs w' a' cap' xs ∧ (∀ ad, a' = some ad → w.heap.size ≤ ad.block) ∧ Tagged w' a' 50 ∧ Below w.heap.size w w' := by
  cases ha : a with
  | none =>
    subst ha
    have hc := h.nil rfl
    subst hc
    have hx : xs = [] := List.eq_nil_of_length_eq_zero (by have := h.le; omega)
    subst hx
    go_enter Try.func38, Try.ntmps38
    go_wp2
    go_ret
    exact ⟨none, 0, rfl, h, (fun _ e => by cases e), (fun _ e => by cases e), Below.refl _ _⟩
  | some ad =>
    subst ha
    have HR := Lib.hid h; clear h
    go_enter Try.func38, Try.ntmps38
    go_wp2_with (first
      | (at_builtin; refine wpList_app_rows (cells := AttrV.cells) 28 50 2 32 _ tAttrs rfl _ _ rfl w.heap.size _ 0 [] rfl (own_empty w 50 2) (some ad) cap xs rfl (HR.out.later _) (fun _ _ => rfl) (fun y _ => AttrV.one y) (by omega) (by omega) (by simp) ?_; intro v' w1 hown1 hb1))
    go_ret
    obtain ⟨b', c, rfl, hr⟩ := Rows.of_own (cells := AttrV.cells) (xs := xs) (by simpa using hown1) (fun k hk j u hu => by simpa using flat_get AttrV.cells 2 xs (fun _ _ => rfl) k hk j u hu) (by omega)
    exact ⟨b', c, by simp, hr, (fun ad e => own_base hown1 (by rw [e])), (fun ad e => own_tag hown1 (by rw [e])), (balloc (Below.refl _ _) _).trans hb1⟩
open Go Sy in
theorem Sy.clS_t (v : List ByteArray) (h : v.length ≤ 1024) : CallTo Try.prog 37 [cview v] M0 fun x _ => x = cview v :=
  (of_walkV (cells := strCells) (d := ⟨#[]⟩) v v [] (fun x => rfl) (fun x u hu => by simp [strCells] at hu; subst hu; rfl) (by decide) (by omega) (fun w a cap hR => (clone_strs (show RStrs w a cap v from hR) h).mono fun e w' he => by
  obtain ⟨a', cap', e1, e2, e3, _, e5⟩ := he
  exact ⟨a', cap', e1, e2, e3, e5⟩) M0).mono fun v _ hv => hv.1
open Go Sy in
theorem Sy.clA_t (v : List AttrV) (h : v.length ≤ 1024) : CallTo Try.prog 38 [aview v] M0 fun x _ => x = aview v :=
  (of_walkV (cells := AttrV.cells) (d := attrNone) v v [] (fun x => rfl) AttrV.one (by decide) (by omega) (fun w a cap hR => (clone_attrs hR h).mono fun e w' he => by
  obtain ⟨a', cap', e1, e2, e3, _, e5⟩ := he
  exact ⟨a', cap', e1, e2, e3, e5⟩) M0).mono fun v _ hv => hv.1
open Go Sy in
theorem Sy.of_nil {P : Program} {f : FuncId} {s : Nat} {cell : Nat → Nat → AV} {G : AV → Mem → Prop} (h : CallTo P f [.view 0 s cell] M0 G) : CallTo P f [.lit (.slice none 0 0)] M0 G := fun w0 ρ us w h1 h2 => h w0 ρ us w (by
  simp only [rels, rel] at h1 ⊢
  obtain ⟨x, xs, q1, q2, q3⟩ := h1
  exact ⟨x, xs, q1, ⟨none, 0, q2, Nat.le_refl _, Nat.zero_le _, fun _ => rfl, fun h => absurd h (by omega)⟩, q3⟩) h2
open Go Sy in
noncomputable abbrev Sy.cClS (v : List ByteArray) : Con Try.prog := atX 37 (fun args => match args with | [.lit _] => some true | _ => some false) (fun b => match b with | true => [.lit (.slice none 0 0)] | false => [cview v]) (fun b => match b with | true => cview [] | false => cview v) (fun b => b = true ∨ v.length ≤ 1024) fun b h => by
  cases b with
  | true => exact ⟨⟨⟨trivial, trivial⟩, viewOf_free _ _ _ _⟩, of_nil (clS_t [] (Nat.zero_le _))⟩
  | false => exact ⟨⟨⟨viewOf_free _ _ _ _, trivial⟩, viewOf_free _ _ _ _⟩, clS_t v (h.resolve_left (by decide))⟩
open Go Sy in
noncomputable abbrev Sy.cClA (v : List AttrV) : Con Try.prog := atX 38 (fun args => match args with | [.lit _] => some true | _ => some false) (fun b => match b with | true => [.lit (.slice none 0 0)] | false => [aview v]) (fun b => match b with | true => aview [] | false => aview v) (fun b => b = true ∨ v.length ≤ 1024) fun b h => by
  cases b with
  | true => exact ⟨⟨⟨trivial, trivial⟩, viewOf_free _ _ _ _⟩, of_nil (clA_t [] (Nat.zero_le _))⟩
  | false => exact ⟨⟨⟨viewOf_free _ _ _ _, trivial⟩, viewOf_free _ _ _ _⟩, clA_t v (h.resolve_left (by decide))⟩
end Go.Proofs.Ytkfecfbaljichaa
namespace Go.Proofs.Ytkfecfbaljichaa
open Go Go.RowKit Pl Sy
structure OpV where
  kind : Int
  nd : NdV
def opNone : OpV := ⟨0, ndNone⟩
namespace Sy
def opA (o : OpV) (j : Nat) : AV := match j with
  | 0 => int o.kind
  | 1 => int o.nd.par
  | 2 => .lit (.string o.nd.tag)
  | 3 => .lit (.string o.nd.id)
  | 4 => cview o.nd.cls
  | 5 => aview o.nd.atts
  | _ => .lit (.string o.nd.text)
theorem opA_free (o : OpV) (j : Nat) : Free (opA o j) := by
  unfold opA
  split
  · trivial
  · trivial
  · trivial
  · trivial
  · exact viewOf_free _ _ _ _
  · exact viewOf_free _ _ _ _
  · trivial
def ocell (l : List OpV) (i j : Nat) : AV := opA (l.getD i opNone) j
abbrev oview (l : List OpV) : AV := .view l.length 7 (ocell l)
theorem oview_free (l : List OpV) : Free (oview l) := fun i j => opA_free _ j
def ndA (n : NdV) (j : Nat) : AV := match j with
  | 0 => int n.par
  | 1 => .lit (.string n.tag)
  | 2 => .lit (.string n.id)
  | 3 => cview n.cls
  | 4 => aview n.atts
  | _ => .lit (.string n.text)
def ndcell (ns : List NdV) (i j : Nat) : AV := ndA (ns.getD i ndNone) j
def zcell (os : List Int) (i j : Nat) : AV := int (os.getD i 0)
abbrev nrowB (ns : List NdV) : Blk := ⟨[], 30, some ⟨ns.length, 6, ndcell ns⟩⟩
abbrev irowB (os : List Int) : Blk := ⟨[], 3, some ⟨os.length, 1, zcell os⟩⟩
abbrev tbM (ns : List NdV) (os : List Int) : Mem := ⟨5, 0, [some (irowB os), some (nrowB ns), some (irowB os), some (nrowB ns), some ⟨[.own 1 ns.length 6, .own 2 os.length 1], 47, none⟩]⟩
end Sy
namespace Sy
abbrev tbF (l : List OpV) (n m : Nat) (k : Int) : Fr := (some ((@AV.view (l).length 7 (@ocell l))) :: none :: some ((boo false)) :: some (.ptr 0 0) :: some (.own 3 n 6) :: some (.own 4 m 1) :: some (int k) :: (nn41 (nn48 (nn48 []))))
end Sy
def opN (l : List OpV) (k : Int) : NdV := (l.getD k.toNat opNone).nd
theorem fork_t {β : Type} {c : Bool} {t f : Tr β} {G : β → Prop} (hc : c = true) (ht : t.Ok G) : (Tr.fork c t f).Ok G := fork_ok (fun _ => ht) (fun h => absurd (hc.symm.trans h) (by decide))
theorem fork_f {β : Type} {c : Bool} {t f : Tr β} {G : β → Prop} (hc : c = false) (hf : f.Ok G) : (Tr.fork c t f).Ok G := fork_ok (fun h => absurd (hc.symm.trans h) (by decide)) (fun _ => hf)
theorem Sy.WR.cutRow {w0 : World} {ρ : Rho} {M : Mem} {w : World} (h : WR w0 ρ M w) {b n n' s e : Nat} {cs : List AV} {cell : Nat → Nat → AV} (hb : M.get b = some ⟨cs, e, some ⟨n, s, cell⟩⟩) (hn : n' ≤ n) : WR w0 ρ (M.put b (some ⟨cs, e, some ⟨n', s, cell⟩⟩)) w := by
  have hlt := Mem.get_lt hb
  refine ⟨h.keep, fun c g hc => by rw [Mem.put_def]; exact h.dom c g hc, fun c hc => by rw [Mem.put_def]; exact h.nild c hc, fun c B g tot h1 h2 => ?_, fun c B h1 => ?_, fun c c' B B' g t t' h1 h2 h3 h4 => ?_, h.still, h.first, fun c B g t h1 h2 => ?_⟩
  · rcases Mem.get_put hlt h1 with ⟨rfl, e1⟩ | ⟨_, e1⟩
    · simp only [Option.some.injEq] at e1
      subst e1
      obtain ⟨r1, cur, r2, r3, r4, r5⟩ := h.blk _ _ g tot hb h2
      exact ⟨r1, cur, r2, r3, r4, fun R hR i j hi hj => by
        simp only [Option.some.injEq] at hR
        subst hR
        exact r5 _ rfl i j (by simp only at hi ⊢; omega) hj⟩
    · exact h.blk c B g tot e1 h2
  · rcases Mem.get_put hlt h1 with ⟨rfl, e1⟩ | ⟨_, e1⟩
    · simp only [Option.some.injEq] at e1
      subst e1
      rcases h.has _ _ hb with q | ⟨q1, q2, R, q3, q4⟩
      · exact .inl q
      · simp only [Option.some.injEq] at q3
        subst q3
        exact .inr ⟨q1, q2, _, rfl, by simp only at q4 ⊢; omega⟩
    · exact h.has c B e1
  · have hx : ∀ x X, (M.put b (some ⟨cs, e, some ⟨n', s, cell⟩⟩)).get x = some X → ∃ Y, M.get x = some Y := fun x X hx => by
      rcases Mem.get_put hlt hx with ⟨rfl, _⟩ | ⟨_, e1⟩
      · exact ⟨_, hb⟩
      · exact ⟨_, e1⟩
    obtain ⟨Y, hY⟩ := hx c B h1
    obtain ⟨Y', hY'⟩ := hx c' B' h2
    exact h.inj c c' Y Y' g t t' hY hY' h3 h4
  · rcases Mem.get_put hlt h1 with ⟨rfl, _⟩ | ⟨_, e1⟩
    · exact h.apart _ _ g t hb h2
    · exact h.apart c B g t e1 h2
theorem Sy.LoopToT.cutRow {T : Nat} {P : Program} {body : Code} {m : Nat} {F : Fr} {M : Mem} {G : Ex → Fr → Mem → Prop} (b : Nat) {n : Nat} (n' : Nat) {s e : Nat} {cs : List AV} {cell : Nat → Nat → AV} (hb : M.get b = some ⟨cs, e, some ⟨n, s, cell⟩⟩) (hn : n' ≤ n) (h : LoopToT T P body m F (M.put b (some ⟨cs, e, some ⟨n', s, cell⟩⟩)) G) : LoopToT T P body m F M G :=
  fun w0 ρ a w Q hF hW hQ => h w0 ρ a w Q hF (hW.cutRow hb hn) hQ
def lastI (os : List Int) : Int := if eqI (os.length : Nat) 0 = true then -1 else os.getD (os.length - 1) 0
def putN (n : NdV) (os : List Int) : NdV := ⟨lastI os, n.tag, n.id, n.cls, n.atts, n.text⟩
def wordN (n : NdV) (os : List Int) : NdV := ⟨lastI os, ⟨#[]⟩, ⟨#[]⟩, [], [], n.text⟩
def canOpen (o : OpV) (ns : List NdV) (os : List Int) : Bool := !(!(leI (ns.length : Nat) 0) && eqI (os.length : Nat) 0) && (!(bytesEq o.nd.tag.data.toList (ByteArray.mk #[]).data.toList) && (ndB o.nd && !(eqI (os.length : Nat) 64)))
def canWord (o : OpV) (os : List Int) : Bool := !(eqI (os.length : Nat) 0) && (textL o.nd.text.data.toList && !(eqI (os.length : Nat) 64))
def stepN (o : OpV) (ns : List NdV) (os : List Int) : List NdV := if eqI o.kind 0 = true then (if canOpen o ns os = true then ns ++ [putN o.nd os] else ns) else if eqI o.kind 1 = true then (if canWord o os = true then ns ++ [wordN o.nd os] else ns) else ns
def stepO (o : OpV) (ns : List NdV) (os : List Int) : List Int := if eqI o.kind 0 = true then (if canOpen o ns os = true then os ++ [(ns.length : Int)] else os) else if eqI o.kind 1 = true then os else os.dropLast
namespace Sy
def NRows (n : Nat) (c : Nat → Nat → AV) (ns : List NdV) : Prop := n = ns.length ∧ ∀ (σ : Nat → Option Nat) i j, i < n → j < 6 → RenV σ (c i j) (ndcell ns i j)
theorem ndA_free (n : NdV) (j : Nat) : Free (ndA n j) := by
  unfold ndA
  split
  · trivial
  · trivial
  · trivial
  · exact viewOf_free _ _ _ _
  · exact viewOf_free _ _ _ _
  · trivial
theorem NRows.base (ns : List NdV) : NRows ns.length (ndcell ns) ns := ⟨rfl, fun σ i j _ _ => RenV.free σ (ndA_free _ j)⟩
theorem NRows.app1 {n : Nat} {c c' : Nat → Nat → AV} {ns : List NdV} (x : NdV) (h : NRows n c ns) (hx : ∀ (σ : Nat → Option Nat) j, j < 6 → RenV σ (c' 0 j) (ndA x j)) : NRows (n + 1) (appc n c c') (ns ++ [x]) := ⟨by rw [h.1]; simp, fun σ i j hi hj => by
  have hl := h.1
  by_cases hlt : i < n
  · rw [appc_lt hlt]
    have : (ns ++ [x]).getD i ndNone = ns.getD i ndNone := by
      simp only [List.getD_eq_getElem?_getD]
      rw [List.getElem?_append_left (by omega)]
    have h3 := h.2 σ i j hlt hj
    unfold ndcell at h3 ⊢
    rw [this]
    exact h3
  · have e : i = n := by omega
    subst e
    rw [appc_ge (Nat.le_refl _), Nat.sub_self]
    have : (ns ++ [x]).getD i ndNone = x := by
      simp only [List.getD_eq_getElem?_getD]
      rw [List.getElem?_append_right (by omega), hl, Nat.sub_self]; rfl
    unfold ndcell
    rw [this]
    exact hx σ j hj⟩
def ZRows (n : Nat) (c : Nat → Nat → AV) (os : List Int) : Prop := n = os.length ∧ ∀ i j, i < n → j < 1 → c i j = zcell os i j
theorem ZRows.base (os : List Int) : ZRows os.length (zcell os) os := ⟨rfl, fun i j _ _ => rfl⟩
theorem ZRows.app1 {n : Nat} {c c' : Nat → Nat → AV} {os : List Int} (x : Int) (h : ZRows n c os) (hx : c' 0 0 = int x) : ZRows (n + 1) (appc n c c') (os ++ [x]) := ⟨by rw [h.1]; simp, fun i j hi hj => by
  have hl := h.1
  obtain rfl : j = 0 := by omega
  by_cases hlt : i < n
  · rw [appc_lt hlt, h.2 i 0 hlt hj]
    unfold zcell
    simp only [List.getD_eq_getElem?_getD]
    rw [List.getElem?_append_left (by omega)]
  · have e : i = n := by omega
    subst e
    rw [appc_ge (Nat.le_refl _), Nat.sub_self, hx]
    unfold zcell
    simp only [List.getD_eq_getElem?_getD]
    rw [List.getElem?_append_right (by omega), hl, Nat.sub_self]; rfl⟩
theorem ZRows.cut {n : Nat} {os : List Int} (h : n = os.length - 1) : ZRows n (zcell os) os.dropLast := ⟨by rw [h, List.length_dropLast], fun i j hi hj => by
  unfold zcell
  simp only [List.getD_eq_getElem?_getD]
  rw [List.getElem?_dropLast, if_pos (by omega)]⟩
abbrev tbG (l : List OpV) (a n b m : Nat) (k : Int) : Fr := (some ((@AV.view (l).length 7 (@ocell l))) :: none :: some ((boo false)) :: some (.ptr 0 0) :: some (.own a n 6) :: some (.own b m 1) :: some (int k) :: (nn41 (nn48 (nn48 []))))
theorem tbF_ren (l : List OpV) (σ : List Nat) {a n n' b m m' : Nat} {k k' : Int} (h0 : σ[0]? = some 0) (h3 : σ[3]? = some a) (h4 : σ[4]? = some b) (hn : n = n') (hm : m = m') (hk : k = k') : RenF (nm σ) (tbG l a n b m k) (tbF l n' m' k') := by
  subst hn hm hk
  simp only [RenF, and_true]
  exact ⟨RenV.free _ (oview_free l), rfl, ⟨h0, rfl⟩, ⟨h3, rfl, rfl⟩, ⟨h4, rfl, rfl⟩, rfl⟩
theorem tbM_ren {M : Mem} {ns : List NdV} {os : List Int} {a b c d na nb nc nd : Nat} {ca cb cc cd : Nat → Nat → AV} (hd : [0, a, b, c, d].Nodup) (h0 : M.get 0 = some ⟨[.own a na 6, .own b nb 1], 47, none⟩)
    (h1 : M.get a = some ⟨[], 30, some ⟨na, 6, ca⟩⟩) (h2 : M.get b = some ⟨[], 3, some ⟨nb, 1, cb⟩⟩) (h3 : M.get c = some ⟨[], 30, some ⟨nc, 6, cc⟩⟩) (h4 : M.get d = some ⟨[], 3, some ⟨nd, 1, cd⟩⟩)
    (r1 : NRows na ca ns) (r2 : ZRows nb cb os) (r3 : NRows nc cc ns) (r4 : ZRows nd cd os) : RenM (nm [0, a, b, c, d]) M (tbM ns os) := by
  have z : ∀ {n : Nat} {cz : Nat → Nat → AV}, ZRows n cz os → RenR (nm [0, a, b, c, d]) (some ⟨n, 1, cz⟩) (some ⟨os.length, 1, zcell os⟩) := fun h => ⟨h.1.symm, rfl, fun i j hi hj => by
    show RenV _ (_ : AV) _
    simp only at hi hj ⊢
    rw [h.2 i j (by have := h.1; omega) hj]
    exact RenV.free _ trivial⟩
  have y : ∀ {n : Nat} {cz : Nat → Nat → AV}, NRows n cz ns → RenR (nm [0, a, b, c, d]) (some ⟨n, 6, cz⟩) (some ⟨ns.length, 6, ndcell ns⟩) := fun h => ⟨h.1.symm, rfl, fun i j hi hj => h.2 _ i j (by have := h.1; simp only at hi; omega) hj⟩
  refine .of rfl rfl hd ⟨⟨d, _, rfl, h4, rfl, trivial, z r4⟩, ⟨c, _, rfl, h3, rfl, trivial, y r3⟩, ⟨b, _, rfl, h2, rfl, trivial, z r2⟩, ⟨a, _, rfl, h1, rfl, trivial, y r1⟩, ⟨0, _, rfl, h0, rfl, ⟨⟨rfl, r1.1, rfl⟩, ⟨rfl, r2.1, rfl⟩, trivial⟩, trivial⟩, trivial⟩
end Sy
theorem Sy.idx_last {os : List Int} (ho : os.length ≤ 64) (h : eqI ((os.length : Nat) : Int) 0 = false) : inR (w64 ((os.length : Nat) - 1 : Int)) os.length = true ∧ Nat.blt (w64 ((os.length : Nat) - 1 : Int)).toNat os.length = true ∧ (∀ σ, RenV σ (zcell os (w64 ((os.length : Nat) - 1 : Int)).toNat 0) (int (lastI os))) ∧ (w64 ((os.length : Nat) - 1 : Int)).toNat = os.length - 1 ∧ (true && (leI 0 (w64 ((os.length : Nat) - 1 : Int)) && leI (w64 ((os.length : Nat) - 1 : Int)) (os.length : Nat))) = true := by
  have h' := h
  rw [eqI_f] at h'
  have e : w64 ((os.length : Nat) - 1 : Int) = (os.length : Int) - 1 := w64_in (by omega)
  have e2 : ((os.length : Int) - 1).toNat = os.length - 1 := by omega
  rw [e, e2]
  refine ⟨by rw [inR_t]; omega, by rw [Nat.blt_eq]; omega, fun σ => ?_, rfl, ?_⟩
  · unfold lastI zcell
    rw [if_neg (by rw [h]; decide)]
    exact RenV.free σ trivial
  · simp only [Bool.true_and, Bool.and_eq_true, leI_t]; omega
theorem Sy.par_none {os : List Int} (h : eqI ((os.length : Nat) : Int) 0 = true) (σ : Nat → Option Nat) : RenV σ (int (-1)) (int (lastI os)) := by
  unfold lastI
  rw [if_pos h]
  exact RenV.free σ trivial
theorem elem_lens {n : NdV} (h : elemB n = true) : n.cls.length ≤ 1024 ∧ n.atts.length ≤ 1024 := by
  unfold elemB at h
  simp only [Bool.and_eq_true, leI_t] at h
  omega
theorem Sy.tb_step (l : List OpV) (ns : List NdV) (os : List Int) (k : Int) (n : Nat) (G : Ex → Fr → Mem → Prop) (h0 : 0 ≤ k) (hk : k ≤ l.length) (hl : l.length ≤ 17592186044416) (hok : ∀ o ∈ l, o.nd.Ok) (hn : (ns.length : Int) ≤ k) (ho : os.length ≤ 64)
    (c1 : k < l.length → k < 300 → LoopToT 1 Try.prog (theBody Try.prog 3 6) n (tbF l (stepN (l.getD k.toNat opNone) ns os).length (stepO (l.getD k.toNat opNone) ns os).length (k + 1)) (tbM (stepN (l.getD k.toNat opNone) ns os) (stepO (l.getD k.toNat opNone) ns os)) G)
    (c2 : ¬ (k < l.length ∧ k < 300) → G (.exit 0) (tbF l ns.length os.length k) (tbM ns os)) :
    LoopToT 1 Try.prog (theBody Try.prog 3 6) (n + 1) (tbF l ns.length os.length k) (tbM ns os) G := by
  refine roundT plain mixed 1 [cElm1 (opN l k), cRgt (opN l k), cText, cTextR, cClS (opN l k).cls, cClA (opN l k).atts] [] 400 30 3 6 Try.func3 rfl (by kernel_rfl) (true :: false :: true :: true :: true :: true :: true :: (ff41 (ff48 (ff48 [])))) (.br (.auto 1 (.br (.yes (.yes (.br (.auto 0 (.br (.auto 5 (.br (.auto 0 (.yes (.auto 1 (.br (.yes (.auto 2 (.yes (.auto 2 (.br (.auto 0 (.yes (.auto 1 (.br (.auto 0 .done) (.br (.auto 0 .done) (.br (.yes (.yes (.yes (.yes (.yes (.auto 0 .done)))))) (.yes (.yes (.yes (.auto 0 .done)))))))))) (.auto 4 .done)))))) (.br (.auto 0 (.yes (.auto 2 (.yes (.auto 2 (.br (.auto 0 (.yes (.auto 1 (.br (.auto 0 .done) (.br (.auto 0 .done) (.br (.yes (.yes (.yes (.yes (.yes (.auto 0 .done)))))) (.yes (.yes (.yes (.auto 0 .done)))))))))) (.auto 4 .done))))))) (.br (.auto 0 (.yes (.auto 2 (.yes (.auto 2 (.br (.auto 0 (.yes (.auto 1 (.br (.auto 0 .done) (.br (.auto 0 .done) (.br (.yes (.yes (.yes (.yes (.yes (.auto 0 .done)))))) (.yes (.yes (.yes (.auto 0 .done)))))))))) (.auto 4 .done))))))) (.auto 0 (.yes (.yes (.br (.yes (.yes (.yes (.yes (.yes (.auto 2 (.yes (.auto 2 (.br (.auto 0 (.yes (.auto 1 (.br (.auto 0 .done) (.br (.auto 0 .done) (.yes (.yes (.yes (.yes (.yes (.yes (.auto 0 .done)))))))))))) (.auto 4 .done)))))))))) (.yes (.yes (.yes (.auto 2 (.yes (.auto 2 (.br (.auto 0 (.yes (.auto 1 (.br (.auto 0 .done) (.br (.auto 0 .done) (.no (.yes (.yes (.yes (.auto 0 .done)))))))))) (.auto 4 .done)))))))))))))))))) (.auto 3 (.yes (.auto 2 (.no (.auto 8 .done))))))) (.auto 7 (.yes (.auto 1 (.br (.no (.auto 6 (.br (.auto 0 (.yes (.auto 1 (.br (.auto 0 .done) (.br (.auto 0 .done) (.br (.yes (.yes (.yes (.yes (.yes (.auto 0 .done)))))) (.yes (.yes (.yes (.auto 0 .done)))))))))) (.auto 4 .done)))) (.br (.auto 0 (.no (.auto 6 (.br (.auto 0 (.yes (.auto 1 (.br (.auto 0 .done) (.br (.auto 0 .done) (.br (.yes (.yes (.yes (.yes (.yes (.auto 0 .done)))))) (.yes (.yes (.yes (.auto 0 .done)))))))))) (.auto 4 .done))))) (.br (.auto 0 (.no (.auto 6 (.br (.auto 0 (.yes (.auto 1 (.br (.auto 0 .done) (.br (.auto 0 .done) (.br (.yes (.yes (.yes (.yes (.yes (.auto 0 .done)))))) (.yes (.yes (.yes (.auto 0 .done)))))))))) (.auto 4 .done))))) (.auto 0 (.yes (.yes (.br (.yes (.yes (.yes (.yes (.no (.auto 6 (.br (.auto 0 (.yes (.auto 1 (.br (.auto 0 .done) (.br (.auto 0 .done) (.yes (.yes (.yes (.yes (.yes (.yes (.auto 0 .done)))))))))))) (.auto 4 .done)))))))) (.yes (.yes (.no (.auto 6 (.br (.auto 0 (.yes (.auto 1 (.br (.auto 0 .done) (.br (.auto 0 .done) (.no (.yes (.yes (.yes (.auto 0 .done)))))))))) (.auto 4 .done)))))))))))))))))) (.br (.auto 0 (.br (.auto 0 (.yes (.auto 1 (.br (.yes (.auto 1 (.yes (.auto 1 (.yes (.auto 0 .done)))))) (.br (.auto 0 (.yes (.auto 1 (.yes (.auto 1 (.no (.br (.auto 0 .done) (.br (.yes (.yes (.yes (.yes (.auto 0 .done))))) (.yes (.yes (.auto 0 .done))))))))))) (.br (.auto 0 (.yes (.auto 1 (.yes (.auto 1 (.no (.br (.auto 0 .done) (.br (.yes (.yes (.yes (.yes (.auto 0 .done))))) (.yes (.yes (.auto 0 .done))))))))))) (.auto 0 (.yes (.yes (.br (.yes (.yes (.yes (.yes (.auto 1 (.yes (.auto 1 (.no (.br (.auto 0 .done) (.yes (.yes (.yes (.yes (.yes (.auto 0 .done))))))))))))))) (.yes (.yes (.auto 1 (.yes (.auto 1 (.no (.br (.auto 0 .done) (.no (.yes (.yes (.auto 0 .done))))))))))))))))))))) (.auto 3 (.no (.auto 5 .done))))) (.auto 0 (.br (.yes (.auto 0 .done)) (.yes (.no (.yes (.auto 0 .done)))))))))) .done)) (.auto 2 .done)) (let e1 := (0 : Int); let e2 := (!(leI (((ns).length : Nat) : Int) e1)); let e3 := (((os).length : Nat) : Int); let e4 := (!(eqI e3 e1)); let e5 := (((l.getD (k).toNat opNone)).nd); let e6 := (int e5.par); let e7 := (@AV.lit (@Value.string e5.tag)); let e8 := (@AV.lit (@Value.string e5.id)); let e9 := (@ByteArray.mk (@Array.mk _ [])); let e10 := (@Value.tuple (@Array.mk _ [])); let e11 := (@AV.view (e5.cls).length 1 (fun y0 => (fun y1 => (@AV.lit ([(@Value.string (e5.cls.getD y0 e9))].getD y1 e10))))); let e12 := (@AV.view (e5.atts).length 2 (fun y0 => (fun y1 => (@AV.lit ([(@Value.string ((e5.atts.getD y0 attrNone)).name), (@Value.string ((e5.atts.getD y0 attrNone)).value)].getD y1 e10))))); let e13 := (@AV.lit (@Value.string e5.text)); let e14 := (((@opN l k)).cls); let e15 := (@AV.view e14.length 1 (fun y0 => (fun y1 => (@AV.lit ([(@Value.string (((@opN l k)).cls.getD y0 e9))].getD y1 e10))))); let e16 := (((@opN l k)).atts); let e17 := (@AV.view e16.length 2 (fun y0 => (fun y1 => (@AV.lit ([(@Value.string ((((@opN l k)).atts.getD y0 attrNone)).name), (@Value.string ((((@opN l k)).atts.getD y0 attrNone)).value)].getD y1 e10))))); let e18 := (@AV.agg [(int ((@opN l k)).par), (@AV.lit (@Value.string ((@opN l k)).tag)), (@AV.lit (@Value.string ((@opN l k)).id)), e15, e17, (@AV.lit (@Value.string ((@opN l k)).text))]); let e19 := (!(@bytesEq (@Array.toList _ (@ByteArray.data e5.tag)) (@Array.toList _ (@ByteArray.data e9)))); let e20 := (int e1); let e21 := (@Value.string e9); let e22 := (@AV.lit e21); let e23 := (@Value.slice none 0 0); let e24 := (@AV.lit e23); let e25 := (e6 :: e7 :: e8 :: e11 :: e12 :: e13 :: (@List.drop _ (0 + ([e6, e7, e8, e11, e12, e13]).length) [e20, e22, e22, e24, e24, e22])); let e26 := (!(@ndB (@opN l k))); let e27 := (some (@AV.view (l).length 7 (@ocell l))); let e28 := (some (boo false)); let e29 := (some (@AV.ptr 0 0)); let e30 := (some (@AV.own 3 (ns).length 6)); let e31 := (some (@AV.own 4 (os).length 1)); let e32 := (some (int (w64 (k + (1 : Int))))); let e33 := (some (@Blk.mk [e6, e7, e8, e11, e12, e13] 30 none)); let e34 := (some (@Blk.mk e25 30 none)); let e35 := (some (@Blk.mk [] 3 (some (@Rw.mk (os).length 1 (@zcell os))))); let e36 := (@ndcell ns); let e37 := (some (@Blk.mk [] 30 (some (@Rw.mk (ns).length 6 e36)))); let e38 := (@AV.own 2 (os).length 1); let e39 := (some (@Blk.mk [(@AV.own 1 (ns).length 6), e38] 47 none)); let e40 := (@Mem.mk ((5 + 1) + 1) (0 + 1) (e33 :: [e34, e35, e37, e35, e37, e39])); let e41 := (eqI e3 (64 : Int)); let e42 := (some (int k)); let e43 := (!(leI e3 e1)); let e44 := (w64 (e3 - (1 : Int))); let e45 := (@inR e44 (os).length); let e46 := (@Nat.blt (e44).toNat (os).length); let e47 := ((@Option.rec _ (fun _ => Bool) true (fun y0 => (@Option.rec _ (fun _ => Bool) true (fun y1 => (@Nat.ble (ns).length (y1).n)) (y0).rows)) e37) && ((@Nat.ble ((ns).length * 104) 140737488355328) && (@Nat.ble (ns).length 17592186044416))); let e48 := ((ns).length + 1); let e49 := (Bool.true && ((@Nat.ble (ns).length (ns).length) && ((@Nat.ble (e48 * 104) 140737488355328) && (@Nat.ble e48 17592186044416)))); let e50 := ((os).length + 1); let e51 := (Bool.true && ((@Nat.ble (os).length (os).length) && ((@Nat.ble (e50 * 8) 140737488355328) && (@Nat.ble e50 17592186044416)))); let e52 := (((((5 + 1) + 1) + 1) + 1) + 1); let e53 := (e52 + 1); let e54 := (@AV.own e53 e48 6); let e55 := (@AV.own ((e53 + 1) + 1) e50 1); let e56 := (((e53 + 1) + 1) + 1); let e57 := (((((0 + 1) + 1) + 1) + 1) + 1); let e58 := (int (w64 (((e48 : Nat) : Int) - (1 : Int)))); let e59 := (e58 :: (@List.drop _ (0 + ([e58]).length) (@List.map _ _ AV.lit (@Array.toList _ (@Array.mk _ [(@List.get _ (@Array.toList _ (@Array.mk _ [(@Value.int IntKind.i64 e1)])) (@Fin.mk _ 0 (@Nat.le_of_ble_eq_true _ _ (@Eq.refl _ true))))]))))); let e60 := (some (@Blk.mk [] 3 (some (@Rw.mk e50 1 (@appc (os).length (@zcell os) (fun y0 => (fun y1 => (@getA (@List.take _ 1 e59) ((y0 * 1) + y1))))))))); let e61 := (some (@Blk.mk e59 3 none)); let e62 := (int (os.getD (e44).toNat e1)); let e63 := (@AV.view (e5.cls).length 1 (fun y2 => (fun y3 => (@AV.lit ([(@Value.string (e5.cls.getD y2 e9))].getD y3 e10))))); let e64 := (@AV.view (e5.atts).length 2 (fun y2 => (fun y3 => (@AV.lit ([(@Value.string ((e5.atts.getD y2 attrNone)).name), (@Value.string ((e5.atts.getD y2 attrNone)).value)].getD y3 e10))))); let e65 := (@Array.toList _ (@Array.mk _ [(@Value.int IntKind.i64 e1), e21, e21, e23, e23, e21])); let e66 := (@List.map _ _ AV.lit (@Array.toList _ (@Array.mk _ [(@List.get _ e65 (@Fin.mk _ 0 (@Nat.le_of_ble_eq_true _ _ (@Eq.refl _ true)))), (@List.get _ e65 (@Fin.mk _ 1 (@Nat.le_of_ble_eq_true _ _ (@Eq.refl _ true)))), (@List.get _ e65 (@Fin.mk _ 2 (@Nat.le_of_ble_eq_true _ _ (@Eq.refl _ true)))), (@List.get _ e65 (@Fin.mk _ 3 (@Nat.le_of_ble_eq_true _ _ (@Eq.refl _ true)))), (@List.get _ e65 (@Fin.mk _ 4 (@Nat.le_of_ble_eq_true _ _ (@Eq.refl _ true)))), (@List.get _ e65 (@Fin.mk _ 5 (@Nat.le_of_ble_eq_true _ _ (@Eq.refl _ true))))]))); let e67 := (some (@Blk.mk [] 30 (some (@Rw.mk e48 6 (@appc (ns).length e36 (fun y0 => (fun y1 => (@getA (@List.take _ 6 (e62 :: (e7 :: e8 :: e63 :: e64 :: e13 :: (@List.drop _ (0 + ((e62 :: [e7, e8, e63, e64, e13])).length) e66)))) ((y0 * 6) + y1))))))))); let e68 := (some (@Blk.mk (e62 :: (e7 :: e8 :: e11 :: e12 :: e13 :: (@List.drop _ (0 + ((e62 :: [e7, e8, e11, e12, e13])).length) e66))) 30 none)); let e69 := (0 + ([e62]).length); let e70 := (int (-1 : Int)); let e71 := (e70 :: (@List.drop _ 1 e25)); let e72 := (some (@Blk.mk (e62 :: (@List.drop _ e69 e71)) 30 none)); let e73 := (some (@Blk.mk [] 30 (some (@Rw.mk e48 6 (@appc (ns).length e36 (fun y0 => (fun y1 => (@getA (@List.take _ 6 (e70 :: (e7 :: e8 :: e63 :: e64 :: e13 :: (@List.drop _ (0 + ((e70 :: [e7, e8, e63, e64, e13])).length) e66)))) ((y0 * 6) + y1))))))))); let e74 := (some (@Blk.mk (e70 :: (e7 :: e8 :: e11 :: e12 :: e13 :: (@List.drop _ (0 + ((e70 :: [e7, e8, e11, e12, e13])).length) e66))) 30 none)); let e75 := (leI (1024 : Int) (((ns).length : Nat) : Int)); let e76 := (leI (64 : Int) e3); let e77 := (@isSo (@And ((@HAppend.hAppend _ _ _ _ (@HAppend.hAppend _ _ _ _ [] [e11]) []) = [e15]) (@Or (false = true) (e14.length ≤ 1024)))); let e78 := (@isSo (@And ((@HAppend.hAppend _ _ _ _ (@HAppend.hAppend _ _ _ _ [] [e12]) []) = [e17]) (@Or (false = true) (e16.length ≤ 1024)))); let e79 := (((((e57 + 1) + 1) + 1) + 1) + 1); let e80 := (@AV.view e14.length 1 (fun y2 => (fun y3 => (@AV.lit ([(@Value.string (((@opN l k)).cls.getD y2 e9))].getD y3 e10))))); let e81 := (@AV.view e16.length 2 (fun y2 => (fun y3 => (@AV.lit ([(@Value.string ((((@opN l k)).atts.getD y2 attrNone)).name), (@Value.string ((((@opN l k)).atts.getD y2 attrNone)).value)].getD y3 e10))))); let e82 := (e7 :: e8 :: e80 :: e81 :: [e13]); let e83 := (some (@Blk.mk [] 30 (some (@Rw.mk e48 6 (@appc (ns).length e36 (fun y0 => (fun y1 => (@getA (@List.take _ 6 (e62 :: (e7 :: e8 :: e80 :: e81 :: (e13 :: (@List.drop _ (0 + ((e62 :: e82)).length) e66))))) ((y0 * 6) + y1))))))))); let e84 := (e7 :: e8 :: e15 :: e17 :: [e13]); let e85 := (some (@Blk.mk (e62 :: (e7 :: e8 :: e15 :: e17 :: (e13 :: (@List.drop _ (0 + ((e62 :: e84)).length) e66)))) 30 none)); let e86 := (0 + ((e6 :: e7 :: e8 :: e15 :: e17 :: [e13])).length); let e87 := (some (@Blk.mk (e6 :: e7 :: e8 :: e15 :: e17 :: (e13 :: (@List.drop _ e86 [e20, e22, e22, e24, e24, e22]))) 30 none)); let e88 := (some (@Blk.mk (e6 :: e7 :: e8 :: e15 :: e17 :: (@List.drop _ (4 + ([e17]).length) (e6 :: e7 :: e8 :: e15 :: (@List.drop _ (3 + ([e15]).length) [e6, e7, e8, e11, e12, e13])))) 30 none)); let e89 := (e70 :: (@List.drop _ 1 (e6 :: e7 :: e8 :: e15 :: e17 :: (e13 :: (@List.drop _ e86 [e6, e7, e8, e11, e12, e13]))))); let e90 := (some (@Blk.mk (e62 :: (@List.drop _ e69 e89)) 30 none)); let e91 := (some (@Blk.mk (e54 :: e55 :: (@List.drop _ (1 + ([e55]).length) [e54, e38])) 47 none)); let e92 := (some (@AV.own ((((e56 + 1) + 1) + 1) + 1) e48 6)); let e93 := ((((((e56 + 1) + 1) + 1) + 1) + 1) + 1); let e94 := (some (@Blk.mk [] 30 (some (@Rw.mk e48 6 (@appc (ns).length e36 (fun y0 => (fun y1 => (@getA (@List.take _ 6 (e70 :: (e7 :: e8 :: e80 :: e81 :: (e13 :: (@List.drop _ (0 + ((e70 :: e82)).length) e66))))) ((y0 * 6) + y1))))))))); let e95 := (some (@Blk.mk (e70 :: (e7 :: e8 :: e15 :: e17 :: (e13 :: (@List.drop _ (0 + ((e70 :: e84)).length) e66)))) 30 none)); let e96 := (@isSo ((@ByteArray.size e5.text) ≤ 9223372036854775807)); let e97 := (!(@Pl.textL (@Array.toList _ (@ByteArray.data e5.text)))); let e98 := (@Mem.mk (5 + 1) (0 + 1) [e34, e35, e37, e35, e37, e39]); let e99 := (e22 :: e22 :: e24 :: e24 :: [e13]); let e100 := (e62 :: (e22 :: e22 :: e24 :: e24 :: (e13 :: (@List.drop _ (0 + ((e62 :: e99)).length) e66)))); let e101 := (some (@Blk.mk [] 30 (some (@Rw.mk e48 6 (@appc (ns).length e36 (fun y0 => (fun y1 => (@getA (@List.take _ 6 e100) ((y0 * 6) + y1))))))))); let e102 := (some (@Blk.mk e100 30 none)); let e103 := (e20 :: e22 :: e22 :: e24 :: e24 :: [e13]); let e104 := (e70 :: (@List.drop _ 1 (e20 :: e22 :: e22 :: e24 :: e24 :: (e13 :: (@List.drop _ (0 + (e103).length) [e20, e22, e22, e24, e24, e22]))))); let e105 := (some (@Blk.mk (e62 :: (@List.drop _ e69 e104)) 30 none)); let e106 := (e20 :: e22 :: e22 :: e24 :: e24 :: (e13 :: (@List.drop _ (5 + ([e13]).length) (@List.map _ _ AV.lit e65)))); let e107 := (some (@Blk.mk e106 30 none)); let e108 := (e70 :: (e22 :: e22 :: e24 :: e24 :: (e13 :: (@List.drop _ (0 + ((e70 :: e99)).length) e66)))); let e109 := (some (@Blk.mk [] 30 (some (@Rw.mk e48 6 (@appc (ns).length e36 (fun y0 => (fun y1 => (@getA (@List.take _ 6 e108) ((y0 * 6) + y1))))))))); let e110 := (some (@Blk.mk e108 30 none)); let e111 := (some (@Blk.mk e104 30 none)); let e112 := ((@HAppend.hAppend _ _ _ _ (@HAppend.hAppend _ _ _ _ [] [e24]) []) = [e24]); let e113 := (@AV.view 0 1 (fun y2 => (fun y3 => (@AV.lit ([(@Value.string ([].getD y2 e9))].getD y3 e10))))); let e114 := (@AV.view 0 2 (fun y2 => (fun y3 => (@AV.lit ([(@Value.string (([].getD y2 attrNone)).name), (@Value.string (([].getD y2 attrNone)).value)].getD y3 e10))))); let e115 := (e22 :: e22 :: e113 :: e114 :: [e13]); let e116 := (@AV.view 0 1 (fun y0 => (fun y1 => (@AV.lit ([(@Value.string ([].getD y0 e9))].getD y1 e10))))); let e117 := (@AV.view 0 2 (fun y0 => (fun y1 => (@AV.lit ([(@Value.string (([].getD y0 attrNone)).name), (@Value.string (([].getD y0 attrNone)).value)].getD y1 e10))))); let e118 := (e22 :: e22 :: e116 :: e117 :: [e13]); let e119 := (0 + ((e20 :: e22 :: e22 :: e116 :: e117 :: [e13])).length); let e120 := (some (@Blk.mk (e20 :: e22 :: e22 :: e116 :: e117 :: (e13 :: (@List.drop _ e119 [e20, e22, e22, e24, e24, e22]))) 30 none)); let e121 := (some (@Blk.mk (e20 :: e22 :: e22 :: e116 :: e117 :: (@List.drop _ (4 + ([e117]).length) (e20 :: e22 :: e22 :: e116 :: (@List.drop _ (3 + ([e116]).length) e103)))) 30 none)); let e122 := (e70 :: (@List.drop _ 1 (e20 :: e22 :: e22 :: e116 :: e117 :: (e13 :: (@List.drop _ e119 e106))))); let e123 := (some (@Blk.mk [(@AV.own e52 e48 6), e38] 47 none)); let e124 := ((some (@Blk.mk [] 30 (some (@Rw.mk e48 6 (@appc (ns).length e36 (fun y0 => (fun y1 => (@getA (@List.take _ 6 (e62 :: (e22 :: e22 :: e113 :: e114 :: (e13 :: (@List.drop _ (0 + ((e62 :: e115)).length) e66))))) ((y0 * 6) + y1))))))))) :: ((some (@Blk.mk (e62 :: (e22 :: e22 :: e116 :: e117 :: (e13 :: (@List.drop _ (0 + ((e62 :: e118)).length) e66)))) 30 none)) :: (e120 :: e121 :: (some (@Blk.mk (e62 :: (@List.drop _ e69 e122)) 30 none)) :: [e34, e35, e37, e35, none, e123]))); let e125 := (some (@AV.own (e56 + 1) e48 6)); let e126 := ((some (@Blk.mk [] 30 (some (@Rw.mk e48 6 (@appc (ns).length e36 (fun y0 => (fun y1 => (@getA (@List.take _ 6 (e70 :: (e22 :: e22 :: e113 :: e114 :: (e13 :: (@List.drop _ (0 + ((e70 :: e115)).length) e66))))) ((y0 * 6) + y1))))))))) :: ((some (@Blk.mk (e70 :: (e22 :: e22 :: e116 :: e117 :: (e13 :: (@List.drop _ (0 + ((e70 :: e118)).length) e66)))) 30 none)) :: (e120 :: e121 :: (some (@Blk.mk e122 30 none)) :: [e34, e35, e37, e35, none, e123]))); let e127 := (true && ((leI e1 e44) && (leI e44 e3))); (.fork (!(leI (((l).length : Nat) : Int) k)) (.fork (!(leI (300 : Int) k)) (.need (@inR k (l).length) (.need (@inR k (l).length) (.fork (eqI ((l.getD (k).toNat opNone)).kind e1) (.fork e2 (.fork e4 (.need (@isSo (@And ((@HAppend.hAppend _ _ _ _ (@HAppend.hAppend _ _ _ _ [] [(@AV.agg (@List.take _ 6 [e6, e7, e8, e11, e12, e13]))]) []) = [e18]) (@And ((@ByteArray.size ((@opN l k)).tag) ≤ 9223372036854775807) (@And ((@ByteArray.size ((@opN l k)).id) ≤ 9223372036854775807) (@And (@And (e14.length ≤ 17592186044416) (∀ (s : ByteArray), s ∈ (opN l k).cls → s.size ≤ maxLen)) (@And (@And (e16.length ≤ 17592186044416) (∀ (t : AttrV), t ∈ (opN l k).atts → t.Ok)) ((@ByteArray.size ((@opN l k)).text) ≤ 9223372036854775807))))))) (.fork (!(@elemB (@opN l k))) (.need e2 (.need e4 (.fork e19 (.need (@isSo (@And ((@HAppend.hAppend _ _ _ _ (@HAppend.hAppend _ _ _ _ [] [(@AV.agg (@List.take _ 6 e25))]) []) = [e18]) (@And ((@ByteArray.size ((@opN l k)).tag) ≤ 9223372036854775807) (@And ((@ByteArray.size ((@opN l k)).id) ≤ 9223372036854775807) (@And (@And (e14.length ≤ 17592186044416) (∀ (s : ByteArray), s ∈ (opN l k).cls → s.size ≤ maxLen)) (@And (@And (e16.length ≤ 17592186044416) (∀ (t : AttrV), t ∈ (opN l k).atts → t.Ok)) ((@ByteArray.size ((@opN l k)).text) ≤ 9223372036854775807))))))) (.fork e26 (.leaf (Ex.norm, ((e27 :: none :: e28 :: e29 :: e30 :: e31 :: e32 :: (nn41 (nn48 (nn48 [])))), e40))) (.fork e41 (.leaf (Ex.ret, ((e27 :: none :: e28 :: e29 :: e30 :: e31 :: e42 :: (nn41 (nn48 (nn48 [])))), e40))) (.fork e43 (.need e45 (.need e46 (.need e47 (.need e49 (.need e51 (.leaf (Ex.ret, ((e27 :: none :: e28 :: e29 :: (some e54) :: (some e55) :: e42 :: (nn41 (nn48 (nn48 [])))), (@Mem.mk e56 (e57 + 1) (e60 :: (e61 :: e67 :: (e68 :: none :: (e72 :: e33 :: e33 :: [e34, none, e37, e35, e37, e39]))))))))))))) (.need e47 (.need e49 (.need e51 (.leaf (Ex.ret, ((e27 :: none :: e28 :: e29 :: (some e54) :: (some e55) :: e42 :: (nn41 (nn48 (nn48 [])))), (@Mem.mk e56 e57 (e60 :: (e61 :: e73 :: (e74 :: none :: ((some (@Blk.mk e71 30 none)) :: e33 :: e33 :: [e34, none, e37, e35, e37, e39]))))))))))))))) (.leaf (Ex.norm, ((e27 :: none :: e28 :: e29 :: e30 :: e31 :: e32 :: (nn41 (nn48 (nn48 [])))), e40)))))) (.fork e75 (.need e2 (.need e4 (.fork e19 (.need (@isSo (@And ((@HAppend.hAppend _ _ _ _ (@HAppend.hAppend _ _ _ _ [] [(@AV.agg (@List.take _ 6 e25))]) []) = [e18]) (@And ((@ByteArray.size ((@opN l k)).tag) ≤ 9223372036854775807) (@And ((@ByteArray.size ((@opN l k)).id) ≤ 9223372036854775807) (@And (@And (e14.length ≤ 17592186044416) (∀ (s : ByteArray), s ∈ (opN l k).cls → s.size ≤ maxLen)) (@And (@And (e16.length ≤ 17592186044416) (∀ (t : AttrV), t ∈ (opN l k).atts → t.Ok)) ((@ByteArray.size ((@opN l k)).text) ≤ 9223372036854775807))))))) (.fork e26 (.leaf (Ex.ret, ((e27 :: none :: e28 :: e29 :: e30 :: e31 :: e42 :: (nn41 (nn48 (nn48 [])))), e40))) (.fork e41 (.leaf (Ex.ret, ((e27 :: none :: e28 :: e29 :: e30 :: e31 :: e42 :: (nn41 (nn48 (nn48 [])))), e40))) (.fork e43 (.need e45 (.need e46 (.need e47 (.need e49 (.need e51 (.leaf (Ex.ret, ((e27 :: none :: e28 :: e29 :: (some e54) :: (some e55) :: e42 :: (nn41 (nn48 (nn48 [])))), (@Mem.mk e56 (e57 + 1) (e60 :: (e61 :: e67 :: (e68 :: none :: (e72 :: e33 :: e33 :: [e34, none, e37, e35, e37, e39]))))))))))))) (.need e47 (.need e49 (.need e51 (.leaf (Ex.ret, ((e27 :: none :: e28 :: e29 :: (some e54) :: (some e55) :: e42 :: (nn41 (nn48 (nn48 [])))), (@Mem.mk e56 e57 (e60 :: (e61 :: e73 :: (e74 :: none :: ((some (@Blk.mk e71 30 none)) :: e33 :: e33 :: [e34, none, e37, e35, e37, e39]))))))))))))))) (.leaf (Ex.ret, ((e27 :: none :: e28 :: e29 :: e30 :: e31 :: e42 :: (nn41 (nn48 (nn48 [])))), e40)))))) (.fork e76 (.need e2 (.need e4 (.fork e19 (.need (@isSo (@And ((@HAppend.hAppend _ _ _ _ (@HAppend.hAppend _ _ _ _ [] [(@AV.agg (@List.take _ 6 e25))]) []) = [e18]) (@And ((@ByteArray.size ((@opN l k)).tag) ≤ 9223372036854775807) (@And ((@ByteArray.size ((@opN l k)).id) ≤ 9223372036854775807) (@And (@And (e14.length ≤ 17592186044416) (∀ (s : ByteArray), s ∈ (opN l k).cls → s.size ≤ maxLen)) (@And (@And (e16.length ≤ 17592186044416) (∀ (t : AttrV), t ∈ (opN l k).atts → t.Ok)) ((@ByteArray.size ((@opN l k)).text) ≤ 9223372036854775807))))))) (.fork e26 (.leaf (Ex.ret, ((e27 :: none :: e28 :: e29 :: e30 :: e31 :: e42 :: (nn41 (nn48 (nn48 [])))), e40))) (.fork e41 (.leaf (Ex.norm, ((e27 :: none :: e28 :: e29 :: e30 :: e31 :: e32 :: (nn41 (nn48 (nn48 [])))), e40))) (.fork e43 (.need e45 (.need e46 (.need e47 (.need e49 (.need e51 (.leaf (Ex.ret, ((e27 :: none :: e28 :: e29 :: (some e54) :: (some e55) :: e42 :: (nn41 (nn48 (nn48 [])))), (@Mem.mk e56 (e57 + 1) (e60 :: (e61 :: e67 :: (e68 :: none :: (e72 :: e33 :: e33 :: [e34, none, e37, e35, e37, e39]))))))))))))) (.need e47 (.need e49 (.need e51 (.leaf (Ex.ret, ((e27 :: none :: e28 :: e29 :: (some e54) :: (some e55) :: e42 :: (nn41 (nn48 (nn48 [])))), (@Mem.mk e56 e57 (e60 :: (e61 :: e73 :: (e74 :: none :: ((some (@Blk.mk e71 30 none)) :: e33 :: e33 :: [e34, none, e37, e35, e37, e39]))))))))))))))) (.leaf (Ex.ret, ((e27 :: none :: e28 :: e29 :: e30 :: e31 :: e42 :: (nn41 (nn48 (nn48 [])))), e40)))))) (.need e77 (.need e78 (.fork e43 (.need e45 (.need e46 (.need e49 (.need e51 (.need e2 (.need e4 (.fork e19 (.need (@isSo (@And ((@HAppend.hAppend _ _ _ _ (@HAppend.hAppend _ _ _ _ [] [(@AV.agg (@List.take _ 6 e25))]) []) = [e18]) (@And ((@ByteArray.size ((@opN l k)).tag) ≤ 9223372036854775807) (@And ((@ByteArray.size ((@opN l k)).id) ≤ 9223372036854775807) (@And (@And (e14.length ≤ 17592186044416) (∀ (s : ByteArray), s ∈ (opN l k).cls → s.size ≤ maxLen)) (@And (@And (e16.length ≤ 17592186044416) (∀ (t : AttrV), t ∈ (opN l k).atts → t.Ok)) ((@ByteArray.size ((@opN l k)).text) ≤ 9223372036854775807))))))) (.fork e26 (.leaf (Ex.ret, ((e27 :: none :: e28 :: e29 :: e30 :: e31 :: e42 :: (nn41 (nn48 (nn48 [])))), (@Mem.mk e56 (e79 + 1) (e60 :: (e61 :: (e83 :: (e85 :: (e87 :: e88 :: e90 :: e33 :: [e34, e35, e37, none, none, e91]))))))))) (.fork e41 (.leaf (Ex.ret, ((e27 :: none :: e28 :: e29 :: e30 :: e31 :: e42 :: (nn41 (nn48 (nn48 [])))), (@Mem.mk e56 (e79 + 1) (e60 :: (e61 :: (e83 :: (e85 :: (e87 :: e88 :: e90 :: e33 :: [e34, e35, e37, none, none, e91]))))))))) (.need e43 (.need e45 (.need e46 (.need e47 (.need e49 (.need e51 (.leaf (Ex.norm, ((e27 :: none :: e28 :: e29 :: e92 :: (some (@AV.own e93 e50 1)) :: e32 :: (nn41 (nn48 (nn48 [])))), (@Mem.mk (e93 + 1) ((((((e79 + 1) + 1) + 1) + 1) + 1) + 1) (e60 :: (e61 :: e67 :: (e68 :: none :: (e72 :: e33 :: (e60 :: (e61 :: (e83 :: (e85 :: (e87 :: e88 :: e90 :: e33 :: [e34, none, e37, none, none, e91])))))))))))))))))))))) (.leaf (Ex.ret, ((e27 :: none :: e28 :: e29 :: e30 :: e31 :: e42 :: (nn41 (nn48 (nn48 [])))), (@Mem.mk e56 (e79 + 1) (e60 :: (e61 :: (e83 :: (e85 :: (e87 :: e88 :: e90 :: e33 :: [e34, e35, e37, none, none, e91])))))))))))))))) (.need e49 (.need e51 (.need e2 (.need e4 (.fork e19 (.need (@isSo (@And ((@HAppend.hAppend _ _ _ _ (@HAppend.hAppend _ _ _ _ [] [(@AV.agg (@List.take _ 6 e25))]) []) = [e18]) (@And ((@ByteArray.size ((@opN l k)).tag) ≤ 9223372036854775807) (@And ((@ByteArray.size ((@opN l k)).id) ≤ 9223372036854775807) (@And (@And (e14.length ≤ 17592186044416) (∀ (s : ByteArray), s ∈ (opN l k).cls → s.size ≤ maxLen)) (@And (@And (e16.length ≤ 17592186044416) (∀ (t : AttrV), t ∈ (opN l k).atts → t.Ok)) ((@ByteArray.size ((@opN l k)).text) ≤ 9223372036854775807))))))) (.fork e26 (.leaf (Ex.ret, ((e27 :: none :: e28 :: e29 :: e30 :: e31 :: e42 :: (nn41 (nn48 (nn48 [])))), (@Mem.mk e56 e79 (e60 :: (e61 :: (e94 :: (e95 :: (e87 :: e88 :: (some (@Blk.mk e89 30 none)) :: e33 :: [e34, e35, e37, none, none, e91]))))))))) (.fork e41 (.leaf (Ex.ret, ((e27 :: none :: e28 :: e29 :: e30 :: e31 :: e42 :: (nn41 (nn48 (nn48 [])))), (@Mem.mk e56 e79 (e60 :: (e61 :: (e94 :: (e95 :: (e87 :: e88 :: (some (@Blk.mk e89 30 none)) :: e33 :: [e34, e35, e37, none, none, e91]))))))))) (.need (!e43) (.need e47 (.need e49 (.need e51 (.leaf (Ex.norm, ((e27 :: none :: e28 :: e29 :: e92 :: (some (@AV.own e93 e50 1)) :: e32 :: (nn41 (nn48 (nn48 [])))), (@Mem.mk (e93 + 1) ((((e79 + 1) + 1) + 1) + 1) (e60 :: (e61 :: e73 :: (e74 :: none :: ((some (@Blk.mk e71 30 none)) :: e33 :: (e60 :: (e61 :: (e94 :: (e95 :: (e87 :: e88 :: (some (@Blk.mk e89 30 none)) :: e33 :: [e34, none, e37, none, none, e91])))))))))))))))))))) (.leaf (Ex.ret, ((e27 :: none :: e28 :: e29 :: e30 :: e31 :: e42 :: (nn41 (nn48 (nn48 [])))), (@Mem.mk e56 e79 (e60 :: (e61 :: (e94 :: (e95 :: (e87 :: e88 :: (some (@Blk.mk e89 30 none)) :: e33 :: [e34, e35, e37, none, none, e91]))))))))))))))))))))) (.need e2 (.need (!e4) (.leaf (Ex.norm, ((e27 :: none :: e28 :: e29 :: e30 :: e31 :: e32 :: (nn41 (nn48 (nn48 [])))), e40)))))) (.need (@isSo (@And ((@HAppend.hAppend _ _ _ _ (@HAppend.hAppend _ _ _ _ [] [(@AV.agg (@List.take _ 6 [e6, e7, e8, e11, e12, e13]))]) []) = [e18]) (@And ((@ByteArray.size ((@opN l k)).tag) ≤ 9223372036854775807) (@And ((@ByteArray.size ((@opN l k)).id) ≤ 9223372036854775807) (@And (@And (e14.length ≤ 17592186044416) (∀ (s : ByteArray), s ∈ (opN l k).cls → s.size ≤ maxLen)) (@And (@And (e16.length ≤ 17592186044416) (∀ (t : AttrV), t ∈ (opN l k).atts → t.Ok)) ((@ByteArray.size ((@opN l k)).text) ≤ 9223372036854775807))))))) (.fork (!(@elemB (@opN l k))) (.need (!e2) (.fork e19 (.need (@isSo (@And ((@HAppend.hAppend _ _ _ _ (@HAppend.hAppend _ _ _ _ [] [(@AV.agg (@List.take _ 6 e25))]) []) = [e18]) (@And ((@ByteArray.size ((@opN l k)).tag) ≤ 9223372036854775807) (@And ((@ByteArray.size ((@opN l k)).id) ≤ 9223372036854775807) (@And (@And (e14.length ≤ 17592186044416) (∀ (s : ByteArray), s ∈ (opN l k).cls → s.size ≤ maxLen)) (@And (@And (e16.length ≤ 17592186044416) (∀ (t : AttrV), t ∈ (opN l k).atts → t.Ok)) ((@ByteArray.size ((@opN l k)).text) ≤ 9223372036854775807))))))) (.fork e26 (.leaf (Ex.norm, ((e27 :: none :: e28 :: e29 :: e30 :: e31 :: e32 :: (nn41 (nn48 (nn48 [])))), e40))) (.fork e41 (.leaf (Ex.ret, ((e27 :: none :: e28 :: e29 :: e30 :: e31 :: e42 :: (nn41 (nn48 (nn48 [])))), e40))) (.fork e43 (.need e45 (.need e46 (.need e47 (.need e49 (.need e51 (.leaf (Ex.ret, ((e27 :: none :: e28 :: e29 :: (some e54) :: (some e55) :: e42 :: (nn41 (nn48 (nn48 [])))), (@Mem.mk e56 (e57 + 1) (e60 :: (e61 :: e67 :: (e68 :: none :: (e72 :: e33 :: e33 :: [e34, none, e37, e35, e37, e39]))))))))))))) (.need e47 (.need e49 (.need e51 (.leaf (Ex.ret, ((e27 :: none :: e28 :: e29 :: (some e54) :: (some e55) :: e42 :: (nn41 (nn48 (nn48 [])))), (@Mem.mk e56 e57 (e60 :: (e61 :: e73 :: (e74 :: none :: ((some (@Blk.mk e71 30 none)) :: e33 :: e33 :: [e34, none, e37, e35, e37, e39]))))))))))))))) (.leaf (Ex.norm, ((e27 :: none :: e28 :: e29 :: e30 :: e31 :: e32 :: (nn41 (nn48 (nn48 [])))), e40))))) (.fork e75 (.need (!e2) (.fork e19 (.need (@isSo (@And ((@HAppend.hAppend _ _ _ _ (@HAppend.hAppend _ _ _ _ [] [(@AV.agg (@List.take _ 6 e25))]) []) = [e18]) (@And ((@ByteArray.size ((@opN l k)).tag) ≤ 9223372036854775807) (@And ((@ByteArray.size ((@opN l k)).id) ≤ 9223372036854775807) (@And (@And (e14.length ≤ 17592186044416) (∀ (s : ByteArray), s ∈ (opN l k).cls → s.size ≤ maxLen)) (@And (@And (e16.length ≤ 17592186044416) (∀ (t : AttrV), t ∈ (opN l k).atts → t.Ok)) ((@ByteArray.size ((@opN l k)).text) ≤ 9223372036854775807))))))) (.fork e26 (.leaf (Ex.ret, ((e27 :: none :: e28 :: e29 :: e30 :: e31 :: e42 :: (nn41 (nn48 (nn48 [])))), e40))) (.fork e41 (.leaf (Ex.ret, ((e27 :: none :: e28 :: e29 :: e30 :: e31 :: e42 :: (nn41 (nn48 (nn48 [])))), e40))) (.fork e43 (.need e45 (.need e46 (.need e47 (.need e49 (.need e51 (.leaf (Ex.ret, ((e27 :: none :: e28 :: e29 :: (some e54) :: (some e55) :: e42 :: (nn41 (nn48 (nn48 [])))), (@Mem.mk e56 (e57 + 1) (e60 :: (e61 :: e67 :: (e68 :: none :: (e72 :: e33 :: e33 :: [e34, none, e37, e35, e37, e39]))))))))))))) (.need e47 (.need e49 (.need e51 (.leaf (Ex.ret, ((e27 :: none :: e28 :: e29 :: (some e54) :: (some e55) :: e42 :: (nn41 (nn48 (nn48 [])))), (@Mem.mk e56 e57 (e60 :: (e61 :: e73 :: (e74 :: none :: ((some (@Blk.mk e71 30 none)) :: e33 :: e33 :: [e34, none, e37, e35, e37, e39]))))))))))))))) (.leaf (Ex.ret, ((e27 :: none :: e28 :: e29 :: e30 :: e31 :: e42 :: (nn41 (nn48 (nn48 [])))), e40))))) (.fork e76 (.need (!e2) (.fork e19 (.need (@isSo (@And ((@HAppend.hAppend _ _ _ _ (@HAppend.hAppend _ _ _ _ [] [(@AV.agg (@List.take _ 6 e25))]) []) = [e18]) (@And ((@ByteArray.size ((@opN l k)).tag) ≤ 9223372036854775807) (@And ((@ByteArray.size ((@opN l k)).id) ≤ 9223372036854775807) (@And (@And (e14.length ≤ 17592186044416) (∀ (s : ByteArray), s ∈ (opN l k).cls → s.size ≤ maxLen)) (@And (@And (e16.length ≤ 17592186044416) (∀ (t : AttrV), t ∈ (opN l k).atts → t.Ok)) ((@ByteArray.size ((@opN l k)).text) ≤ 9223372036854775807))))))) (.fork e26 (.leaf (Ex.ret, ((e27 :: none :: e28 :: e29 :: e30 :: e31 :: e42 :: (nn41 (nn48 (nn48 [])))), e40))) (.fork e41 (.leaf (Ex.norm, ((e27 :: none :: e28 :: e29 :: e30 :: e31 :: e32 :: (nn41 (nn48 (nn48 [])))), e40))) (.fork e43 (.need e45 (.need e46 (.need e47 (.need e49 (.need e51 (.leaf (Ex.ret, ((e27 :: none :: e28 :: e29 :: (some e54) :: (some e55) :: e42 :: (nn41 (nn48 (nn48 [])))), (@Mem.mk e56 (e57 + 1) (e60 :: (e61 :: e67 :: (e68 :: none :: (e72 :: e33 :: e33 :: [e34, none, e37, e35, e37, e39]))))))))))))) (.need e47 (.need e49 (.need e51 (.leaf (Ex.ret, ((e27 :: none :: e28 :: e29 :: (some e54) :: (some e55) :: e42 :: (nn41 (nn48 (nn48 [])))), (@Mem.mk e56 e57 (e60 :: (e61 :: e73 :: (e74 :: none :: ((some (@Blk.mk e71 30 none)) :: e33 :: e33 :: [e34, none, e37, e35, e37, e39]))))))))))))))) (.leaf (Ex.ret, ((e27 :: none :: e28 :: e29 :: e30 :: e31 :: e42 :: (nn41 (nn48 (nn48 [])))), e40))))) (.need e77 (.need e78 (.fork e43 (.need e45 (.need e46 (.need e49 (.need e51 (.need (!e2) (.fork e19 (.need (@isSo (@And ((@HAppend.hAppend _ _ _ _ (@HAppend.hAppend _ _ _ _ [] [(@AV.agg (@List.take _ 6 e25))]) []) = [e18]) (@And ((@ByteArray.size ((@opN l k)).tag) ≤ 9223372036854775807) (@And ((@ByteArray.size ((@opN l k)).id) ≤ 9223372036854775807) (@And (@And (e14.length ≤ 17592186044416) (∀ (s : ByteArray), s ∈ (opN l k).cls → s.size ≤ maxLen)) (@And (@And (e16.length ≤ 17592186044416) (∀ (t : AttrV), t ∈ (opN l k).atts → t.Ok)) ((@ByteArray.size ((@opN l k)).text) ≤ 9223372036854775807))))))) (.fork e26 (.leaf (Ex.ret, ((e27 :: none :: e28 :: e29 :: e30 :: e31 :: e42 :: (nn41 (nn48 (nn48 [])))), (@Mem.mk e56 (e79 + 1) (e60 :: (e61 :: (e83 :: (e85 :: (e87 :: e88 :: e90 :: e33 :: [e34, e35, e37, none, none, e91]))))))))) (.fork e41 (.leaf (Ex.ret, ((e27 :: none :: e28 :: e29 :: e30 :: e31 :: e42 :: (nn41 (nn48 (nn48 [])))), (@Mem.mk e56 (e79 + 1) (e60 :: (e61 :: (e83 :: (e85 :: (e87 :: e88 :: e90 :: e33 :: [e34, e35, e37, none, none, e91]))))))))) (.need e43 (.need e45 (.need e46 (.need e47 (.need e49 (.need e51 (.leaf (Ex.norm, ((e27 :: none :: e28 :: e29 :: e92 :: (some (@AV.own e93 e50 1)) :: e32 :: (nn41 (nn48 (nn48 [])))), (@Mem.mk (e93 + 1) ((((((e79 + 1) + 1) + 1) + 1) + 1) + 1) (e60 :: (e61 :: e67 :: (e68 :: none :: (e72 :: e33 :: (e60 :: (e61 :: (e83 :: (e85 :: (e87 :: e88 :: e90 :: e33 :: [e34, none, e37, none, none, e91])))))))))))))))))))))) (.leaf (Ex.ret, ((e27 :: none :: e28 :: e29 :: e30 :: e31 :: e42 :: (nn41 (nn48 (nn48 [])))), (@Mem.mk e56 (e79 + 1) (e60 :: (e61 :: (e83 :: (e85 :: (e87 :: e88 :: e90 :: e33 :: [e34, e35, e37, none, none, e91]))))))))))))))) (.need e49 (.need e51 (.need (!e2) (.fork e19 (.need (@isSo (@And ((@HAppend.hAppend _ _ _ _ (@HAppend.hAppend _ _ _ _ [] [(@AV.agg (@List.take _ 6 e25))]) []) = [e18]) (@And ((@ByteArray.size ((@opN l k)).tag) ≤ 9223372036854775807) (@And ((@ByteArray.size ((@opN l k)).id) ≤ 9223372036854775807) (@And (@And (e14.length ≤ 17592186044416) (∀ (s : ByteArray), s ∈ (opN l k).cls → s.size ≤ maxLen)) (@And (@And (e16.length ≤ 17592186044416) (∀ (t : AttrV), t ∈ (opN l k).atts → t.Ok)) ((@ByteArray.size ((@opN l k)).text) ≤ 9223372036854775807))))))) (.fork e26 (.leaf (Ex.ret, ((e27 :: none :: e28 :: e29 :: e30 :: e31 :: e42 :: (nn41 (nn48 (nn48 [])))), (@Mem.mk e56 e79 (e60 :: (e61 :: (e94 :: (e95 :: (e87 :: e88 :: (some (@Blk.mk e89 30 none)) :: e33 :: [e34, e35, e37, none, none, e91]))))))))) (.fork e41 (.leaf (Ex.ret, ((e27 :: none :: e28 :: e29 :: e30 :: e31 :: e42 :: (nn41 (nn48 (nn48 [])))), (@Mem.mk e56 e79 (e60 :: (e61 :: (e94 :: (e95 :: (e87 :: e88 :: (some (@Blk.mk e89 30 none)) :: e33 :: [e34, e35, e37, none, none, e91]))))))))) (.need (!e43) (.need e47 (.need e49 (.need e51 (.leaf (Ex.norm, ((e27 :: none :: e28 :: e29 :: e92 :: (some (@AV.own e93 e50 1)) :: e32 :: (nn41 (nn48 (nn48 [])))), (@Mem.mk (e93 + 1) ((((e79 + 1) + 1) + 1) + 1) (e60 :: (e61 :: e73 :: (e74 :: none :: ((some (@Blk.mk e71 30 none)) :: e33 :: (e60 :: (e61 :: (e94 :: (e95 :: (e87 :: e88 :: (some (@Blk.mk e89 30 none)) :: e33 :: [e34, none, e37, none, none, e91])))))))))))))))))))) (.leaf (Ex.ret, ((e27 :: none :: e28 :: e29 :: e30 :: e31 :: e42 :: (nn41 (nn48 (nn48 [])))), (@Mem.mk e56 e79 (e60 :: (e61 :: (e94 :: (e95 :: (e87 :: e88 :: (some (@Blk.mk e89 30 none)) :: e33 :: [e34, e35, e37, none, none, e91]))))))))))))))))))))) (.fork (eqI ((l.getD (k).toNat opNone)).kind (1 : Int)) (.fork e4 (.need e96 (.fork e97 (.need e4 (.need e96 (.need e97 (.leaf (Ex.norm, ((e27 :: none :: e28 :: e29 :: e30 :: e31 :: e32 :: (nn41 (nn48 (nn48 [])))), e98)))))) (.fork e75 (.need e4 (.need e96 (.need (!e97) (.fork e41 (.leaf (Ex.ret, ((e27 :: none :: e28 :: e29 :: e30 :: e31 :: e42 :: (nn41 (nn48 (nn48 [])))), e98))) (.fork e43 (.need e45 (.need e46 (.need e47 (.need e49 (.leaf (Ex.ret, ((e27 :: none :: e28 :: e29 :: (some (@AV.own e52 e48 6)) :: e31 :: e42 :: (nn41 (nn48 (nn48 [])))), (@Mem.mk e53 e57 (e101 :: (e102 :: none :: (e105 :: e107 :: [e34, e35, e37, e35, e37, e39]))))))))))) (.need e47 (.need e49 (.leaf (Ex.ret, ((e27 :: none :: e28 :: e29 :: (some (@AV.own e52 e48 6)) :: e31 :: e42 :: (nn41 (nn48 (nn48 [])))), (@Mem.mk e53 ((((0 + 1) + 1) + 1) + 1) (e109 :: (e110 :: none :: (e111 :: e107 :: [e34, e35, e37, e35, e37, e39])))))))))))))) (.fork e76 (.need e4 (.need e96 (.need (!e97) (.fork e41 (.leaf (Ex.norm, ((e27 :: none :: e28 :: e29 :: e30 :: e31 :: e32 :: (nn41 (nn48 (nn48 [])))), e98))) (.fork e43 (.need e45 (.need e46 (.need e47 (.need e49 (.leaf (Ex.ret, ((e27 :: none :: e28 :: e29 :: (some (@AV.own e52 e48 6)) :: e31 :: e42 :: (nn41 (nn48 (nn48 [])))), (@Mem.mk e53 e57 (e101 :: (e102 :: none :: (e105 :: e107 :: [e34, e35, e37, e35, e37, e39]))))))))))) (.need e47 (.need e49 (.leaf (Ex.ret, ((e27 :: none :: e28 :: e29 :: (some (@AV.own e52 e48 6)) :: e31 :: e42 :: (nn41 (nn48 (nn48 [])))), (@Mem.mk e53 ((((0 + 1) + 1) + 1) + 1) (e109 :: (e110 :: none :: (e111 :: e107 :: [e34, e35, e37, e35, e37, e39])))))))))))))) (.need (@isSo (@And e112 (@Or (true = true) (e14.length ≤ 1024)))) (.need (@isSo (@And e112 (@Or (true = true) (e16.length ≤ 1024)))) (.fork e43 (.need e45 (.need e46 (.need e49 (.need e4 (.need e96 (.need (!e97) (.fork e41 (.leaf (Ex.ret, ((e27 :: none :: e28 :: e29 :: e30 :: e31 :: e42 :: (nn41 (nn48 (nn48 [])))), (@Mem.mk e53 ((((e57 + 1) + 1) + 1) + 1) e124)))) (.need e43 (.need e45 (.need e46 (.need e47 (.need e49 (.leaf (Ex.norm, ((e27 :: none :: e28 :: e29 :: e125 :: e31 :: e32 :: (nn41 (nn48 (nn48 [])))), (@Mem.mk ((e56 + 1) + 1) (((e79 + 1) + 1) + 1) (e101 :: (e102 :: none :: (e105 :: e107 :: e124))))))))))))))))))) (.need e49 (.need e4 (.need e96 (.need (!e97) (.fork e41 (.leaf (Ex.ret, ((e27 :: none :: e28 :: e29 :: e30 :: e31 :: e42 :: (nn41 (nn48 (nn48 [])))), (@Mem.mk e53 (((e57 + 1) + 1) + 1) e126)))) (.need (!e43) (.need e47 (.need e49 (.leaf (Ex.norm, ((e27 :: none :: e28 :: e29 :: e125 :: e31 :: e32 :: (nn41 (nn48 (nn48 [])))), (@Mem.mk ((e56 + 1) + 1) (e79 + 1) (e109 :: (e110 :: none :: (e111 :: e107 :: e126)))))))))))))))))))))) (.need (!e4) (.leaf (Ex.norm, ((e27 :: none :: e28 :: e29 :: e30 :: e31 :: e32 :: (nn41 (nn48 (nn48 [])))), e98))))) (.fork (eqI e3 e1) (.need (eqI e3 e1) (.leaf (Ex.norm, ((e27 :: none :: e28 :: e29 :: e30 :: e31 :: e32 :: (nn41 (nn48 (nn48 [])))), e98)))) (.need e127 (.need e4 (.need e127 (.leaf (Ex.norm, ((e27 :: none :: e28 :: e29 :: e30 :: (some (@AV.own 4 (e44).toNat 1)) :: e32 :: (nn41 (nn48 (nn48 [])))), (@Mem.mk (5 + 1) ((0 + 1) + 1) [e34, e35, e37, e35, e37, (some (@Blk.mk [(@AV.own 1 (ns).length 6), (@AV.own 2 (e44).toNat 1)] 47 none))])))))))))))) (.leaf ((@Ex.exit 0), ((e27 :: none :: e28 :: e29 :: e30 :: e31 :: e42 :: (nn41 (nn48 (nn48 [])))), (@Mem.mk 5 0 [e35, e37, e35, e37, e39]))))) (.leaf ((@Ex.exit 0), ((e27 :: none :: e28 :: e29 :: e30 :: e31 :: e42 :: (nn41 (nn48 (nn48 [])))), (@Mem.mk 5 0 [e35, e37, e35, e37, e39])))))) (by kernel_rfl) ?_
  refine fork_ok (fun a1 => fork_ok (fun a2 => ?_) (fun a2 => ?_)) (fun a1 => ?_)
  · simp only [Bool.not_eq_true', Bool.not_eq_false', leI_t, leI_f, eqI_t, eqI_f, inR_t, inR_f, isSo_t, isSo_f] at a1
    simp only [Bool.not_eq_true', Bool.not_eq_false', leI_t, leI_f, eqI_t, eqI_f, inR_t, inR_f, isSo_t, isSo_f] at a2
    have c1 := c1 (by omega) (by omega)
    clear c2
    have hx : (l.getD k.toNat opNone) ∈ l := getD_mem l k opNone h0 (by omega)
    have hOk : (opN l k).Ok := hok _ hx
    have hTx : (l.getD k.toNat opNone).nd.text.size ≤ 9223372036854775807 := hOk.2.2.2.2
    have hin : inR k l.length = true := by rw [inR_t]; omega
    have hk1 : w64 (k + 1) = k + 1 := w64_in (by omega)
    have L64 : leI 64 ((os.length : Nat) : Int) = eqI ((os.length : Nat) : Int) 64 := by
      rw [Bool.eq_iff_iff, leI_t, eqI_t]; omega
    have L1024 : leI 1024 ((ns.length : Nat) : Int) = false := by rw [leI_f]; omega
    have O0 : leI ((os.length : Nat) : Int) 0 = eqI ((os.length : Nat) : Int) 0 := by
      rw [Bool.eq_iff_iff, leI_t, eqI_t]; omega
    have hble : Nat.ble ns.length ns.length = true := by rw [Nat.ble_eq]; exact Nat.le_refl _
    have hroomA : (Nat.ble ns.length ns.length && (Nat.ble (ns.length * 104) 140737488355328 && Nat.ble ns.length 17592186044416)) = true := by
      simp only [Bool.and_eq_true, Nat.ble_eq]; omega
    have hroomN : (true && (Nat.ble ns.length ns.length && (Nat.ble ((ns.length + 1) * 104) 140737488355328 && Nat.ble (ns.length + 1) 17592186044416))) = true := by
      simp only [Bool.true_and, Bool.and_eq_true, Nat.ble_eq]; omega
    have hroomO : (true && (Nat.ble os.length os.length && (Nat.ble ((os.length + 1) * 8) 140737488355328 && Nat.ble (os.length + 1) 17592186044416))) = true := by
      simp only [Bool.true_and, Bool.and_eq_true, Nat.ble_eq]; omega
    have hw : w64 ((ns.length + 1 : Nat) - 1 : Int) = (ns.length : Int) := by rw [w64_in (by omega)]; omega
    cases hK0 : eqI (l.getD k.toNat opNone).kind 0 with
    | true =>
      have eE : elemB (opN l k) = (!bytesEq (l.getD k.toNat opNone).nd.tag.data.toList (ByteArray.mk #[]).data.toList && ndB (opN l k)) := elem_nd (opN l k)
      have hlen := @elem_lens (opN l k)
      simp only [stepN, stepO, canOpen, hK0, if_true] at c1
      cases hT : bytesEq (l.getD k.toNat opNone).nd.tag.data.toList (ByteArray.mk #[]).data.toList with
      | true =>
        simp only [hT, Bool.not_true, Bool.false_and, Bool.and_false, Bool.false_eq_true, if_false] at c1 eE
        cases hN : leI ((ns.length : Nat) : Int) 0 with
        | false =>
          cases hO : eqI ((os.length : Nat) : Int) 0 with
          | false =>
            (repeat' (first
            | (refine need_so ?_ ?_; (focus (first | exact ⟨rfl, by assumption⟩ | exact ⟨rfl, Or.inr (by assumption)⟩ | exact ⟨rfl, Or.inl rfl⟩ | assumption)))
            | (refine need_t ?_ ?_; (focus (first | assumption | exact hroomA | (simp only [*, Bool.not_true, Bool.not_false, Bool.and_true, Bool.true_and, Bool.false_and, Bool.and_false]; done))))
            | (refine fork_t ?_ ?_; (focus (first | assumption | (simp only [*, Bool.not_true, Bool.not_false, Bool.and_true, Bool.true_and, Bool.false_and, Bool.and_false]; done))))
            | (refine fork_f ?_ ?_; (focus (first | assumption | (simp only [*, Bool.not_true, Bool.not_false, Bool.and_true, Bool.true_and, Bool.false_and, Bool.and_false]; done))))))
            exact LoopToT.ren [0, 1, 2, 3, 4] rfl (tbF_ren _ _ rfl rfl rfl rfl rfl (by assumption)) (tbM_ren (by decide) rfl rfl rfl rfl rfl (NRows.base _) (ZRows.base _) (NRows.base _) (ZRows.base _)) (by assumption)
          | true =>
            (repeat' (first
            | (refine need_so ?_ ?_; (focus (first | exact ⟨rfl, by assumption⟩ | exact ⟨rfl, Or.inr (by assumption)⟩ | exact ⟨rfl, Or.inl rfl⟩ | assumption)))
            | (refine need_t ?_ ?_; (focus (first | assumption | exact hroomA | (simp only [*, Bool.not_true, Bool.not_false, Bool.and_true, Bool.true_and, Bool.false_and, Bool.and_false]; done))))
            | (refine fork_t ?_ ?_; (focus (first | assumption | (simp only [*, Bool.not_true, Bool.not_false, Bool.and_true, Bool.true_and, Bool.false_and, Bool.and_false]; done))))
            | (refine fork_f ?_ ?_; (focus (first | assumption | (simp only [*, Bool.not_true, Bool.not_false, Bool.and_true, Bool.true_and, Bool.false_and, Bool.and_false]; done))))))
            exact LoopToT.ren [0, 1, 2, 3, 4] rfl (tbF_ren _ _ rfl rfl rfl rfl rfl (by assumption)) (tbM_ren (by decide) rfl rfl rfl rfl rfl (NRows.base _) (ZRows.base _) (NRows.base _) (ZRows.base _)) (by assumption)
        | true =>
          (repeat' (first
            | (refine need_so ?_ ?_; (focus (first | exact ⟨rfl, by assumption⟩ | exact ⟨rfl, Or.inr (by assumption)⟩ | exact ⟨rfl, Or.inl rfl⟩ | assumption)))
            | (refine need_t ?_ ?_; (focus (first | assumption | exact hroomA | (simp only [*, Bool.not_true, Bool.not_false, Bool.and_true, Bool.true_and, Bool.false_and, Bool.and_false]; done))))
            | (refine fork_t ?_ ?_; (focus (first | assumption | (simp only [*, Bool.not_true, Bool.not_false, Bool.and_true, Bool.true_and, Bool.false_and, Bool.and_false]; done))))
            | (refine fork_f ?_ ?_; (focus (first | assumption | (simp only [*, Bool.not_true, Bool.not_false, Bool.and_true, Bool.true_and, Bool.false_and, Bool.and_false]; done))))))
          exact LoopToT.ren [0, 1, 2, 3, 4] rfl (tbF_ren _ _ rfl rfl rfl rfl rfl (by assumption)) (tbM_ren (by decide) rfl rfl rfl rfl rfl (NRows.base _) (ZRows.base _) (NRows.base _) (ZRows.base _)) (by assumption)
      | false =>
      cases hB : ndB (opN l k) with
      | false =>
        have hB' : ndB (l.getD k.toNat opNone).nd = false := hB
        simp only [hT, hB, hB', Bool.not_true, Bool.not_false, Bool.true_and, Bool.false_and, Bool.and_false, Bool.false_eq_true, if_false] at c1 eE
        cases hN : leI ((ns.length : Nat) : Int) 0 with
        | false =>
          cases hO : eqI ((os.length : Nat) : Int) 0 with
          | false =>
            (repeat' (first
            | (refine need_so ?_ ?_; (focus (first | exact ⟨rfl, by assumption⟩ | exact ⟨rfl, Or.inr (by assumption)⟩ | exact ⟨rfl, Or.inl rfl⟩ | assumption)))
            | (refine need_t ?_ ?_; (focus (first | assumption | exact hroomA | (simp only [*, Bool.not_true, Bool.not_false, Bool.and_true, Bool.true_and, Bool.false_and, Bool.and_false]; done))))
            | (refine fork_t ?_ ?_; (focus (first | assumption | (simp only [*, Bool.not_true, Bool.not_false, Bool.and_true, Bool.true_and, Bool.false_and, Bool.and_false]; done))))
            | (refine fork_f ?_ ?_; (focus (first | assumption | (simp only [*, Bool.not_true, Bool.not_false, Bool.and_true, Bool.true_and, Bool.false_and, Bool.and_false]; done))))))
            exact LoopToT.ren [0, 1, 2, 3, 4] rfl (tbF_ren _ _ rfl rfl rfl rfl rfl (by assumption)) (tbM_ren (by decide) rfl rfl rfl rfl rfl (NRows.base _) (ZRows.base _) (NRows.base _) (ZRows.base _)) (by assumption)
          | true =>
            (repeat' (first
            | (refine need_so ?_ ?_; (focus (first | exact ⟨rfl, by assumption⟩ | exact ⟨rfl, Or.inr (by assumption)⟩ | exact ⟨rfl, Or.inl rfl⟩ | assumption)))
            | (refine need_t ?_ ?_; (focus (first | assumption | exact hroomA | (simp only [*, Bool.not_true, Bool.not_false, Bool.and_true, Bool.true_and, Bool.false_and, Bool.and_false]; done))))
            | (refine fork_t ?_ ?_; (focus (first | assumption | (simp only [*, Bool.not_true, Bool.not_false, Bool.and_true, Bool.true_and, Bool.false_and, Bool.and_false]; done))))
            | (refine fork_f ?_ ?_; (focus (first | assumption | (simp only [*, Bool.not_true, Bool.not_false, Bool.and_true, Bool.true_and, Bool.false_and, Bool.and_false]; done))))))
            exact LoopToT.ren [0, 1, 2, 3, 4] rfl (tbF_ren _ _ rfl rfl rfl rfl rfl (by assumption)) (tbM_ren (by decide) rfl rfl rfl rfl rfl (NRows.base _) (ZRows.base _) (NRows.base _) (ZRows.base _)) (by assumption)
        | true =>
          (repeat' (first
            | (refine need_so ?_ ?_; (focus (first | exact ⟨rfl, by assumption⟩ | exact ⟨rfl, Or.inr (by assumption)⟩ | exact ⟨rfl, Or.inl rfl⟩ | assumption)))
            | (refine need_t ?_ ?_; (focus (first | assumption | exact hroomA | (simp only [*, Bool.not_true, Bool.not_false, Bool.and_true, Bool.true_and, Bool.false_and, Bool.and_false]; done))))
            | (refine fork_t ?_ ?_; (focus (first | assumption | (simp only [*, Bool.not_true, Bool.not_false, Bool.and_true, Bool.true_and, Bool.false_and, Bool.and_false]; done))))
            | (refine fork_f ?_ ?_; (focus (first | assumption | (simp only [*, Bool.not_true, Bool.not_false, Bool.and_true, Bool.true_and, Bool.false_and, Bool.and_false]; done))))))
          exact LoopToT.ren [0, 1, 2, 3, 4] rfl (tbF_ren _ _ rfl rfl rfl rfl rfl (by assumption)) (tbM_ren (by decide) rfl rfl rfl rfl rfl (NRows.base _) (ZRows.base _) (NRows.base _) (ZRows.base _)) (by assumption)
      | true =>
      have hB' : ndB (l.getD k.toNat opNone).nd = true := hB
      simp only [hT, hB, hB', Bool.not_true, Bool.not_false, Bool.true_and, Bool.and_true] at c1 eE
      obtain ⟨hl1, hl2⟩ := hlen eE
      cases hN : leI ((ns.length : Nat) : Int) 0 with
      | false =>
        cases hO : eqI ((os.length : Nat) : Int) 0 with
        | false =>
          cases h64 : eqI ((os.length : Nat) : Int) 64 with
          | true =>
            simp only [hN, hO, h64, Bool.not_true, Bool.not_false, Bool.true_and, Bool.and_true, Bool.and_false, Bool.false_eq_true, if_false] at c1
            (repeat' (first
            | (refine need_so ?_ ?_; (focus (first | exact ⟨rfl, by assumption⟩ | exact ⟨rfl, Or.inr (by assumption)⟩ | exact ⟨rfl, Or.inl rfl⟩ | assumption)))
            | (refine need_t ?_ ?_; (focus (first | assumption | exact hroomA | (simp only [*, Bool.not_true, Bool.not_false, Bool.and_true, Bool.true_and, Bool.false_and, Bool.and_false]; done))))
            | (refine fork_t ?_ ?_; (focus (first | assumption | (simp only [*, Bool.not_true, Bool.not_false, Bool.and_true, Bool.true_and, Bool.false_and, Bool.and_false]; done))))
            | (refine fork_f ?_ ?_; (focus (first | assumption | (simp only [*, Bool.not_true, Bool.not_false, Bool.and_true, Bool.true_and, Bool.false_and, Bool.and_false]; done))))))
            exact LoopToT.ren [0, 1, 2, 3, 4] rfl (tbF_ren _ _ rfl rfl rfl rfl rfl (by assumption)) (tbM_ren (by decide) rfl rfl rfl rfl rfl (NRows.base _) (ZRows.base _) (NRows.base _) (ZRows.base _)) (by assumption)
          | false =>
            simp only [hN, hO, h64, Bool.not_true, Bool.not_false, Bool.true_and, Bool.and_true, Bool.and_false, Bool.false_eq_true, if_false, if_true] at c1
            obtain ⟨hi1, hi2, rowPar, _, _⟩ := idx_last ho hO
            (repeat' (first
            | (refine need_so ?_ ?_; (focus (first | exact ⟨rfl, by assumption⟩ | exact ⟨rfl, Or.inr (by assumption)⟩ | exact ⟨rfl, Or.inl rfl⟩ | assumption)))
            | (refine need_t ?_ ?_; (focus (first | assumption | exact hroomA | (simp only [*, Bool.not_true, Bool.not_false, Bool.and_true, Bool.true_and, Bool.false_and, Bool.and_false]; done))))
            | (refine fork_t ?_ ?_; (focus (first | assumption | (simp only [*, Bool.not_true, Bool.not_false, Bool.and_true, Bool.true_and, Bool.false_and, Bool.and_false]; done))))
            | (refine fork_f ?_ ?_; (focus (first | assumption | (simp only [*, Bool.not_true, Bool.not_false, Bool.and_true, Bool.true_and, Bool.false_and, Bool.and_false]; done))))))
            (refine LoopToT.ren [0, 11, 13, 18, 20] rfl ?_ ?_ c1
             · exact tbF_ren _ _ rfl rfl rfl (by simp) (by simp) hk1
             · exact tbM_ren (by decide) rfl rfl rfl rfl rfl (NRows.app1 _ (NRows.base _) (fun σ j hj => by
              rcases j with _ | _ | _ | _ | _ | _ | j
              · exact rowPar σ
              · exact rfl
              · exact rfl
              · exact RenV.free σ (ndA_free (putN _ os) 3)
              · exact RenV.free σ (ndA_free (putN _ os) 4)
              · exact rfl
              · omega)) (ZRows.app1 _ (ZRows.base _) (congrArg int hw)) (NRows.app1 _ (NRows.base _) (fun σ j hj => by
              rcases j with _ | _ | _ | _ | _ | _ | j
              · exact rowPar σ
              · exact rfl
              · exact rfl
              · exact RenV.free σ (ndA_free (putN _ os) 3)
              · exact RenV.free σ (ndA_free (putN _ os) 4)
              · exact rfl
              · omega)) (ZRows.app1 _ (ZRows.base _) (congrArg int hw)))
        | true =>
          simp only [hN, hO, Bool.not_true, Bool.not_false, Bool.true_and, Bool.and_true, Bool.and_false, Bool.false_and, Bool.false_eq_true, if_false] at c1
          (repeat' (first
            | (refine need_so ?_ ?_; (focus (first | exact ⟨rfl, by assumption⟩ | exact ⟨rfl, Or.inr (by assumption)⟩ | exact ⟨rfl, Or.inl rfl⟩ | assumption)))
            | (refine need_t ?_ ?_; (focus (first | assumption | exact hroomA | (simp only [*, Bool.not_true, Bool.not_false, Bool.and_true, Bool.true_and, Bool.false_and, Bool.and_false]; done))))
            | (refine fork_t ?_ ?_; (focus (first | assumption | (simp only [*, Bool.not_true, Bool.not_false, Bool.and_true, Bool.true_and, Bool.false_and, Bool.and_false]; done))))
            | (refine fork_f ?_ ?_; (focus (first | assumption | (simp only [*, Bool.not_true, Bool.not_false, Bool.and_true, Bool.true_and, Bool.false_and, Bool.and_false]; done))))))
          exact LoopToT.ren [0, 1, 2, 3, 4] rfl (tbF_ren _ _ rfl rfl rfl rfl rfl (by assumption)) (tbM_ren (by decide) rfl rfl rfl rfl rfl (NRows.base _) (ZRows.base _) (NRows.base _) (ZRows.base _)) (by assumption)
      | true =>
        cases h64 : eqI ((os.length : Nat) : Int) 64 with
        | true =>
          simp only [hN, h64, Bool.not_true, Bool.not_false, Bool.true_and, Bool.and_true, Bool.and_false, Bool.false_and, Bool.false_eq_true, if_false] at c1
          (repeat' (first
            | (refine need_so ?_ ?_; (focus (first | exact ⟨rfl, by assumption⟩ | exact ⟨rfl, Or.inr (by assumption)⟩ | exact ⟨rfl, Or.inl rfl⟩ | assumption)))
            | (refine need_t ?_ ?_; (focus (first | assumption | exact hroomA | (simp only [*, Bool.not_true, Bool.not_false, Bool.and_true, Bool.true_and, Bool.false_and, Bool.and_false]; done))))
            | (refine fork_t ?_ ?_; (focus (first | assumption | (simp only [*, Bool.not_true, Bool.not_false, Bool.and_true, Bool.true_and, Bool.false_and, Bool.and_false]; done))))
            | (refine fork_f ?_ ?_; (focus (first | assumption | (simp only [*, Bool.not_true, Bool.not_false, Bool.and_true, Bool.true_and, Bool.false_and, Bool.and_false]; done))))))
          exact LoopToT.ren [0, 1, 2, 3, 4] rfl (tbF_ren _ _ rfl rfl rfl rfl rfl (by assumption)) (tbM_ren (by decide) rfl rfl rfl rfl rfl (NRows.base _) (ZRows.base _) (NRows.base _) (ZRows.base _)) (by assumption)
        | false =>
          simp only [hN, h64, Bool.not_true, Bool.not_false, Bool.true_and, Bool.and_true, Bool.and_false, Bool.false_and, Bool.false_eq_true, if_false, if_true] at c1
          cases hO : eqI ((os.length : Nat) : Int) 0 with
          | false =>
            obtain ⟨hi1, hi2, rowPar, _, _⟩ := idx_last ho hO
            (repeat' (first
            | (refine need_so ?_ ?_; (focus (first | exact ⟨rfl, by assumption⟩ | exact ⟨rfl, Or.inr (by assumption)⟩ | exact ⟨rfl, Or.inl rfl⟩ | assumption)))
            | (refine need_t ?_ ?_; (focus (first | assumption | exact hroomA | (simp only [*, Bool.not_true, Bool.not_false, Bool.and_true, Bool.true_and, Bool.false_and, Bool.and_false]; done))))
            | (refine fork_t ?_ ?_; (focus (first | assumption | (simp only [*, Bool.not_true, Bool.not_false, Bool.and_true, Bool.true_and, Bool.false_and, Bool.and_false]; done))))
            | (refine fork_f ?_ ?_; (focus (first | assumption | (simp only [*, Bool.not_true, Bool.not_false, Bool.and_true, Bool.true_and, Bool.false_and, Bool.and_false]; done))))))
            (refine LoopToT.ren [0, 11, 13, 18, 20] rfl ?_ ?_ c1
             · exact tbF_ren _ _ rfl rfl rfl (by simp) (by simp) hk1
             · exact tbM_ren (by decide) rfl rfl rfl rfl rfl (NRows.app1 _ (NRows.base _) (fun σ j hj => by
              rcases j with _ | _ | _ | _ | _ | _ | j
              · exact rowPar σ
              · exact rfl
              · exact rfl
              · exact RenV.free σ (ndA_free (putN _ os) 3)
              · exact RenV.free σ (ndA_free (putN _ os) 4)
              · exact rfl
              · omega)) (ZRows.app1 _ (ZRows.base _) (congrArg int hw)) (NRows.app1 _ (NRows.base _) (fun σ j hj => by
              rcases j with _ | _ | _ | _ | _ | _ | j
              · exact rowPar σ
              · exact rfl
              · exact rfl
              · exact RenV.free σ (ndA_free (putN _ os) 3)
              · exact RenV.free σ (ndA_free (putN _ os) 4)
              · exact rfl
              · omega)) (ZRows.app1 _ (ZRows.base _) (congrArg int hw)))
          | true =>
            have rowPar := fun σ => par_none hO σ
            (repeat' (first
            | (refine need_so ?_ ?_; (focus (first | exact ⟨rfl, by assumption⟩ | exact ⟨rfl, Or.inr (by assumption)⟩ | exact ⟨rfl, Or.inl rfl⟩ | assumption)))
            | (refine need_t ?_ ?_; (focus (first | assumption | exact hroomA | (simp only [*, Bool.not_true, Bool.not_false, Bool.and_true, Bool.true_and, Bool.false_and, Bool.and_false]; done))))
            | (refine fork_t ?_ ?_; (focus (first | assumption | (simp only [*, Bool.not_true, Bool.not_false, Bool.and_true, Bool.true_and, Bool.false_and, Bool.and_false]; done))))
            | (refine fork_f ?_ ?_; (focus (first | assumption | (simp only [*, Bool.not_true, Bool.not_false, Bool.and_true, Bool.true_and, Bool.false_and, Bool.and_false]; done))))))
            (refine LoopToT.ren [0, 11, 13, 18, 20] rfl ?_ ?_ c1
             · exact tbF_ren _ _ rfl rfl rfl (by simp) (by simp) hk1
             · exact tbM_ren (by decide) rfl rfl rfl rfl rfl (NRows.app1 _ (NRows.base _) (fun σ j hj => by
              rcases j with _ | _ | _ | _ | _ | _ | j
              · exact rowPar σ
              · exact rfl
              · exact rfl
              · exact RenV.free σ (ndA_free (putN _ os) 3)
              · exact RenV.free σ (ndA_free (putN _ os) 4)
              · exact rfl
              · omega)) (ZRows.app1 _ (ZRows.base _) (congrArg int hw)) (NRows.app1 _ (NRows.base _) (fun σ j hj => by
              rcases j with _ | _ | _ | _ | _ | _ | j
              · exact rowPar σ
              · exact rfl
              · exact rfl
              · exact RenV.free σ (ndA_free (putN _ os) 3)
              · exact RenV.free σ (ndA_free (putN _ os) 4)
              · exact rfl
              · omega)) (ZRows.app1 _ (ZRows.base _) (congrArg int hw)))
    | false =>
      cases hK1 : eqI (l.getD k.toNat opNone).kind 1 with
      | true =>
        simp only [stepN, stepO, canWord, hK0, hK1, if_true, Bool.false_eq_true, if_false] at c1
        cases hO : eqI ((os.length : Nat) : Int) 0 with
        | true =>
          simp only [hO, Bool.not_true, Bool.false_and, Bool.false_eq_true, if_false] at c1
          (repeat' (first
            | (refine need_so ?_ ?_; (focus (first | exact ⟨rfl, by assumption⟩ | exact ⟨rfl, Or.inr (by assumption)⟩ | exact ⟨rfl, Or.inl rfl⟩ | assumption)))
            | (refine need_t ?_ ?_; (focus (first | assumption | exact hroomA | (simp only [*, Bool.not_true, Bool.not_false, Bool.and_true, Bool.true_and, Bool.false_and, Bool.and_false]; done))))
            | (refine fork_t ?_ ?_; (focus (first | assumption | (simp only [*, Bool.not_true, Bool.not_false, Bool.and_true, Bool.true_and, Bool.false_and, Bool.and_false]; done))))
            | (refine fork_f ?_ ?_; (focus (first | assumption | (simp only [*, Bool.not_true, Bool.not_false, Bool.and_true, Bool.true_and, Bool.false_and, Bool.and_false]; done))))))
          exact LoopToT.ren [0, 1, 2, 3, 4] rfl (tbF_ren _ _ rfl rfl rfl rfl rfl (by assumption)) (tbM_ren (by decide) rfl rfl rfl rfl rfl (NRows.base _) (ZRows.base _) (NRows.base _) (ZRows.base _)) (by assumption)
        | false =>
          cases hX : textL (l.getD k.toNat opNone).nd.text.data.toList with
          | false =>
            simp only [hO, hX, Bool.not_true, Bool.not_false, Bool.true_and, Bool.false_and, Bool.false_eq_true, if_false] at c1
            (repeat' (first
            | (refine need_so ?_ ?_; (focus (first | exact ⟨rfl, by assumption⟩ | exact ⟨rfl, Or.inr (by assumption)⟩ | exact ⟨rfl, Or.inl rfl⟩ | assumption)))
            | (refine need_t ?_ ?_; (focus (first | assumption | exact hroomA | (simp only [*, Bool.not_true, Bool.not_false, Bool.and_true, Bool.true_and, Bool.false_and, Bool.and_false]; done))))
            | (refine fork_t ?_ ?_; (focus (first | assumption | (simp only [*, Bool.not_true, Bool.not_false, Bool.and_true, Bool.true_and, Bool.false_and, Bool.and_false]; done))))
            | (refine fork_f ?_ ?_; (focus (first | assumption | (simp only [*, Bool.not_true, Bool.not_false, Bool.and_true, Bool.true_and, Bool.false_and, Bool.and_false]; done))))))
            exact LoopToT.ren [0, 1, 2, 3, 4] rfl (tbF_ren _ _ rfl rfl rfl rfl rfl (by assumption)) (tbM_ren (by decide) rfl rfl rfl rfl rfl (NRows.base _) (ZRows.base _) (NRows.base _) (ZRows.base _)) (by assumption)
          | true =>
            cases h64 : eqI ((os.length : Nat) : Int) 64 with
            | true =>
              simp only [hO, hX, h64, Bool.not_true, Bool.not_false, Bool.true_and, Bool.and_false, Bool.false_and, Bool.false_eq_true, if_false] at c1
              (repeat' (first
            | (refine need_so ?_ ?_; (focus (first | exact ⟨rfl, by assumption⟩ | exact ⟨rfl, Or.inr (by assumption)⟩ | exact ⟨rfl, Or.inl rfl⟩ | assumption)))
            | (refine need_t ?_ ?_; (focus (first | assumption | exact hroomA | (simp only [*, Bool.not_true, Bool.not_false, Bool.and_true, Bool.true_and, Bool.false_and, Bool.and_false]; done))))
            | (refine fork_t ?_ ?_; (focus (first | assumption | (simp only [*, Bool.not_true, Bool.not_false, Bool.and_true, Bool.true_and, Bool.false_and, Bool.and_false]; done))))
            | (refine fork_f ?_ ?_; (focus (first | assumption | (simp only [*, Bool.not_true, Bool.not_false, Bool.and_true, Bool.true_and, Bool.false_and, Bool.and_false]; done))))))
              exact LoopToT.ren [0, 1, 2, 3, 4] rfl (tbF_ren _ _ rfl rfl rfl rfl rfl (by assumption)) (tbM_ren (by decide) rfl rfl rfl rfl rfl (NRows.base _) (ZRows.base _) (NRows.base _) (ZRows.base _)) (by assumption)
            | false =>
              simp only [hO, hX, h64, Bool.not_true, Bool.not_false, Bool.true_and, Bool.and_true, Bool.false_eq_true, if_false, if_true] at c1
              obtain ⟨hi1, hi2, rowPar, _, _⟩ := idx_last ho hO
              (repeat' (first
            | (refine need_so ?_ ?_; (focus (first | exact ⟨rfl, by assumption⟩ | exact ⟨rfl, Or.inr (by assumption)⟩ | exact ⟨rfl, Or.inl rfl⟩ | assumption)))
            | (refine need_t ?_ ?_; (focus (first | assumption | exact hroomA | (simp only [*, Bool.not_true, Bool.not_false, Bool.and_true, Bool.true_and, Bool.false_and, Bool.and_false]; done))))
            | (refine fork_t ?_ ?_; (focus (first | assumption | (simp only [*, Bool.not_true, Bool.not_false, Bool.and_true, Bool.true_and, Bool.false_and, Bool.and_false]; done))))
            | (refine fork_f ?_ ?_; (focus (first | assumption | (simp only [*, Bool.not_true, Bool.not_false, Bool.and_true, Bool.true_and, Bool.false_and, Bool.and_false]; done))))))
              (refine LoopToT.ren [0, 10, 2, 15, 4] rfl ?_ ?_ c1
               · exact tbF_ren _ _ rfl rfl rfl (by simp) rfl hk1
               · exact tbM_ren (by decide) rfl rfl rfl rfl rfl (NRows.app1 _ (NRows.base _) (fun σ j hj => by
              rcases j with _ | _ | _ | _ | _ | _ | j
              · exact rowPar σ
              · exact rfl
              · exact rfl
              · first | exact RenV.free σ (ndA_free (wordN (l.getD k.toNat opNone).nd os) 3) | exact ⟨rfl, rfl⟩
              · first | exact RenV.free σ (ndA_free (wordN (l.getD k.toNat opNone).nd os) 4) | exact ⟨rfl, rfl⟩
              · exact rfl
              · omega)) (ZRows.base _) (NRows.app1 _ (NRows.base _) (fun σ j hj => by
              rcases j with _ | _ | _ | _ | _ | _ | j
              · exact rowPar σ
              · exact rfl
              · exact rfl
              · first | exact RenV.free σ (ndA_free (wordN (l.getD k.toNat opNone).nd os) 3) | exact ⟨rfl, rfl⟩
              · first | exact RenV.free σ (ndA_free (wordN (l.getD k.toNat opNone).nd os) 4) | exact ⟨rfl, rfl⟩
              · exact rfl
              · omega)) (ZRows.base _))
      | false =>
        simp only [stepN, stepO, hK0, hK1, Bool.false_eq_true, if_false] at c1
        cases hO : eqI ((os.length : Nat) : Int) 0 with
        | true =>
          have : os.dropLast = os := by
            rw [eqI_t] at hO
            cases os with
            | nil => rfl
            | cons a r => simp only [List.length_cons] at hO; omega
          rw [this] at c1
          (repeat' (first
            | (refine need_so ?_ ?_; (focus (first | exact ⟨rfl, by assumption⟩ | exact ⟨rfl, Or.inr (by assumption)⟩ | exact ⟨rfl, Or.inl rfl⟩ | assumption)))
            | (refine need_t ?_ ?_; (focus (first | assumption | exact hroomA | (simp only [*, Bool.not_true, Bool.not_false, Bool.and_true, Bool.true_and, Bool.false_and, Bool.and_false]; done))))
            | (refine fork_t ?_ ?_; (focus (first | assumption | (simp only [*, Bool.not_true, Bool.not_false, Bool.and_true, Bool.true_and, Bool.false_and, Bool.and_false]; done))))
            | (refine fork_f ?_ ?_; (focus (first | assumption | (simp only [*, Bool.not_true, Bool.not_false, Bool.and_true, Bool.true_and, Bool.false_and, Bool.and_false]; done))))))
          exact LoopToT.ren [0, 1, 2, 3, 4] rfl (tbF_ren _ _ rfl rfl rfl rfl rfl (by assumption)) (tbM_ren (by decide) rfl rfl rfl rfl rfl (NRows.base _) (ZRows.base _) (NRows.base _) (ZRows.base _)) (by assumption)
        | false =>
          obtain ⟨hi1, hi2, _, hi3, hi4⟩ := idx_last ho hO
          (repeat' (first
            | (refine need_so ?_ ?_; (focus (first | exact ⟨rfl, by assumption⟩ | exact ⟨rfl, Or.inr (by assumption)⟩ | exact ⟨rfl, Or.inl rfl⟩ | assumption)))
            | (refine need_t ?_ ?_; (focus (first | assumption | exact hroomA | (simp only [*, Bool.not_true, Bool.not_false, Bool.and_true, Bool.true_and, Bool.false_and, Bool.and_false]; done))))
            | (refine fork_t ?_ ?_; (focus (first | assumption | (simp only [*, Bool.not_true, Bool.not_false, Bool.and_true, Bool.true_and, Bool.false_and, Bool.and_false]; done))))
            | (refine fork_f ?_ ?_; (focus (first | assumption | (simp only [*, Bool.not_true, Bool.not_false, Bool.and_true, Bool.true_and, Bool.false_and, Bool.and_false]; done))))))
          refine LoopToT.cutRow 2 (w64 ((os.length : Nat) - 1 : Int)).toNat rfl (by omega) ?_
          refine LoopToT.cutRow 4 (w64 ((os.length : Nat) - 1 : Int)).toNat rfl (by omega) ?_
          refine LoopToT.ren [0, 1, 2, 3, 4] rfl ?_ ?_ c1
          · exact tbF_ren _ _ rfl rfl rfl rfl (by rw [hi3, List.length_dropLast]) hk1
          · exact tbM_ren (by decide) rfl rfl rfl rfl rfl (NRows.base _) (ZRows.cut hi3) (NRows.base _) (ZRows.cut hi3)
  · simp only [Bool.not_eq_true', Bool.not_eq_false', leI_t, leI_f, eqI_t, eqI_f, inR_t, inR_f, isSo_t, isSo_f] at a1
    simp only [Bool.not_eq_true', Bool.not_eq_false', leI_t, leI_f, eqI_t, eqI_f, inR_t, inR_f, isSo_t, isSo_f] at a2
    exact c2 (by omega)
  · simp only [Bool.not_eq_true', Bool.not_eq_false', leI_t, leI_f, eqI_t, eqI_f, inR_t, inR_f, isSo_t, isSo_f] at a1
    exact c2 (by omega)
end Go.Proofs.Ytkfecfbaljichaa
namespace Go.Proofs.Ytkfecfbaljichaa
open Go Go.RowKit Pl Sy
def ndN (ns : List NdV) (k : Int) : NdV := ns.getD k.toNat ndNone
namespace Sy
abbrev dnF (n : Nat) (m : Nat) (k : Int) : Fr := (some ((@AV.ptr 0 0)) :: none :: none :: none :: some (.own 5 m 6) :: (nn29 (some (.own 1 n 6) :: some (int (n : Nat)) :: some (int k) :: (nn10 []))))
abbrev dnM (ns : List NdV) (os : List Int) (out : List NdV) : Mem := ⟨6, 0, some (nrowB out) :: (tbM ns os).bs⟩
abbrev stF (v : List ByteArray) (k : Int) : Fr := (some ((@AV.view (v).length 1 (fun x6241 => (fun x500484 => (@AV.lit ([(@Value.string (v.getD x6241 (@ByteArray.mk (@Array.mk _ []))))].getD x500484 (@Value.tuple (@Array.mk _ [])))))))) :: some ((@AV.view (v).length 1 (fun x772452 => (fun x522511 => (@AV.lit ([(@Value.string (v.getD x772452 (@ByteArray.mk (@Array.mk _ []))))].getD x522511 (@Value.tuple (@Array.mk _ [])))))))) :: none :: none :: some ((boo false)) :: some (int k) :: (nn20 []))
end Sy
theorem bytesEq_self (l : List UInt8) : bytesEq l l = true := by
  rw [bytesEq_eq]; simp
theorem eqI_self (x : Int) : eqI x x = true := by rw [eqI_t]
theorem Sy.st_loop (v : List ByteArray) (hl : v.length ≤ 17592186044416) : ∀ (n k : Nat), k ≤ v.length → v.length - k < n →
    LoopTo Try.prog (theBody Try.prog 46 5) n (stF v k) M0 fun ex F M => ex = .exit 0 ∧ F = stF v v.length ∧ M = M0 := by
  intro n
  induction n with
  | zero => intro k h1 h2; omega
  | succ n ih =>
    intro k h1 h2
    refine roundL [] [] 400 30 46 5 Try.func46 rfl (by kernel_rfl) (true :: true :: false :: false :: true :: true :: (ff20 [])) (.br (.yes (.yes (.br .done .done))) .done) (let k : Int := k; (let e1 := (@ByteArray.mk (@Array.mk _ [])); let e2 := (@Array.toList _ (@ByteArray.data (v.getD (k).toNat e1))); let e3 := (some (@AV.view (v).length 1 (fun y0 => (fun y1 => (@AV.lit ([(@Value.string (v.getD y0 e1))].getD y1 (@Value.tuple (@Array.mk _ [])))))))); (.fork (!(leI (((v).length : Nat) : Int) k)) (.need (@inR k (v).length) (.need (@inR k (v).length) (.fork (!(@bytesEq e2 e2)) (.leaf (Ex.ret, ((e3 :: e3 :: none :: none :: (some (boo false)) :: (some (int k)) :: (nn20 [])), (@Mem.mk 0 0 [])))) (.leaf (Ex.norm, ((e3 :: e3 :: none :: none :: (some (boo false)) :: (some (int (w64 (k + (1 : Int))))) :: (nn20 [])), (@Mem.mk 0 0 []))))))) (.leaf ((@Ex.exit 0), ((e3 :: e3 :: none :: none :: (some (boo false)) :: (some (int k)) :: (nn20 [])), (@Mem.mk 0 0 []))))))) (by kernel_rfl) ?_
    refine fork_ok (fun h => ?_) (fun h => ?_)
    · simp only [Bool.not_eq_true', Bool.not_eq_false', leI_t, leI_f, eqI_t, eqI_f, inR_t, inR_f, isSo_t, isSo_f] at h
      have hr : inR k v.length = true := by rw [inR_t]; omega
      refine need_t hr (need_t hr (fork_ok (fun h2 => ?_) (fun h2 => ?_)))
      · rw [bytesEq_self] at h2
        cases h2
      · have e : (w64 ((k : Int) + 1)) = ((k + 1 : Nat) : Int) := by rw [w64_in (by omega)]; rfl
        have := ih (k + 1) (by omega) (by omega)
        rw [← e] at this
        exact this
    · simp only [Bool.not_eq_true', Bool.not_eq_false', leI_t, leI_f, eqI_t, eqI_f, inR_t, inR_f, isSo_t, isSo_f] at h
      have hk : k = v.length := by omega
      subst hk
      exact ⟨rfl, rfl, rfl⟩
namespace Sy
noncomputable abbrev lp_st (v : List ByteArray) : Lp Try.prog where
  f := 46
  key := 5
  S := formS (fun _ _ => some ()) (fun _ => stF v 0) (fun _ => M0) (fun _ => v.length ≤ 17592186044416) (fun _ => .leaf (.exit 0, stF v (v.length : Nat), M0)) (true :: true :: false :: false :: true :: true :: (ff20 []))
  one := by kernel_rfl
  ok := formS_ok fun _ h => ⟨v.length + 1, (st_loop v h (v.length + 1) 0 (by omega) (by omega)).mono fun ex F M hg => by
    obtain ⟨rfl, rfl, rfl⟩ := hg
    rfl⟩
end Sy
theorem Sy.st_t (v : List ByteArray) (h : v.length ≤ 17592186044416) : CallTo Try.prog 46 [cview v, cview v] M0 fun x _ => x = boo true :=
  toV [] [lp_st v] 400 30 (.br .done .done) (let e1 := (some (@AV.view (v).length 1 (fun y0 => (fun y1 => (@AV.lit ([(@Value.string (v.getD y0 (@ByteArray.mk (@Array.mk _ []))))].getD y1 (@Value.tuple (@Array.mk _ [])))))))); (.fork (!(eqI (((v).length : Nat) : Int) (((v).length : Nat) : Int))) (.leaf (boo false)) (.need (@isSo (@And ((e1 :: e1 :: (none :: none :: (some (boo false)) :: (some (int (0 : Int))) :: (nn20 []))) = (e1 :: e1 :: none :: none :: (some (boo false)) :: (some (int (0 : Int))) :: (nn20 []))) ((@Mem.mk 0 0 []) = M0))) (.need (@isSo ((v).length ≤ 17592186044416)) (.leaf (boo true)))))) (by kernel_rfl) (by
    (repeat' (first
      | (refine fork_f ?_ ?_; (focus (simp only [bytesEq_self, eqI_self, Bool.not_true, Bool.and_true, Bool.or_false]; done)))
      | (refine fork_t ?_ ?_; (focus (simp only [bytesEq_self, eqI_self, Bool.not_true, Bool.not_false, Bool.and_true, Bool.or_false]; done)))
      | (refine need_so ?_ ?_; (focus (first | exact ⟨rfl, rfl⟩ | exact ⟨rfl, h⟩ | exact ⟨rfl, h.2.2.1.1⟩ | exact h | exact h.2.2.1.1 | exact h.2.2.2.1.1)))
      | (refine need_t ?_ ?_; (focus (simp only [bytesEq_self, eqI_self, Bool.not_true, Bool.not_false, Bool.and_true]; done)))))
    rfl)
noncomputable abbrev Sy.c_st (v : List ByteArray) : Con Try.prog := at1 46 [cview v, cview v] (boo true) (v.length ≤ 17592186044416) fun h => ⟨⟨⟨viewOf_free _ _ _ _, viewOf_free _ _ _ _, trivial⟩, trivial⟩, st_t v h⟩
namespace Sy
abbrev lkM (n : NdV) : Mem := (@Mem.mk ((0 + 1) + 1) 0 [(some (@Blk.mk [(int (n).par), (@AV.lit (@Value.string (n).tag)), (@AV.lit (@Value.string (n).id)), (@AV.view ((n).cls).length 1 (fun x975396 => (fun x527364 => (@AV.lit ([(@Value.string ((n).cls.getD x975396 (@ByteArray.mk (@Array.mk _ []))))].getD x527364 (@Value.tuple (@Array.mk _ []))))))), (@AV.view ((n).atts).length 2 (fun x307921 => (fun x733238 => (@AV.lit ([(@Value.string (((n).atts.getD x307921 attrNone)).name), (@Value.string (((n).atts.getD x307921 attrNone)).value)].getD x733238 (@Value.tuple (@Array.mk _ []))))))), (@AV.lit (@Value.string (n).text))] 30 none)), (some (@Blk.mk [(int (n).par), (@AV.lit (@Value.string (n).tag)), (@AV.lit (@Value.string (n).id)), (@AV.view ((n).cls).length 1 (fun x990186 => (fun x254163 => (@AV.lit ([(@Value.string ((n).cls.getD x990186 (@ByteArray.mk (@Array.mk _ []))))].getD x254163 (@Value.tuple (@Array.mk _ []))))))), (@AV.view ((n).atts).length 2 (fun x568128 => (fun x662872 => (@AV.lit ([(@Value.string (((n).atts.getD x568128 attrNone)).name), (@Value.string (((n).atts.getD x568128 attrNone)).value)].getD x662872 (@Value.tuple (@Array.mk _ []))))))), (@AV.lit (@Value.string (n).text))] 30 none))])
abbrev lkF (n : NdV) (k : Int) : Fr := (none :: none :: some ((@AV.ptr 0 0)) :: some ((@AV.ptr (0 + 1) 0)) :: some ((boo false)) :: some (int k) :: (nn6 (nn48 [])))
end Sy
theorem Sy.lk_loop (nd : NdV) (hl : nd.atts.length ≤ 17592186044416) : ∀ (n k : Nat), k ≤ nd.atts.length → nd.atts.length - k < n →
    LoopTo Try.prog (theBody Try.prog 28 5) n (lkF nd k) (lkM nd) fun ex F M => ex = .exit 0 ∧ F = lkF nd nd.atts.length ∧ M = lkM nd := by
  intro n
  induction n with
  | zero => intro k h1 h2; omega
  | succ n ih =>
    intro k h1 h2
    refine roundL [] [] 400 30 28 5 Try.func28 rfl (by kernel_rfl) (false :: false :: true :: true :: true :: true :: (ff6 (ff48 []))) (.br (.yes (.yes (.br .done .done))) .done) (let k : Int := k; let n := nd; (let e1 := (@Array.toList _ (@ByteArray.data (((n).atts.getD (k).toNat attrNone)).name)); let e2 := (@Array.toList _ (@ByteArray.data (((n).atts.getD (k).toNat attrNone)).value)); let e3 := (@Value.tuple (@Array.mk _ [])); let e4 := (some (@Blk.mk [(int (n).par), (@AV.lit (@Value.string (n).tag)), (@AV.lit (@Value.string (n).id)), (@AV.view ((n).cls).length 1 (fun y0 => (fun y1 => (@AV.lit ([(@Value.string ((n).cls.getD y0 (@ByteArray.mk (@Array.mk _ []))))].getD y1 e3))))), (@AV.view ((n).atts).length 2 (fun y0 => (fun y1 => (@AV.lit ([(@Value.string (((n).atts.getD y0 attrNone)).name), (@Value.string (((n).atts.getD y0 attrNone)).value)].getD y1 e3))))), (@AV.lit (@Value.string (n).text))] 30 none)); (.fork (!(leI ((((n).atts).length : Nat) : Int) k)) (.need (@inR k ((n).atts).length) (.need (@inR k ((n).atts).length) (.fork (!((@bytesEq e1 e1) && ((@bytesEq e2 e2) && true))) (.leaf (Ex.ret, ((none :: none :: (some (@AV.ptr 0 0)) :: (some (@AV.ptr 1 0)) :: (some (boo false)) :: (some (int k)) :: (nn6 (nn48 []))), (@Mem.mk 2 0 [e4, e4])))) (.leaf (Ex.norm, ((none :: none :: (some (@AV.ptr 0 0)) :: (some (@AV.ptr 1 0)) :: (some (boo false)) :: (some (int (w64 (k + (1 : Int))))) :: (nn6 (nn48 []))), (@Mem.mk 2 0 [e4, e4]))))))) (.leaf ((@Ex.exit 0), ((none :: none :: (some (@AV.ptr 0 0)) :: (some (@AV.ptr 1 0)) :: (some (boo false)) :: (some (int k)) :: (nn6 (nn48 []))), (@Mem.mk 2 0 [e4, e4]))))))) (by kernel_rfl) ?_
    refine fork_ok (fun h => ?_) (fun h => ?_)
    · simp only [Bool.not_eq_true', Bool.not_eq_false', leI_t, leI_f, eqI_t, eqI_f, inR_t, inR_f, isSo_t, isSo_f] at h
      have hr : inR k nd.atts.length = true := by rw [inR_t]; omega
      have e : (w64 ((k : Int) + 1)) = ((k + 1 : Nat) : Int) := by rw [w64_in (by omega)]; rfl
      have := ih (k + 1) (by omega) (by omega)
      rw [← e] at this
      refine need_t hr (need_t hr (fork_f ?_ ?_))
      · simp only [bytesEq_self, Bool.and_true, Bool.not_true]
      · exact this
    · simp only [Bool.not_eq_true', Bool.not_eq_false', leI_t, leI_f, eqI_t, eqI_f, inR_t, inR_f, isSo_t, isSo_f] at h
      have hk : k = nd.atts.length := by omega
      subst hk
      exact ⟨rfl, rfl, rfl⟩
namespace Sy
noncomputable abbrev lp_lk (n : NdV) : Lp Try.prog where
  f := 28
  key := 5
  S := formS (fun _ _ => some ()) (fun _ => lkF n 0) (fun _ => lkM n) (fun _ => n.atts.length ≤ 17592186044416) (fun _ => .leaf (.exit 0, lkF n (n.atts.length : Nat), lkM n)) (false :: false :: true :: true :: true :: true :: (ff6 (ff48 [])))
  one := by kernel_rfl
  ok := formS_ok fun _ h => ⟨n.atts.length + 1, (lk_loop n h (n.atts.length + 1) 0 (by omega) (by omega)).mono fun ex F M hg => by
    obtain ⟨rfl, rfl, rfl⟩ := hg
    rfl⟩
end Sy
theorem Sy.lk_t (n : NdV) (h : n.Ok) : CallTo Try.prog 28 [ndG n, ndG n] M0 fun x _ => x = boo true :=
  toV [c_st n.cls] [lp_lk n] 400 30 (.br (.auto 4 (.br (.auto 4 (.br (.auto 3 (.yes (.auto 9 (.br .done .done)))) (.auto 14 .done))) (.auto 20 .done))) (.auto 26 .done)) (let e1 := (@Array.toList _ (@ByteArray.data (n).tag)); let e2 := (@Array.toList _ (@ByteArray.data (n).id)); let e3 := (@Array.toList _ (@ByteArray.data (n).text)); let e4 := (@Value.tuple (@Array.mk _ [])); let e5 := (@AV.view ((n).cls).length 1 (fun y0 => (fun y1 => (@AV.lit ([(@Value.string ((n).cls.getD y0 (@ByteArray.mk (@Array.mk _ []))))].getD y1 e4))))); let e6 := ((((n).atts).length : Nat) : Int); let e7 := (some (@Blk.mk [(int (n).par), (@AV.lit (@Value.string (n).tag)), (@AV.lit (@Value.string (n).id)), e5, (@AV.view ((n).atts).length 2 (fun y0 => (fun y1 => (@AV.lit ([(@Value.string (((n).atts.getD y0 attrNone)).name), (@Value.string (((n).atts.getD y0 attrNone)).value)].getD y1 e4))))), (@AV.lit (@Value.string (n).text))] 30 none)); (.fork (!(!(@bytesEq e1 e1))) (.fork (!(!(@bytesEq e2 e2))) (.fork (!(!(@bytesEq e3 e3))) (.need (@isSo (@And ((@HAppend.hAppend _ _ _ _ (@HAppend.hAppend _ _ _ _ [] [e5, e5]) []) = [e5, e5]) (((n).cls).length ≤ 17592186044416))) (.fork (!(eqI e6 e6)) (.leaf (boo false)) (.need (@isSo (@And ((none :: none :: ((some (@AV.ptr 0 0)) :: (some (@AV.ptr (0 + 1) 0)) :: (some (boo false)) :: (some (int (0 : Int))) :: (nn6 (nn48 [])))) = (none :: none :: (some (@AV.ptr 0 0)) :: (some (@AV.ptr 1 0)) :: (some (boo false)) :: (some (int (0 : Int))) :: (nn6 (nn48 [])))) ((@Mem.mk ((0 + 1) + 1) 0 [e7, e7]) = (@Mem.mk 2 0 [e7, e7])))) (.need (@isSo (((n).atts).length ≤ 17592186044416)) (.leaf (boo true)))))) (.leaf (boo false))) (.leaf (boo false))) (.leaf (boo false)))) (by kernel_rfl) (by
    (repeat' (first
      | (refine fork_f ?_ ?_; (focus (simp only [bytesEq_self, eqI_self, Bool.not_true, Bool.and_true, Bool.or_false]; done)))
      | (refine fork_t ?_ ?_; (focus (simp only [bytesEq_self, eqI_self, Bool.not_true, Bool.not_false, Bool.and_true, Bool.or_false]; done)))
      | (refine need_so ?_ ?_; (focus (first | exact ⟨rfl, rfl⟩ | exact ⟨rfl, h⟩ | exact ⟨rfl, h.2.2.1.1⟩ | exact h | exact h.2.2.1.1 | exact h.2.2.2.1.1)))
      | (refine need_t ?_ ?_; (focus (simp only [bytesEq_self, eqI_self, Bool.not_true, Bool.not_false, Bool.and_true]; done)))))
    rfl)
noncomputable abbrev Sy.c_lk (n : NdV) : Con Try.prog := at1 28 [ndG n, ndG n] (boo true) (n.Ok) fun h => ⟨⟨⟨ndG_free n, ndG_free n, trivial⟩, trivial⟩, lk_t n h⟩
abbrev NdsOk (ns : List NdV) : Prop := ns.length ≤ 17592186044416 ∧ ∀ n ∈ ns, n.Ok
theorem NdsOk.at {ns : List NdV} (h : NdsOk ns) (k : Int) (h0 : 0 ≤ k) (h1 : k < ns.length) : (ndN ns k).Ok := h.2 _ (getD_mem ns k _ h0 h1)
namespace Sy
abbrev nview (ns : List NdV) : AV := .view ns.length 6 (ndcell ns)
theorem nview_free (ns : List NdV) : Free (nview ns) := fun i j => ndA_free _ j
abbrev smF (ns : List NdV) (k : Int) : Fr := (some ((@AV.view (ns).length 6 (@ndcell ns))) :: some ((@AV.view (ns).length 6 (@ndcell ns))) :: none :: none :: some ((boo false)) :: some (int k) :: (nn34 []))
end Sy
theorem Sy.sm_loop (ns : List NdV) (hl : NdsOk ns) : ∀ (n k : Nat), k ≤ ns.length → ns.length - k < n →
    LoopTo Try.prog (theBody Try.prog 13 5) n (smF ns k) (M0) fun ex F M => ex = .exit 0 ∧ F = smF ns ns.length ∧ M = M0 := by
  intro n
  induction n with
  | zero => intro k h1 h2; omega
  | succ n ih =>
    intro k h1 h2
    have hl' := hl.1
    refine roundL [c_lk (ndN ns (k : Int))] [] 400 30 13 5 Try.func13 rfl (by kernel_rfl) (true :: true :: false :: false :: true :: true :: (ff34 [])) (.br (.yes (.yes (.br (.auto 1 (.yes (.auto 3 (.yes (.auto 1 (.yes (.auto 2 .done))))))) (.auto 10 .done)))) .done) (let k : Int := k; (let e1 := (@inR k (ns).length); let e2 := (@AV.agg [(@ndcell ns (k).toNat 0), (@ndcell ns (k).toNat 1), (@ndcell ns (k).toNat 2), (@ndcell ns (k).toNat 3), (@ndcell ns (k).toNat 4), (@ndcell ns (k).toNat 5)]); let e3 := (@Value.tuple (@Array.mk _ [])); let e4 := (@AV.agg [(int ((@ndN ns k)).par), (@AV.lit (@Value.string ((@ndN ns k)).tag)), (@AV.lit (@Value.string ((@ndN ns k)).id)), (@AV.view (((@ndN ns k)).cls).length 1 (fun y0 => (fun y1 => (@AV.lit ([(@Value.string (((@ndN ns k)).cls.getD y0 (@ByteArray.mk (@Array.mk _ []))))].getD y1 e3))))), (@AV.view (((@ndN ns k)).atts).length 2 (fun y0 => (fun y1 => (@AV.lit ([(@Value.string ((((@ndN ns k)).atts.getD y0 attrNone)).name), (@Value.string ((((@ndN ns k)).atts.getD y0 attrNone)).value)].getD y1 e3))))), (@AV.lit (@Value.string ((@ndN ns k)).text))]); let e5 := (some (@AV.view (ns).length 6 (@ndcell ns))); (.fork (!(leI (((ns).length : Nat) : Int) k)) (.need e1 (.need e1 (.fork (!(!(eqI ((ns.getD (k).toNat ndNone)).par ((ns.getD (k).toNat ndNone)).par))) (.need e1 (.need e1 (.need (@isSo (@And ((@HAppend.hAppend _ _ _ _ (@HAppend.hAppend _ _ _ _ [] [e2, e2]) []) = [e4, e4]) (@And ((@ByteArray.size ((@ndN ns k)).tag) ≤ 9223372036854775807) (@And ((@ByteArray.size ((@ndN ns k)).id) ≤ 9223372036854775807) (@And (@And ((((@ndN ns k)).cls).length ≤ 17592186044416) (∀ (s : ByteArray), s ∈ (ndN ns k).cls → s.size ≤ maxLen)) (@And (@And ((((@ndN ns k)).atts).length ≤ 17592186044416) (∀ (t : AttrV), t ∈ (ndN ns k).atts → t.Ok)) ((@ByteArray.size ((@ndN ns k)).text) ≤ 9223372036854775807))))))) (.leaf (Ex.norm, ((e5 :: e5 :: none :: none :: (some (boo false)) :: (some (int (w64 (k + (1 : Int))))) :: (nn34 [])), (@Mem.mk 0 0 []))))))) (.leaf (Ex.ret, ((e5 :: e5 :: none :: none :: (some (boo false)) :: (some (int k)) :: (nn34 [])), (@Mem.mk 0 0 []))))))) (.leaf ((@Ex.exit 0), ((e5 :: e5 :: none :: none :: (some (boo false)) :: (some (int k)) :: (nn34 [])), (@Mem.mk 0 0 []))))))) (by kernel_rfl) ?_
    refine fork_ok (fun h => ?_) (fun h => ?_)
    · simp only [Bool.not_eq_true', Bool.not_eq_false', leI_t, leI_f, eqI_t, eqI_f, inR_t, inR_f, isSo_t, isSo_f] at h
      have hr : inR k ns.length = true := by rw [inR_t]; omega
      have e : (w64 ((k : Int) + 1)) = ((k + 1 : Nat) : Int) := by rw [w64_in (by omega)]; rfl
      have := ih (k + 1) (by omega) (by omega)
      rw [← e] at this
      refine need_t hr (need_t hr (fork_t ?_ (need_t hr (need_t hr (need_so ⟨rfl, hl.at k (by omega) (by omega)⟩ ?_)))))
      · simp only [eqI_self, Bool.not_true, Bool.not_false]
      · exact this
    · simp only [Bool.not_eq_true', Bool.not_eq_false', leI_t, leI_f, eqI_t, eqI_f, inR_t, inR_f, isSo_t, isSo_f] at h
      have hk : k = ns.length := by omega
      subst hk
      exact ⟨rfl, rfl, rfl⟩
namespace Sy
noncomputable abbrev lp_sm (ns : List NdV) : Lp Try.prog where
  f := 13
  key := 5
  S := formS (fun _ _ => some ()) (fun _ => smF ns 0) (fun _ => M0) (fun _ => NdsOk ns) (fun _ => .leaf (.exit 0, smF ns (ns.length : Nat), M0)) (true :: true :: false :: false :: true :: true :: (ff34 []))
  one := by kernel_rfl
  ok := formS_ok fun _ h => ⟨ns.length + 1, (sm_loop ns h (ns.length + 1) 0 (by omega) (by omega)).mono fun ex F M hg => by
    obtain ⟨rfl, rfl, rfl⟩ := hg
    rfl⟩
end Sy
theorem Sy.sm_t (ns : List NdV) (h : NdsOk ns) : CallTo Try.prog 13 [nview ns, nview ns] M0 fun x _ => x = boo true :=
  toV [] [lp_sm ns] 400 30 (.br .done .done) (let e1 := (some (@AV.view (ns).length 6 (@ndcell ns))); (.fork (!(eqI (((ns).length : Nat) : Int) (((ns).length : Nat) : Int))) (.leaf (boo false)) (.need (@isSo (@And ((e1 :: e1 :: (none :: none :: (some (boo false)) :: (some (int (0 : Int))) :: (nn34 []))) = (e1 :: e1 :: none :: none :: (some (boo false)) :: (some (int (0 : Int))) :: (nn34 []))) ((@Mem.mk 0 0 []) = M0))) (.need (@isSo (@And ((ns).length ≤ 17592186044416) (∀ (n : NdV), n ∈ ns → n.Ok))) (.leaf (boo true)))))) (by kernel_rfl) (by
    (repeat' (first
      | (refine fork_f ?_ ?_; (focus (simp only [bytesEq_self, eqI_self, Bool.not_true, Bool.and_true, Bool.or_false]; done)))
      | (refine fork_t ?_ ?_; (focus (simp only [bytesEq_self, eqI_self, Bool.not_true, Bool.not_false, Bool.and_true, Bool.or_false]; done)))
      | (refine need_so ?_ ?_; (focus (first | exact ⟨rfl, rfl⟩ | exact ⟨rfl, h⟩ | exact ⟨rfl, h.2.2.1.1⟩ | exact h | exact h.2.2.1.1 | exact h.2.2.2.1.1)))
      | (refine need_t ?_ ?_; (focus (simp only [bytesEq_self, eqI_self, Bool.not_true, Bool.not_false, Bool.and_true]; done)))))
    rfl)
end Go.Proofs.Ytkfecfbaljichaa
namespace Go.Proofs.Ytkfecfbaljichaa
open Go Go.RowKit Pl Sy
namespace Sy
abbrev dnF2 (n : Nat) (m : Nat) (k : Int) : Fr := (some ((@AV.ptr 0 0)) :: none :: none :: none :: some (.own 6 m 6) :: (nn29 (some (.own 1 n 6) :: some (int (n : Nat)) :: some (int k) :: (nn10 []))))
abbrev dnM2 (ns : List NdV) (os : List Int) (out : List NdV) : Mem := ⟨7, 0, some (nrowB out) :: none :: (tbM ns os).bs⟩
end Sy
namespace Sy
abbrev dnZ : Value := .agg #[.int .i64 0, .string ⟨#[]⟩, .string ⟨#[]⟩, .slice none 0 0, .slice none 0 0, .string ⟨#[]⟩]
abbrev dnG (n x m : Nat) (k : Int) : Fr := (some ((@AV.ptr 0 0)) :: none :: none :: none :: some (.own x m 6) :: (nn29 (some (.own 1 n 6) :: some (int (n : Nat)) :: some (int k) :: (nn10 []))))
theorem dnF_ren (n : Nat) {x m m' : Nat} {k k' : Int} (hm : m = m') (hk : k = k') : RenF (nm [0, 1, 2, 3, 4, 5, x]) (dnG n x m k) (dnF2 n m' k') := by
  subst hm hk
  simp only [RenF, and_true]
  exact ⟨⟨rfl, rfl⟩, ⟨rfl, rfl, rfl⟩, ⟨rfl, rfl, rfl⟩, rfl, rfl⟩
theorem dnM_ren {M : Mem} {ns out : List NdV} {os : List Int} {x n : Nat} {c : Nat → Nat → AV} (hd : [0, 1, 2, 3, 4, 5, x].Nodup) (h0 : M.get 0 = some ⟨[.own 1 ns.length 6, .own 2 os.length 1], 47, none⟩)
    (h1 : M.get 1 = some (nrowB ns)) (h2 : M.get 2 = some (irowB os)) (h3 : M.get 3 = some (nrowB ns)) (h4 : M.get 4 = some (irowB os)) (h5 : M.get x = some ⟨[], 30, some ⟨n, 6, c⟩⟩)
    (r : NRows n c out) : RenM (nm [0, 1, 2, 3, 4, 5, x]) M (dnM2 ns os out) := by
  have z : RenR (nm [0, 1, 2, 3, 4, 5, x]) (some ⟨os.length, 1, zcell os⟩) (some ⟨os.length, 1, zcell os⟩) := ⟨rfl, rfl, fun i j hi hj => RenV.free _ trivial⟩
  have y : ∀ {n : Nat} {cz : Nat → Nat → AV} {ns : List NdV}, NRows n cz ns → RenR (nm [0, 1, 2, 3, 4, 5, x]) (some ⟨n, 6, cz⟩) (some ⟨ns.length, 6, ndcell ns⟩) := fun h => ⟨h.1.symm, rfl, fun i j hi hj => h.2 _ i j (by have := h.1; simp only at hi; omega) hj⟩
  refine .of rfl rfl hd ⟨⟨x, _, rfl, h5, rfl, trivial, y r⟩, ⟨4, _, rfl, h4, rfl, trivial, z⟩, ⟨3, _, rfl, h3, rfl, trivial, y (NRows.base ns)⟩, ⟨2, _, rfl, h2, rfl, trivial, z⟩, ⟨1, _, rfl, h1, rfl, trivial, y (NRows.base ns)⟩, ⟨0, _, rfl, h0, rfl, ⟨⟨rfl, rfl, rfl⟩, ⟨rfl, rfl, rfl⟩, trivial⟩, trivial⟩, trivial⟩
theorem dnF_id (n : Nat) : RenF (nm [0, 1, 2, 3, 4, 5]) (dnF n 0 0) (dnF n 0 0) := by
  simp only [RenF, and_true]
  exact ⟨⟨rfl, rfl⟩, ⟨rfl, rfl, rfl⟩, ⟨rfl, rfl, rfl⟩, rfl, rfl⟩
theorem dnM_id (ns : List NdV) (os : List Int) : RenM (nm [0, 1, 2, 3, 4, 5]) ⟨6, 0, some ⟨[], 30, some ⟨0, 6, mkc dnZ⟩⟩ :: (tbM ns os).bs⟩ (dnM ns os []) := by
  have z : RenR (nm [0, 1, 2, 3, 4, 5]) (some ⟨os.length, 1, zcell os⟩) (some ⟨os.length, 1, zcell os⟩) := ⟨rfl, rfl, fun i j hi hj => RenV.free _ trivial⟩
  have y : ∀ {n : Nat} {cz : Nat → Nat → AV} {ns : List NdV}, NRows n cz ns → RenR (nm [0, 1, 2, 3, 4, 5]) (some ⟨n, 6, cz⟩) (some ⟨ns.length, 6, ndcell ns⟩) := fun h => ⟨h.1.symm, rfl, fun i j hi hj => h.2 _ i j (by have := h.1; simp only at hi; omega) hj⟩
  refine .of rfl rfl (by decide) ⟨⟨5, _, rfl, rfl, rfl, trivial, y (ns := []) ⟨rfl, fun σ i j hi hj => absurd hi (by omega)⟩⟩, ⟨4, _, rfl, rfl, rfl, trivial, z⟩, ⟨3, _, rfl, rfl, rfl, trivial, y (NRows.base ns)⟩, ⟨2, _, rfl, rfl, rfl, trivial, z⟩, ⟨1, _, rfl, rfl, rfl, trivial, y (NRows.base ns)⟩, ⟨0, _, rfl, rfl, rfl, ⟨⟨rfl, rfl, rfl⟩, ⟨rfl, rfl, rfl⟩, trivial⟩, trivial⟩, trivial⟩
theorem dn_loop2 (ns : List NdV) (os : List Int) (hn : ns.length ≤ 300) (hs : ∀ x ∈ ns, x.cls.length ≤ 1024 ∧ x.atts.length ≤ 1024) : ∀ (n k : Nat), k ≤ ns.length → ns.length - k < n →
    LoopToT 6 Try.prog (theBody Try.prog 11 8) n (dnF2 ns.length (ns.take k).length k) (dnM2 ns os (ns.take k)) (RG 6 fun ex F M => ex = .exit 1 ∧ F = dnF2 ns.length ns.length ns.length ∧ M = dnM2 ns os ns) := by
  intro n
  induction n with
  | zero => intro k h1 h2; omega
  | succ n ih =>
    intro k h1 h2
    have hk : (ns.take k).length = k := by rw [List.length_take]; omega
    refine roundT plain mixed 6 [cClS (ndN ns (k : Int)).cls, cClA (ndN ns (k : Int)).atts] [] 400 30 11 8 Try.func11 rfl (by kernel_rfl) (true :: false :: false :: false :: true :: (ff29 (true :: true :: true :: (ff10 [])))) ((.br (.yes (.yes (.yes (.yes (.yes .done))))) .done)) (let k0 := k; let k : Int := k; let out := ns.take k0; (let e1 := (@ByteArray.mk (@Array.mk _ [])); let e2 := (@Value.tuple (@Array.mk _ [])); let e3 := (@AV.view (((ns.getD (k).toNat ndNone)).cls).length 1 (fun y0 => (fun y1 => (@AV.lit ([(@Value.string (((ns.getD (k).toNat ndNone)).cls.getD y0 e1))].getD y1 e2))))); let e4 := (((@ndN ns k)).cls); let e5 := (@AV.view e4.length 1 (fun y0 => (fun y1 => (@AV.lit ([(@Value.string (((@ndN ns k)).cls.getD y0 e1))].getD y1 e2))))); let e6 := (@AV.view (((ns.getD (k).toNat ndNone)).atts).length 2 (fun y0 => (fun y1 => (@AV.lit ([(@Value.string ((((ns.getD (k).toNat ndNone)).atts.getD y0 attrNone)).name), (@Value.string ((((ns.getD (k).toNat ndNone)).atts.getD y0 attrNone)).value)].getD y1 e2))))); let e7 := (((@ndN ns k)).atts); let e8 := (@AV.view e7.length 2 (fun y0 => (fun y1 => (@AV.lit ([(@Value.string ((((@ndN ns k)).atts.getD y0 attrNone)).name), (@Value.string ((((@ndN ns k)).atts.getD y0 attrNone)).value)].getD y1 e2))))); let e9 := ((out).length + 1); let e10 := (some (@AV.own 1 (ns).length 6)); let e11 := (some (int (((ns).length : Nat) : Int))); let e12 := (int ((ns.getD (k).toNat ndNone)).par); let e13 := (@AV.lit (@Value.string ((ns.getD (k).toNat ndNone)).tag)); let e14 := (@AV.lit (@Value.string ((ns.getD (k).toNat ndNone)).id)); let e15 := (@AV.view e4.length 1 (fun y2 => (fun y3 => (@AV.lit ([(@Value.string (((@ndN ns k)).cls.getD y2 e1))].getD y3 e2))))); let e16 := (@AV.view e7.length 2 (fun y2 => (fun y3 => (@AV.lit ([(@Value.string ((((@ndN ns k)).atts.getD y2 attrNone)).name), (@Value.string ((((@ndN ns k)).atts.getD y2 attrNone)).value)].getD y3 e2))))); let e17 := (@AV.lit (@Value.string ((ns.getD (k).toNat ndNone)).text)); let e18 := (@Value.string e1); let e19 := (@Value.slice none 0 0); let e20 := (@Array.toList _ (@Array.mk _ [(@Value.int IntKind.i64 (0 : Int)), e18, e18, e19, e19, e18])); let e21 := (@List.map _ _ AV.lit (@Array.toList _ (@Array.mk _ [(@List.get _ e20 (@Fin.mk _ 0 (@Nat.le_of_ble_eq_true _ _ (@Eq.refl _ true)))), (@List.get _ e20 (@Fin.mk _ 1 (@Nat.le_of_ble_eq_true _ _ (@Eq.refl _ true)))), (@List.get _ e20 (@Fin.mk _ 2 (@Nat.le_of_ble_eq_true _ _ (@Eq.refl _ true)))), (@List.get _ e20 (@Fin.mk _ 3 (@Nat.le_of_ble_eq_true _ _ (@Eq.refl _ true)))), (@List.get _ e20 (@Fin.mk _ 4 (@Nat.le_of_ble_eq_true _ _ (@Eq.refl _ true)))), (@List.get _ e20 (@Fin.mk _ 5 (@Nat.le_of_ble_eq_true _ _ (@Eq.refl _ true))))]))); let e22 := (0 + ((e12 :: e13 :: e14 :: e5 :: e8 :: [e17])).length); let e23 := (@AV.lit e18); let e24 := (@AV.lit e19); let e25 := (some (@Blk.mk [] 3 (some (@Rw.mk (os).length 1 (@zcell os))))); let e26 := (some (@Blk.mk [] 30 (some (@Rw.mk (ns).length 6 (@ndcell ns))))); let e27 := (some (@Blk.mk [(@AV.own 1 (ns).length 6), (@AV.own 2 (os).length 1)] 47 none)); (.fork (!(leI (((ns).length : Nat) : Int) k)) (.need (@inR k (ns).length) (.need (@Nat.blt (k).toNat (ns).length) (.need (@isSo (@And ((@HAppend.hAppend _ _ _ _ (@HAppend.hAppend _ _ _ _ [] [e3]) []) = [e5]) (@Or (false = true) (e4.length ≤ 1024)))) (.need (@isSo (@And ((@HAppend.hAppend _ _ _ _ (@HAppend.hAppend _ _ _ _ [] [e6]) []) = [e8]) (@Or (false = true) (e7.length ≤ 1024)))) (.need (Bool.true && ((@Nat.ble (out).length (out).length) && ((@Nat.ble (e9 * 104) 140737488355328) && (@Nat.ble e9 17592186044416)))) (.leaf (Ex.norm, (((some (@AV.ptr 0 0)) :: none :: none :: none :: (some (@AV.own ((((7 + 1) + 1) + 1) + 1) e9 6)) :: (nn29 (e10 :: e11 :: (some (int (w64 (k + (1 : Int))))) :: (nn10 [])))), (@Mem.mk (((((7 + 1) + 1) + 1) + 1) + 1) (((((0 + 1) + 1) + 1) + 1) + 1) ((some (@Blk.mk [] 30 (some (@Rw.mk e9 6 (@appc (out).length (@ndcell out) (fun y0 => (fun y1 => (@getA (@List.take _ 6 (e12 :: e13 :: e14 :: e15 :: e16 :: (e17 :: (@List.drop _ (0 + ((e12 :: e13 :: e14 :: e15 :: e16 :: [e17])).length) e21)))) ((y0 * 6) + y1))))))))) :: ((some (@Blk.mk (e12 :: e13 :: e14 :: e5 :: e8 :: (e17 :: (@List.drop _ e22 e21))) 30 none)) :: ((some (@Blk.mk (e12 :: e13 :: e14 :: e5 :: e8 :: (e17 :: (@List.drop _ e22 [(int (0 : Int)), e23, e23, e24, e24, e23]))) 30 none)) :: (some (@Blk.mk (e12 :: e13 :: e14 :: e5 :: e8 :: (@List.drop _ (4 + ([e8]).length) (e12 :: e13 :: e14 :: e5 :: (@List.drop _ (3 + ([e5]).length) [e12, e13, e14, e3, e6, e17])))) 30 none)) :: [(some (@Blk.mk (e12 :: e13 :: e14 :: e3 :: e6 :: e17 :: (@List.drop _ (0 + ([e12, e13, e14, e3, e6, e17]).length) [(int (0 : Int)), e23, e23, e24, e24, e23])) 30 none)), none, none, e25, e26, e25, e26, e27])))))))))))) (.leaf ((@Ex.exit 1), (((some (@AV.ptr 0 0)) :: none :: none :: none :: (some (@AV.own 6 (out).length 6)) :: (nn29 (e10 :: e11 :: (some (int k)) :: (nn10 [])))), (@Mem.mk 7 0 [(some (@Blk.mk [] 30 (some (@Rw.mk (out).length 6 (@ndcell out))))), none, e25, e26, e25, e26, e27]))))))) (by kernel_rfl) ?_
    refine fork_ok (fun h3 => ?_) (fun h3 => ?_)
    · simp only [Bool.not_eq_true', Bool.not_eq_false', leI_t, leI_f, eqI_t, eqI_f, inR_t, inR_f, isSo_t, isSo_f] at h3
      have hin : inR (k : Int) ns.length = true := by rw [inR_t]; omega
      have hlt : Nat.blt (k : Int).toNat ns.length = true := by rw [Nat.blt_eq]; omega
      obtain ⟨hc, ha⟩ := hs _ (getD_mem ns (k : Int) ndNone (by omega) (by omega))
      have hroom : (true && (Nat.ble (ns.take k).length (ns.take k).length && (Nat.ble (((ns.take k).length + 1) * 104) 140737488355328 && Nat.ble ((ns.take k).length + 1) 17592186044416))) = true := by
        simp only [Bool.true_and, Bool.and_eq_true, Nat.ble_eq]; omega
      refine need_t hin (need_t hlt (need_so ⟨rfl, Or.inr hc⟩ (need_so ⟨rfl, Or.inr ha⟩ (need_t hroom ?_))))
      have et : ns.take (k + 1) = ns.take k ++ [ndN ns (k : Int)] := by
        unfold ndN
        rw [List.take_add_one, List.getD_eq_getElem?_getD]
        have hg : ns[k]? = some ns[k] := List.getElem?_eq_getElem (by omega)
        rw [Int.toNat_natCast, hg]; rfl
      have := ih (k + 1) (by omega) (by omega)
      rw [et] at this
      refine LoopToT.ren [0, 1, 2, 3, 4, 5, 11] rfl ?_ ?_ this
      · exact dnF_ren _ (by simp) (by rw [w64_in (by omega)]; rfl)
      · exact dnM_ren (by decide) rfl rfl rfl rfl rfl rfl (NRows.app1 _ (NRows.base _) (fun σ j hj => by
          rcases j with _ | _ | _ | _ | _ | _ | j
          · exact rfl
          · exact rfl
          · exact rfl
          · exact RenV.free σ (ndA_free (ndN ns (k : Int)) 3)
          · exact RenV.free σ (ndA_free (ndN ns (k : Int)) 4)
          · exact rfl
          · omega))
    · simp only [Bool.not_eq_true', Bool.not_eq_false', leI_t, leI_f, eqI_t, eqI_f, inR_t, inR_f, isSo_t, isSo_f] at h3
      have hk : k = ns.length := by omega
      subst hk
      rw [List.take_length]
      exact ⟨_, _, [0, 1, 2, 3, 4, 5, 6], rfl, dnF_ren _ rfl rfl, dnM_ren (by decide) rfl rfl rfl rfl rfl rfl (NRows.base _), rfl, rfl, rfl⟩
theorem dn_loop (ns : List NdV) (os : List Int) (h0 : 0 < ns.length) (hn : ns.length ≤ 300) (hs : ∀ x ∈ ns, x.cls.length ≤ 1024 ∧ x.atts.length ≤ 1024) :
    LoopToT 6 Try.prog (theBody Try.prog 11 8) (ns.length + 1) (dnF ns.length ([] : List NdV).length 0) (dnM ns os []) (RG 6 fun ex F M => ex = .exit 1 ∧ F = dnF2 ns.length ns.length ns.length ∧ M = dnM2 ns os ns) := by
  refine roundT plain mixed 6 [cClS (ndN ns 0).cls, cClA (ndN ns 0).atts] [] 400 30 11 8 Try.func11 rfl (by kernel_rfl) (true :: false :: false :: false :: true :: (ff29 (true :: true :: true :: (ff10 [])))) ((.br (.yes (.yes (.yes (.yes (.yes .done))))) .done)) (let k : Int := 0; let out : List NdV := []; (let e1 := (@ByteArray.mk (@Array.mk _ [])); let e2 := (@Value.tuple (@Array.mk _ [])); let e3 := (@AV.view (((ns.getD (k).toNat ndNone)).cls).length 1 (fun y0 => (fun y1 => (@AV.lit ([(@Value.string (((ns.getD (k).toNat ndNone)).cls.getD y0 e1))].getD y1 e2))))); let e4 := (((@ndN ns k)).cls); let e5 := (@AV.view e4.length 1 (fun y0 => (fun y1 => (@AV.lit ([(@Value.string (((@ndN ns k)).cls.getD y0 e1))].getD y1 e2))))); let e6 := (@AV.view (((ns.getD (k).toNat ndNone)).atts).length 2 (fun y0 => (fun y1 => (@AV.lit ([(@Value.string ((((ns.getD (k).toNat ndNone)).atts.getD y0 attrNone)).name), (@Value.string ((((ns.getD (k).toNat ndNone)).atts.getD y0 attrNone)).value)].getD y1 e2))))); let e7 := (((@ndN ns k)).atts); let e8 := (@AV.view e7.length 2 (fun y0 => (fun y1 => (@AV.lit ([(@Value.string ((((@ndN ns k)).atts.getD y0 attrNone)).name), (@Value.string ((((@ndN ns k)).atts.getD y0 attrNone)).value)].getD y1 e2))))); let e9 := ((out).length + 1); let e10 := (some (@AV.own 1 (ns).length 6)); let e11 := (some (int (((ns).length : Nat) : Int))); let e12 := (int ((ns.getD (k).toNat ndNone)).par); let e13 := (@AV.lit (@Value.string ((ns.getD (k).toNat ndNone)).tag)); let e14 := (@AV.lit (@Value.string ((ns.getD (k).toNat ndNone)).id)); let e15 := (@AV.view e4.length 1 (fun y2 => (fun y3 => (@AV.lit ([(@Value.string (((@ndN ns k)).cls.getD y2 e1))].getD y3 e2))))); let e16 := (@AV.view e7.length 2 (fun y2 => (fun y3 => (@AV.lit ([(@Value.string ((((@ndN ns k)).atts.getD y2 attrNone)).name), (@Value.string ((((@ndN ns k)).atts.getD y2 attrNone)).value)].getD y3 e2))))); let e17 := (@AV.lit (@Value.string ((ns.getD (k).toNat ndNone)).text)); let e18 := (@Value.string e1); let e19 := (@Value.slice none 0 0); let e20 := (@Array.toList _ (@Array.mk _ [(@Value.int IntKind.i64 (0 : Int)), e18, e18, e19, e19, e18])); let e21 := (@List.map _ _ AV.lit (@Array.toList _ (@Array.mk _ [(@List.get _ e20 (@Fin.mk _ 0 (@Nat.le_of_ble_eq_true _ _ (@Eq.refl _ true)))), (@List.get _ e20 (@Fin.mk _ 1 (@Nat.le_of_ble_eq_true _ _ (@Eq.refl _ true)))), (@List.get _ e20 (@Fin.mk _ 2 (@Nat.le_of_ble_eq_true _ _ (@Eq.refl _ true)))), (@List.get _ e20 (@Fin.mk _ 3 (@Nat.le_of_ble_eq_true _ _ (@Eq.refl _ true)))), (@List.get _ e20 (@Fin.mk _ 4 (@Nat.le_of_ble_eq_true _ _ (@Eq.refl _ true)))), (@List.get _ e20 (@Fin.mk _ 5 (@Nat.le_of_ble_eq_true _ _ (@Eq.refl _ true))))]))); let e22 := (0 + ((e12 :: e13 :: e14 :: e5 :: e8 :: [e17])).length); let e23 := (@AV.lit e18); let e24 := (@AV.lit e19); let e25 := (some (@Blk.mk [] 3 (some (@Rw.mk (os).length 1 (@zcell os))))); let e26 := (some (@Blk.mk [] 30 (some (@Rw.mk (ns).length 6 (@ndcell ns))))); let e27 := (some (@Blk.mk [(@AV.own 1 (ns).length 6), (@AV.own 2 (os).length 1)] 47 none)); (.fork (!(leI (((ns).length : Nat) : Int) k)) (.need (@inR k (ns).length) (.need (@Nat.blt (k).toNat (ns).length) (.need (@isSo (@And ((@HAppend.hAppend _ _ _ _ (@HAppend.hAppend _ _ _ _ [] [e3]) []) = [e5]) (@Or (false = true) (e4.length ≤ 1024)))) (.need (@isSo (@And ((@HAppend.hAppend _ _ _ _ (@HAppend.hAppend _ _ _ _ [] [e6]) []) = [e8]) (@Or (false = true) (e7.length ≤ 1024)))) (.need (Bool.true && ((@Nat.ble (out).length (out).length) && ((@Nat.ble (e9 * 104) 140737488355328) && (@Nat.ble e9 17592186044416)))) (.leaf (Ex.norm, (((some (@AV.ptr 0 0)) :: none :: none :: none :: (some (@AV.own ((((6 + 1) + 1) + 1) + 1) e9 6)) :: (nn29 (e10 :: e11 :: (some (int (w64 (k + (1 : Int))))) :: (nn10 [])))), (@Mem.mk (((((6 + 1) + 1) + 1) + 1) + 1) (((((0 + 1) + 1) + 1) + 1) + 1) ((some (@Blk.mk [] 30 (some (@Rw.mk e9 6 (@appc (out).length (@ndcell out) (fun y0 => (fun y1 => (@getA (@List.take _ 6 (e12 :: e13 :: e14 :: e15 :: e16 :: (e17 :: (@List.drop _ (0 + ((e12 :: e13 :: e14 :: e15 :: e16 :: [e17])).length) e21)))) ((y0 * 6) + y1))))))))) :: ((some (@Blk.mk (e12 :: e13 :: e14 :: e5 :: e8 :: (e17 :: (@List.drop _ e22 e21))) 30 none)) :: ((some (@Blk.mk (e12 :: e13 :: e14 :: e5 :: e8 :: (e17 :: (@List.drop _ e22 [(int (0 : Int)), e23, e23, e24, e24, e23]))) 30 none)) :: (some (@Blk.mk (e12 :: e13 :: e14 :: e5 :: e8 :: (@List.drop _ (4 + ([e8]).length) (e12 :: e13 :: e14 :: e5 :: (@List.drop _ (3 + ([e5]).length) [e12, e13, e14, e3, e6, e17])))) 30 none)) :: [(some (@Blk.mk (e12 :: e13 :: e14 :: e3 :: e6 :: e17 :: (@List.drop _ (0 + ([e12, e13, e14, e3, e6, e17]).length) [(int (0 : Int)), e23, e23, e24, e24, e23])) 30 none)), none, e25, e26, e25, e26, e27])))))))))))) (.leaf ((@Ex.exit 1), (((some (@AV.ptr 0 0)) :: none :: none :: none :: (some (@AV.own 5 (out).length 6)) :: (nn29 (e10 :: e11 :: (some (int k)) :: (nn10 [])))), (@Mem.mk 6 0 [(some (@Blk.mk [] 30 (some (@Rw.mk (out).length 6 (@ndcell out))))), e25, e26, e25, e26, e27]))))))) (by kernel_rfl) ?_
  refine fork_ok (fun h3 => ?_) (fun h3 => ?_)
  · simp only [Bool.not_eq_true', Bool.not_eq_false', leI_t, leI_f, eqI_t, eqI_f, inR_t, inR_f, isSo_t, isSo_f] at h3
    have hin : inR (0 : Int) ns.length = true := by rw [inR_t]; omega
    have hlt : Nat.blt (0 : Int).toNat ns.length = true := by rw [Nat.blt_eq]; exact h0
    obtain ⟨hc, ha⟩ := hs _ (getD_mem ns (0 : Int) ndNone (by omega) (by omega))
    refine need_t hin (need_t hlt (need_so ⟨rfl, Or.inr hc⟩ (need_so ⟨rfl, Or.inr ha⟩ (need_t rfl ?_))))
    have et : ns.take 1 = [] ++ [ndN ns 0] := by
      unfold ndN
      match ns, h0 with
      | x :: r, _ => rfl
    have := dn_loop2 ns os hn hs ns.length 1 (by omega) (by omega)
    rw [et] at this
    refine LoopToT.ren [0, 1, 2, 3, 4, 5, 10] rfl ?_ ?_ this
    · exact dnF_ren _ (by simp) rfl
    · exact dnM_ren (by decide) rfl rfl rfl rfl rfl rfl (NRows.app1 _ (NRows.base _) (fun σ j hj => by
        rcases j with _ | _ | _ | _ | _ | _ | j
        · exact rfl
        · exact rfl
        · exact rfl
        · exact RenV.free σ (ndA_free (ndN ns 0) 3)
        · exact RenV.free σ (ndA_free (ndN ns 0) 4)
        · exact rfl
        · omega))
  · simp only [Bool.not_eq_true', Bool.not_eq_false', leI_t, leI_f, eqI_t, eqI_f, inR_t, inR_f, isSo_t, isSo_f] at h3
    omega
noncomputable abbrev lpDn (ns : List NdV) (os : List Int) : Lp Try.prog where
  f := 11
  key := 8
  S := formS (fun _ M => some M.stamp) (fun _ => dnF ns.length 0 0) (fun k => ⟨6, k, some ⟨[], 30, some ⟨0, 6, mkc dnZ⟩⟩ :: (tbM ns os).bs⟩) (fun _ => 0 < ns.length ∧ ns.length ≤ 300 ∧ ∀ x ∈ ns, x.cls.length ≤ 1024 ∧ x.atts.length ≤ 1024) (fun _ => .leaf (.exit 1, dnF2 ns.length ns.length ns.length, dnM2 ns os ns)) (true :: false :: false :: false :: true :: (ff29 (true :: true :: true :: (ff10 []))))
  one := by kernel_rfl
  ok := formS_ok fun k ⟨h0, h1, h2⟩ => by
    refine ⟨ns.length + 1, ?_⟩
    have h3 := LoopToT.out (dn_loop ns os h0 h1 h2)
    have key : LoopToT 6 Try.prog (theBody Try.prog 11 8) (ns.length + 1) (dnF ns.length 0 0) ⟨6, 0, some ⟨[], 30, some ⟨0, 6, mkc dnZ⟩⟩ :: (tbM ns os).bs⟩ _ :=
      LoopToT.ren [0, 1, 2, 3, 4, 5] rfl (dnF_id _) (dnM_id ns os) h3
    exact (LoopTo.stampB 0 (LoopToT.to key (Nat.le_refl 6))).mono fun ex F M hg => by
      obtain ⟨rfl, rfl, rfl⟩ := hg
      rfl
end Sy
end Go.Proofs.Ytkfecfbaljichaa
namespace Go.Proofs.Ytkfecfbaljichaa
open Go Go.RowKit Pl Sy
def pN (ns : List NdV) (k : Nat) : Int := (ns.getD k ndNone).par
def tgB (ns : List NdV) (k : Nat) : Bool := !bytesEq (ns.getD k ndNone).tag.data.toList []
def upI (ns : List NdV) (i : Int) : Int := up (pN ns) i.toNat
def undB (ns : List NdV) (i j : Int) : Bool := under (pN ns) i.toNat j
def depI (ns : List NdV) (i : Int) : Int := dep (pN ns) i.toNat
def stdB (ns : List NdV) (i : Int) : Bool := standsN (pN ns) (tgB ns) i.toNat
theorem Sy.up_t (ns : List NdV) (i : Int) (h : inR i ns.length = true) : CallTo Try.prog 47 [nview ns, int i] M0 fun v _ => v = int (upI ns i) :=
  toV [] [] 400 30 (.yes (.br (.auto 2 (.br .done .done)) (.auto 3 .done))) (.need (@inR i (ns).length) (.fork (leI (0 : Int) ((ns.getD (i).toNat ndNone)).par) (.fork (!(leI i ((ns.getD (i).toNat ndNone)).par)) (.leaf (int ((ns.getD (i).toNat ndNone)).par)) (.leaf (int (-1 : Int)))) (.leaf (int (-1 : Int))))) (by kernel_rfl) (by
    have e : upI ns i = if 0 ≤ (ns.getD i.toNat ndNone).par ∧ (ns.getD i.toNat ndNone).par < i then (ns.getD i.toNat ndNone).par else -1 := by
      unfold upI up pN
      rw [inR_t] at h
      rw [show ((i.toNat : Nat) : Int) = i by omega]
    rw [e]
    refine need_t h (fork_ok (fun h1 => fork_ok (fun h2 => ?_) (fun h2 => ?_)) (fun h1 => ?_))
    · simp only [Bool.not_eq_true', Bool.not_eq_false', leI_t, leI_f, eqI_t, eqI_f, inR_t, inR_f, isSo_t, isSo_f] at h1
      simp only [Bool.not_eq_true', Bool.not_eq_false', leI_t, leI_f, eqI_t, eqI_f, inR_t, inR_f, isSo_t, isSo_f] at h2
      rw [if_pos (by omega)]; rfl
    · simp only [Bool.not_eq_true', Bool.not_eq_false', leI_t, leI_f, eqI_t, eqI_f, inR_t, inR_f, isSo_t, isSo_f] at h1
      simp only [Bool.not_eq_true', Bool.not_eq_false', leI_t, leI_f, eqI_t, eqI_f, inR_t, inR_f, isSo_t, isSo_f] at h2
      rw [if_neg (by omega)]; rfl
    · simp only [Bool.not_eq_true', Bool.not_eq_false', leI_t, leI_f, eqI_t, eqI_f, inR_t, inR_f, isSo_t, isSo_f] at h1
      rw [if_neg (by omega)]; rfl)
noncomputable abbrev Sy.cUpN (ns : List NdV) : Con Try.prog := atX 47 (fun args => match args with | [_, .lit (.int .i64 i)] => some i | _ => none) (fun i => [nview ns, int i]) (fun i => int (upI ns i)) (fun i => inR i ns.length = true) fun i h => ⟨⟨⟨nview_free ns, trivial, trivial⟩, trivial⟩, up_t ns i h⟩
namespace Sy
abbrev udF (ns : List NdV) (j k : Int) (b : Bool) : Fr := (some ((@AV.view (ns).length 6 (@ndcell ns))) :: none :: some ((int j)) :: none :: none :: none :: some (boo b) :: some (int k) :: (nn11 []))
abbrev udE (b : Bool) : Fr := (nn6 (some (boo b) :: (nn12 [])))
end Sy
def undX (ns : List NdV) (k j : Int) : Bool := underF (pN ns) k j
theorem up_in (ns : List NdV) (i : Int) (h0 : 0 ≤ i) : -1 ≤ upI ns i ∧ upI ns i < i := by
  unfold upI
  have h1 := up_ge (pN ns) i.toNat
  have h2 := up_lt (pN ns) i.toNat
  omega
theorem undX_hit (ns : List NdV) (k j : Int) (h : 0 ≤ k) (he : k = j) : undX ns k j = true := underF_hit _ j h he
theorem undX_miss (ns : List NdV) (k j : Int) (h : 0 ≤ k) (he : ¬ k = j) : undX ns k j = undX ns (upI ns k) j := underF_miss _ j h he
theorem undX_none (ns : List NdV) (k j : Int) (h : k < 0) : undX ns k j = false := underF_none _ j h
theorem undB_from (ns : List NdV) (i j : Int) : undB ns i j = undX ns (upI ns i) j := under_from _ _ j
def UdG (ns : List NdV) (j k : Int) (ex : Ex) (F : Fr) (M : Mem) : Prop := M = M0 ∧ ∃ k' b, F = udF ns j k' b ∧ ((undX ns k j = true ∧ b = true ∧ ex = .ret) ∨ (undX ns k j = false ∧ b = false ∧ ex = .exit 0))
theorem UdG_up (ns : List NdV) (j k : Int) (h : 0 ≤ k) (he : ¬ k = j) : UdG ns j (upI ns k) = UdG ns j k := by
  unfold UdG
  rw [undX_miss ns k j h he]
theorem Sy.und_loop (ns : List NdV) (j : Int) (hl : ns.length ≤ 17592186044416) : ∀ (n : Nat) (k : Int), k < ns.length → -1 ≤ k → k < n →
    LoopTo Try.prog (theBody Try.prog 48 3) (n + 1) (udF ns j k false) M0 (UdG ns j k) := by
  intro n
  induction n with
  | zero =>
    intro k h0 h1 h2
    refine roundL [cUpN ns] [] 400 30 48 3 Try.func48 rfl (by kernel_rfl) (true :: false :: true :: false :: false :: false :: true :: true :: (ff11 [])) (.br (.br .done (.yes .done)) .done) (let e1 := (@AV.view (ns).length 6 (@ndcell ns)); (.fork (leI (0 : Int) k) (.fork (eqI k j) (.leaf (Ex.ret, (((some e1) :: none :: (some (int j)) :: none :: none :: none :: (some (boo true)) :: (some (int k)) :: (nn11 [])), (@Mem.mk 0 0 [])))) (.need (@isSo (@And ((@HAppend.hAppend _ _ _ _ (@HAppend.hAppend _ _ _ _ [] [e1, (int k)]) []) = [e1, (int k)]) ((@inR k (ns).length) = true))) (.leaf (Ex.norm, (((some e1) :: none :: (some (int j)) :: none :: none :: none :: (some (boo false)) :: (some (int (@upI ns k))) :: (nn11 [])), (@Mem.mk 0 0 [])))))) (.leaf ((@Ex.exit 0), (((some e1) :: none :: (some (int j)) :: none :: none :: none :: (some (boo false)) :: (some (int k)) :: (nn11 [])), (@Mem.mk 0 0 [])))))) (by kernel_rfl) ?_
    refine fork_ok (fun h => ?_) (fun h => ?_)
    · simp only [Bool.not_eq_true', Bool.not_eq_false', leI_t, leI_f, eqI_t, eqI_f, inR_t, inR_f, isSo_t, isSo_f] at h
      omega
    · simp only [Bool.not_eq_true', Bool.not_eq_false', leI_t, leI_f, eqI_t, eqI_f, inR_t, inR_f, isSo_t, isSo_f] at h
      exact ⟨rfl, k, false, rfl, .inr ⟨undX_none ns k j (by omega), rfl, rfl⟩⟩
  | succ n ih =>
    intro k h0 h1 h2
    refine roundL [cUpN ns] [] 400 30 48 3 Try.func48 rfl (by kernel_rfl) (true :: false :: true :: false :: false :: false :: true :: true :: (ff11 [])) (.br (.br .done (.yes .done)) .done) (let e1 := (@AV.view (ns).length 6 (@ndcell ns)); (.fork (leI (0 : Int) k) (.fork (eqI k j) (.leaf (Ex.ret, (((some e1) :: none :: (some (int j)) :: none :: none :: none :: (some (boo true)) :: (some (int k)) :: (nn11 [])), (@Mem.mk 0 0 [])))) (.need (@isSo (@And ((@HAppend.hAppend _ _ _ _ (@HAppend.hAppend _ _ _ _ [] [e1, (int k)]) []) = [e1, (int k)]) ((@inR k (ns).length) = true))) (.leaf (Ex.norm, (((some e1) :: none :: (some (int j)) :: none :: none :: none :: (some (boo false)) :: (some (int (@upI ns k))) :: (nn11 [])), (@Mem.mk 0 0 [])))))) (.leaf ((@Ex.exit 0), (((some e1) :: none :: (some (int j)) :: none :: none :: none :: (some (boo false)) :: (some (int k)) :: (nn11 [])), (@Mem.mk 0 0 [])))))) (by kernel_rfl) ?_
    refine fork_ok (fun h => ?_) (fun h => ?_)
    · simp only [Bool.not_eq_true', Bool.not_eq_false', leI_t, leI_f, eqI_t, eqI_f, inR_t, inR_f, isSo_t, isSo_f] at h
      refine fork_ok (fun h3 => ?_) (fun h3 => ?_)
      · simp only [Bool.not_eq_true', Bool.not_eq_false', leI_t, leI_f, eqI_t, eqI_f, inR_t, inR_f, isSo_t, isSo_f] at h3
        exact ⟨rfl, k, true, rfl, .inl ⟨undX_hit ns k j h h3, rfl, rfl⟩⟩
      · simp only [Bool.not_eq_true', Bool.not_eq_false', leI_t, leI_f, eqI_t, eqI_f, inR_t, inR_f, isSo_t, isSo_f] at h3
        have hu := up_in ns k h
        refine need_so ⟨rfl, by rw [inR_t]; omega⟩ ?_
        have := ih (upI ns k) (by omega) (by omega) (by omega)
        rw [UdG_up ns j k h h3] at this
        exact this
    · simp only [Bool.not_eq_true', Bool.not_eq_false', leI_t, leI_f, eqI_t, eqI_f, inR_t, inR_f, isSo_t, isSo_f] at h
      exact ⟨rfl, k, false, rfl, .inr ⟨undX_none ns k j (by omega), rfl, rfl⟩⟩
namespace Sy
noncomputable abbrev lp_und (ns : List NdV) : Lp Try.prog where
  f := 48
  key := 3
  S := formS (fun F M => match slotI F 2, slotI F 7 with | some j, some k => some (j, k) | _, _ => none) (fun x => udF ns x.1 x.2 false) (fun _ => M0) (fun x => ns.length ≤ 17592186044416 ∧ x.2 < ns.length ∧ -1 ≤ x.2) (fun x => .fork (undX ns x.2 x.1) (.leaf (.ret, udE true, M0)) (.leaf (.exit 0, udE false, M0))) (true :: false :: true :: false :: false :: false :: true :: true :: (ff11 []))
  one := by kernel_rfl
  ok := formS_ok fun x ⟨h1, h2, h3⟩ => by
    obtain ⟨j, k⟩ := x
    refine ⟨(k.toNat + 1) + 1, ?_⟩
    refine ((Sy.und_loop ns j h1 (k.toNat + 1) k h2 h3 (by omega)).out (ff6 (true :: (ff12 [])))).mono fun ex F M hg => ?_
    obtain ⟨F0, ⟨hM, k', b, hF, hg⟩, rfl⟩ := hg
    rcases hg with ⟨q1, rfl, rfl⟩ | ⟨q1, rfl, rfl⟩
    · exact .inl ⟨q1, by rw [hM, hF]; rfl⟩
    · exact .inr ⟨q1, by rw [hM, hF]; rfl⟩
end Sy
theorem Sy.und_t (ns : List NdV) (i j : Int) (hl : ns.length ≤ 17592186044416) (h : inR i ns.length = true) : CallTo Try.prog 48 [nview ns, int i, int j] M0 fun v _ => v = boo (undB ns i j) :=
  toV [cUpN ns] [lp_und ns] 400 30 (.yes (.br .done .done)) (let e1 := (@AV.view (ns).length 6 (@ndcell ns)); (.need (@isSo (@And ((@HAppend.hAppend _ _ _ _ (@HAppend.hAppend _ _ _ _ [] [e1, (int i)]) []) = [e1, (int i)]) ((@inR i (ns).length) = true))) (.need (@isSo (@And (((some e1) :: none :: (some (int j)) :: (none :: none :: none :: (some (boo false)) :: (some (int (@upI ns i))) :: (nn11 []))) = ((some e1) :: none :: (some (int j)) :: none :: none :: none :: (some (boo false)) :: (some (int (@upI ns i))) :: (nn11 []))) ((@Mem.mk 0 0 []) = M0))) (.need (@isSo (@And ((ns).length ≤ 17592186044416) (@And ((@upI ns i) < (((ns).length : Nat) : Int)) ((-1 : Int) ≤ (@upI ns i))))) (.fork (@undX ns (@upI ns i) j) (.leaf (boo true)) (.leaf (boo false))))))) (by kernel_rfl) (by
    have h' := h
    rw [inR_t] at h'
    have hu := up_in ns i h'.1
    rw [undB_from]
    refine need_so ⟨rfl, h⟩ (need_so ⟨rfl, rfl⟩ (need_so ⟨hl, by omega, hu.1⟩ (fork_ok (fun q => ?_) (fun q => ?_))))
    · rw [q]; rfl
    · rw [q]; rfl)
noncomputable abbrev Sy.cUnd (ns : List NdV) : Con Try.prog := atX 48 (fun args => match args with | [_, .lit (.int .i64 i), .lit (.int .i64 j)] => some (i, j) | _ => none) (fun x => [nview ns, int x.1, int x.2]) (fun x => boo (undB ns x.1 x.2)) (fun x => ns.length ≤ 17592186044416 ∧ inR x.1 ns.length = true) fun x h => ⟨⟨⟨nview_free ns, trivial, trivial, trivial⟩, trivial⟩, und_t ns x.1 x.2 h.1 h.2⟩
noncomputable abbrev Sy.cDepC (ns : List NdV) (C : Int → Prop) (h : ∀ i, C i → CallTo Try.prog 30 [nview ns, int i] M0 fun v _ => v = int (depI ns i)) : Con Try.prog := atX 30 (fun args => match args with | [_, .lit (.int .i64 i)] => some i | _ => none) (fun i => [nview ns, int i]) (fun i => int (depI ns i)) C fun i hC => ⟨⟨⟨nview_free ns, trivial, trivial⟩, trivial⟩, h i hC⟩
theorem Sy.dep_t0 (ns : List NdV) (hl : ns.length ≤ 17592186044416) (i : Int) (C : Int → Prop) (h : ∀ i, C i → CallTo Try.prog 30 [nview ns, int i] M0 fun v _ => v = int (depI ns i)) (hi : inR i ns.length = true) (hC : ∀ b, 0 ≤ b → b < i → C b) : CallTo Try.prog 30 [nview ns, int i] M0 fun v _ => v = int (depI ns i) :=
  toV [cUpN ns, cDepC ns C h] [] 400 30 (.br (.auto 3 (.br .done (.yes (.br .done (.yes (.yes .done)))))) (.auto 4 .done)) (let e1 := (@AV.view (ns).length 6 (@ndcell ns)); let e2 := (@isSo (@And ((@HAppend.hAppend _ _ _ _ (@HAppend.hAppend _ _ _ _ [] [e1, (int i)]) []) = [e1, (int i)]) ((@inR i (ns).length) = true))); (.fork (!(!(leI (0 : Int) i))) (.fork (leI (((ns).length : Nat) : Int) i) (.leaf (int (0 : Int))) (.need e2 (.fork (!(leI (0 : Int) (@upI ns i))) (.leaf (int (1 : Int))) (.need e2 (.need (@isSo (@And ((@HAppend.hAppend _ _ _ _ (@HAppend.hAppend _ _ _ _ [] [e1, (int (@upI ns i))]) []) = [e1, (int (@upI ns i))]) (C (@upI ns i)))) (.leaf (int (w64 ((1 : Int) + (@depI ns (@upI ns i))))))))))) (.leaf (int (0 : Int))))) (by kernel_rfl) (by
    have h' := hi
    rw [inR_t] at h'
    have hu := up_in ns i h'.1
    refine fork_ok (fun q => ?_) (fun q => ?_)
    · refine fork_ok (fun q2 => ?_) (fun q2 => ?_)
      · simp only [Bool.not_eq_true', Bool.not_eq_false', leI_t, leI_f, eqI_t, eqI_f, inR_t, inR_f, isSo_t, isSo_f] at q2
        omega
      · refine need_so ⟨rfl, hi⟩ (fork_ok (fun q3 => ?_) (fun q3 => ?_))
        · simp only [Bool.not_eq_true', Bool.not_eq_false', leI_t, leI_f, eqI_t, eqI_f, inR_t, inR_f, isSo_t, isSo_f] at q3
          have e : depI ns i = 1 := by
            unfold depI
            rw [dep_root _ _ (by unfold upI at q3; omega)]; rfl
          exact leaf_int e.symm
        · simp only [Bool.not_eq_true', Bool.not_eq_false', leI_t, leI_f, eqI_t, eqI_f, inR_t, inR_f, isSo_t, isSo_f] at q3
          have e : depI ns i = 1 + depI ns (upI ns i) := by
            unfold depI
            rw [dep_up _ _ (by unfold upI at q3; omega)]
            unfold upI
            omega
          have hd : depI ns (upI ns i) ≤ upI ns i + 1 ∧ 0 ≤ depI ns (upI ns i) := by
            have := dep_le (pN ns) (upI ns i).toNat
            unfold depI
            omega
          refine need_so ⟨rfl, hi⟩ (need_so ⟨rfl, hC _ q3 hu.2⟩ (leaf_int ?_))
          rw [e, w64_in (by omega)]
    · simp only [Bool.not_eq_true', Bool.not_eq_false', leI_t, leI_f, eqI_t, eqI_f, inR_t, inR_f, isSo_t, isSo_f] at q
      omega)
theorem Sy.dep_t (ns : List NdV) (hl : ns.length ≤ 17592186044416) (i : Int) (hi : inR i ns.length = true) : CallTo Try.prog 30 [nview ns, int i] M0 fun v _ => v = int (depI ns i) := by
  have key : ∀ (n : Nat) (i : Int), i.toNat < n → inR i ns.length = true → CallTo Try.prog 30 [nview ns, int i] M0 fun v _ => v = int (depI ns i) := by
    intro n
    induction n with
    | zero => intro i hi; omega
    | succ n ih => intro i h1 h2; exact Sy.dep_t0 ns hl i (fun b => b.toNat < n ∧ inR b ns.length = true) (fun b hb => ih b hb.1 hb.2) h2 (fun b b0 b1 => ⟨by omega, by rw [inR_t] at h2 ⊢; omega⟩)
  exact key (i.toNat + 1) i (by omega) hi
noncomputable abbrev Sy.cDep (ns : List NdV) : Con Try.prog := atX 30 (fun args => match args with | [_, .lit (.int .i64 i)] => some i | _ => none) (fun i => [nview ns, int i]) (fun i => int (depI ns i)) (fun i => ns.length ≤ 17592186044416 ∧ inR i ns.length = true) fun i h => ⟨⟨⟨nview_free ns, trivial, trivial⟩, trivial⟩, dep_t ns h.1 i h.2⟩
theorem Sy.std_t (ns : List NdV) (i : Int) (hl : ns.length ≤ 17592186044416) (hi : inR i ns.length = true) : CallTo Try.prog 29 [nview ns, int i] M0 fun v _ => v = boo (stdB ns i) :=
  toV [cUpN ns, cUnd ns] [] 400 30 (.br (.yes (.br (.auto 0 (.yes (.auto 3 .done))) (.auto 4 .done))) (.yes (.br (.auto 1 (.yes (.auto 3 (.br (.auto 3 (.br (.auto 3 (.yes (.auto 2 .done))) (.auto 6 .done))) (.auto 10 .done))))) (.auto 17 .done)))) (let e1 := (@Array.toList _ (@ByteArray.data (@ByteArray.mk (@Array.mk _ [])))); let e2 := (@AV.view (ns).length 6 (@ndcell ns)); let e3 := (@upI ns i); let e4 := (w64 (i - (1 : Int))); (.fork (eqI i (0 : Int)) (.need (@inR (0 : Int) (ns).length) (.fork (eqI ((ns.getD 0 ndNone)).par (-1 : Int)) (.need (@inR (0 : Int) (ns).length) (.leaf (boo (!(@bytesEq (@Array.toList _ (@ByteArray.data ((ns.getD 0 ndNone)).tag)) e1))))) (.leaf (boo false)))) (.need (@isSo (@And ((@HAppend.hAppend _ _ _ _ (@HAppend.hAppend _ _ _ _ [] [e2, (int i)]) []) = [e2, (int i)]) ((@inR i (ns).length) = true))) (.fork (leI (0 : Int) e3) (.need (@inR e3 (ns).length) (.fork (!(@bytesEq (@Array.toList _ (@ByteArray.data ((ns.getD (e3).toNat ndNone)).tag)) e1)) (.fork (!(eqI e3 e4)) (.need (@isSo (@And ((@HAppend.hAppend _ _ _ _ (@HAppend.hAppend _ _ _ _ [] [e2, (int e4), (int e3)]) []) = [e2, (int e4), (int e3)]) (@And ((ns).length ≤ 17592186044416) ((@inR e4 (ns).length) = true)))) (.leaf (boo (@undB ns e4 e3)))) (.leaf (boo true))) (.leaf (boo false)))) (.leaf (boo false)))))) (by kernel_rfl) (by
    have h' := hi
    rw [inR_t] at h'
    have hu := up_in ns i h'.1
    refine fork_ok (fun q => ?_) (fun q => ?_)
    · simp only [Bool.not_eq_true', Bool.not_eq_false', leI_t, leI_f, eqI_t, eqI_f, inR_t, inR_f, isSo_t, isSo_f] at q
      subst q
      have e : stdB ns 0 = (decide (pN ns 0 = -1) && tgB ns 0) := by
        unfold stdB standsN
        exact if_pos rfl
      refine need_t hi (fork_ok (fun q2 => need_t hi ?_) (fun q2 => ?_))
      · simp only [Bool.not_eq_true', Bool.not_eq_false', leI_t, leI_f, eqI_t, eqI_f, inR_t, inR_f, isSo_t, isSo_f] at q2
        rw [e, show decide (pN ns 0 = -1) = true from decide_eq_true q2]
        rfl
      · simp only [Bool.not_eq_true', Bool.not_eq_false', leI_t, leI_f, eqI_t, eqI_f, inR_t, inR_f, isSo_t, isSo_f] at q2
        rw [e, show decide (pN ns 0 = -1) = false from decide_eq_false q2]
        rfl
    · simp only [Bool.not_eq_true', Bool.not_eq_false', leI_t, leI_f, eqI_t, eqI_f, inR_t, inR_f, isSo_t, isSo_f] at q
      have e : stdB ns i = (decide (0 ≤ upI ns i) && tgB ns (upI ns i).toNat && inFrom (pN ns) ((i.toNat : Int) - 1) (upI ns i).toNat) := by
        unfold stdB standsN
        rw [if_neg (by omega)]
        rfl
      refine need_so ⟨rfl, hi⟩ (fork_ok (fun q2 => ?_) (fun q2 => ?_))
      · simp only [Bool.not_eq_true', Bool.not_eq_false', leI_t, leI_f, eqI_t, eqI_f, inR_t, inR_f, isSo_t, isSo_f] at q2
        rw [show decide (0 ≤ upI ns i) = true from decide_eq_true q2, Bool.true_and] at e
        have ei : (i.toNat : Int) - 1 = ((i.toNat - 1 : Nat) : Int) := by omega
        rw [ei, inFrom_under] at e
        refine need_t (by rw [inR_t]; omega) (fork_ok (fun q3 => ?_) (fun q3 => ?_))
        · have q3' : tgB ns (upI ns i).toNat = true := q3
          rw [q3', Bool.true_and] at e
          have hw : w64 (i - 1) = i - 1 := w64_in (by omega)
          refine fork_ok (fun q4 => need_so ⟨rfl, hl, by rw [inR_t]; omega⟩ ?_) (fun q4 => ?_)
          · rw [hw] at q4 ⊢
            simp only [Bool.not_eq_true', Bool.not_eq_false', leI_t, leI_f, eqI_t, eqI_f, inR_t, inR_f, isSo_t, isSo_f] at q4
            rw [e, show decide (((upI ns i).toNat : Int) = ((i.toNat - 1 : Nat) : Int)) = false from decide_eq_false (by omega), Bool.false_or]
            unfold undB
            rw [show (((upI ns i).toNat : Nat) : Int) = upI ns i by omega, show (i - 1).toNat = i.toNat - 1 by omega]
            rfl
          · rw [hw] at q4
            simp only [Bool.not_eq_true', Bool.not_eq_false', leI_t, leI_f, eqI_t, eqI_f, inR_t, inR_f, isSo_t, isSo_f] at q4
            rw [e, show decide (((upI ns i).toNat : Int) = ((i.toNat - 1 : Nat) : Int)) = true from decide_eq_true (by omega), Bool.true_or]
            rfl
        · have q3' : tgB ns (upI ns i).toNat = false := q3
          rw [q3', Bool.false_and] at e
          rw [e]; rfl
      · simp only [Bool.not_eq_true', Bool.not_eq_false', leI_t, leI_f, eqI_t, eqI_f, inR_t, inR_f, isSo_t, isSo_f] at q2
        rw [show decide (0 ≤ upI ns i) = false from decide_eq_false (by omega)] at e
        rw [e]; rfl)
noncomputable abbrev Sy.cStd (ns : List NdV) : Con Try.prog := atX 29 (fun args => match args with | [_, .lit (.int .i64 i)] => some i | _ => none) (fun i => [nview ns, int i]) (fun i => boo (stdB ns i)) (fun i => ns.length ≤ 17592186044416 ∧ inR i ns.length = true) fun i h => ⟨⟨⟨nview_free ns, trivial, trivial⟩, trivial⟩, std_t ns i h.1 h.2⟩
def TreeOk (ns : List NdV) : Prop := (ns.length ≤ 300 ∧ ∀ n ∈ ns, n.Ok) ∧ ∀ k : Nat, k < ns.length → ndB (ndN ns k) = true ∧ stdB ns k = true ∧ depI ns k ≤ 64
namespace Sy
abbrev ckF (ns : List NdV) (k : Int) : Fr := (some ((@AV.view (ns).length 6 (@ndcell ns))) :: none :: none :: some (int k) :: (nn28 []))
end Sy
theorem Sy.chk_loop (ns : List NdV) (hT : TreeOk ns) : ∀ (n k : Nat), k ≤ ns.length → ns.length - k < n →
    LoopTo Try.prog (theBody Try.prog 14 7) n (ckF ns k) M0 fun ex F M => ex = .exit 0 ∧ F = ckF ns ns.length ∧ M = M0 := by
  have hl := hT.1.1
  intro n
  induction n with
  | zero => intro k h1 h2; omega
  | succ n ih =>
    intro k h1 h2
    refine roundL [cRgt (ndN ns (k : Int)), cStd ns, cDep ns] [] 400 30 14 7 Try.func14 rfl (by kernel_rfl) (true :: false :: false :: true :: (ff28 [])) (.br (.yes (.yes (.br (.auto 1 (.yes (.auto 1 (.br .done (.yes (.br .done .done)))))) (.auto 4 .done)))) .done) (let k : Int := k; (let e1 := (@Value.tuple (@Array.mk _ [])); let e2 := (@AV.view (ns).length 6 (@ndcell ns)); let e3 := (@isSo (@And ((@HAppend.hAppend _ _ _ _ (@HAppend.hAppend _ _ _ _ [] [e2, (int k)]) []) = [e2, (int k)]) (@And ((ns).length ≤ 17592186044416) ((@inR k (ns).length) = true)))); (.fork (!(leI (((ns).length : Nat) : Int) k)) (.need (@inR k (ns).length) (.need (@isSo (@And ((@HAppend.hAppend _ _ _ _ (@HAppend.hAppend _ _ _ _ [] [(@AV.agg [(@ndcell ns (k).toNat 0), (@ndcell ns (k).toNat 1), (@ndcell ns (k).toNat 2), (@ndcell ns (k).toNat 3), (@ndcell ns (k).toNat 4), (@ndcell ns (k).toNat 5)])]) []) = [(@AV.agg [(int ((@ndN ns k)).par), (@AV.lit (@Value.string ((@ndN ns k)).tag)), (@AV.lit (@Value.string ((@ndN ns k)).id)), (@AV.view (((@ndN ns k)).cls).length 1 (fun y0 => (fun y1 => (@AV.lit ([(@Value.string (((@ndN ns k)).cls.getD y0 (@ByteArray.mk (@Array.mk _ []))))].getD y1 e1))))), (@AV.view (((@ndN ns k)).atts).length 2 (fun y0 => (fun y1 => (@AV.lit ([(@Value.string ((((@ndN ns k)).atts.getD y0 attrNone)).name), (@Value.string ((((@ndN ns k)).atts.getD y0 attrNone)).value)].getD y1 e1))))), (@AV.lit (@Value.string ((@ndN ns k)).text))])]) (@And ((@ByteArray.size ((@ndN ns k)).tag) ≤ 9223372036854775807) (@And ((@ByteArray.size ((@ndN ns k)).id) ≤ 9223372036854775807) (@And (@And ((((@ndN ns k)).cls).length ≤ 17592186044416) (∀ (s : ByteArray), s ∈ (ndN ns k).cls → s.size ≤ maxLen)) (@And (@And ((((@ndN ns k)).atts).length ≤ 17592186044416) (∀ (t : AttrV), t ∈ (ndN ns k).atts → t.Ok)) ((@ByteArray.size ((@ndN ns k)).text) ≤ 9223372036854775807))))))) (.fork (!(!(@ndB (@ndN ns k)))) (.need e3 (.fork (!(@stdB ns k)) (.leaf (Ex.ret, (((some e2) :: none :: none :: (some (int k)) :: (nn28 [])), (@Mem.mk 0 0 [])))) (.need e3 (.fork (!(leI (@depI ns k) (64 : Int))) (.leaf (Ex.ret, (((some e2) :: none :: none :: (some (int k)) :: (nn28 [])), (@Mem.mk 0 0 [])))) (.leaf (Ex.norm, (((some e2) :: none :: none :: (some (int (w64 (k + (1 : Int))))) :: (nn28 [])), (@Mem.mk 0 0 [])))))))) (.leaf (Ex.ret, (((some e2) :: none :: none :: (some (int k)) :: (nn28 [])), (@Mem.mk 0 0 []))))))) (.leaf ((@Ex.exit 0), (((some e2) :: none :: none :: (some (int k)) :: (nn28 [])), (@Mem.mk 0 0 []))))))) (by kernel_rfl) ?_
    refine fork_ok (fun h => ?_) (fun h => ?_)
    · simp only [Bool.not_eq_true', Bool.not_eq_false', leI_t, leI_f, eqI_t, eqI_f, inR_t, inR_f, isSo_t, isSo_f] at h
      have hr : inR (k : Int) ns.length = true := by rw [inR_t]; omega
      obtain ⟨t1, t2, t3⟩ := hT.2 k (by omega)
      have e : (w64 ((k : Int) + 1)) = ((k + 1 : Nat) : Int) := by rw [w64_in (by omega)]; rfl
      have := ih (k + 1) (by omega) (by omega)
      rw [← e] at this
      have hk : (ndN ns (k : Int)).Ok := hT.1.2 _ (getD_mem ns (k : Int) _ (by omega) (by omega))
      have hl' : ns.length ≤ 17592186044416 := by omega
      have n0 : (!(!ndB (ndN ns (k : Int)))) = true := by rw [t1]; rfl
      have n1 : (!ndB (ndN ns (k : Int))) = false := by rw [t1]; rfl
      have n2 : (!stdB ns (k : Int)) = false := by rw [t2]; rfl
      have n3 : (!leI (depI ns (k : Int)) 64) = false := by rw [Bool.not_eq_false', leI_t]; exact t3
      (repeat' (first
        | exact this
        | (refine need_so ?_ ?_; (focus (first | exact ⟨rfl, hk⟩ | exact ⟨rfl, hl', hr⟩)))
        | (refine need_t ?_ ?_; (focus (first | exact hr)))
        | (refine fork_f ?_ ?_; (focus (first | exact n1 | exact n2 | exact n3)))
        | (refine fork_t ?_ ?_; (focus (first | exact n0 | exact t1 | exact t2)))))
    · simp only [Bool.not_eq_true', Bool.not_eq_false', leI_t, leI_f, eqI_t, eqI_f, inR_t, inR_f, isSo_t, isSo_f] at h
      have hk : k = ns.length := by omega
      subst hk
      exact ⟨rfl, rfl, rfl⟩
namespace Sy
noncomputable abbrev lp_chk (ns : List NdV) : Lp Try.prog where
  f := 14
  key := 7
  S := formS (fun _ _ => some ()) (fun _ => ckF ns 0) (fun _ => M0) (fun _ => TreeOk ns) (fun _ => .leaf (.exit 0, ckF ns (ns.length : Nat), M0)) (true :: false :: false :: true :: (ff28 []))
  one := by kernel_rfl
  ok := formS_ok fun _ h => ⟨ns.length + 1, (chk_loop ns h (ns.length + 1) 0 (by omega) (by omega)).mono fun ex F M hg => by
    obtain ⟨rfl, rfl, rfl⟩ := hg
    rfl⟩
end Sy
theorem Sy.chk_t (ns : List NdV) (h : TreeOk ns) (h0 : 0 < ns.length) : CallTo Try.prog 14 [nview ns] M0 fun x _ => x = int 0 :=
  toV [] [lp_chk ns] 400 30 (.br .done (.br .done .done)) (let e1 := (some (@AV.view (ns).length 6 (@ndcell ns))); (.fork (eqI (((ns).length : Nat) : Int) (0 : Int)) (.leaf (int (34 : Int))) (.fork (!(leI (((ns).length : Nat) : Int) (1024 : Int))) (.leaf (int (32 : Int))) (.need (@isSo (@And ((e1 :: (none :: none :: (some (int (0 : Int))) :: (nn28 []))) = (e1 :: none :: none :: (some (int (0 : Int))) :: (nn28 []))) ((@Mem.mk 0 0 []) = M0))) (.need (@isSo (@And (@And ((ns).length ≤ 300) (∀ (n : NdV), n ∈ ns → n.Ok)) (∀ (k : Nat), k < ns.length → ndB (ndN ns ↑k) = true ∧ stdB ns ↑k = true ∧ depI ns ↑k ≤ 64))) (.leaf (int (0 : Int)))))))) (by kernel_rfl) (by
    have hl := h.1.1
    refine fork_ok (fun q => ?_) (fun q => fork_ok (fun q2 => ?_) (fun q2 => need_so ⟨rfl, rfl⟩ (need_so h rfl)))
    · simp only [Bool.not_eq_true', Bool.not_eq_false', leI_t, leI_f, eqI_t, eqI_f, inR_t, inR_f, isSo_t, isSo_f] at q
      omega
    · simp only [Bool.not_eq_true', Bool.not_eq_false', leI_t, leI_f, eqI_t, eqI_f, inR_t, inR_f, isSo_t, isSo_f] at q2
      omega)
def OsAt (os : List Int) (rs : List Nat) : Prop := os = rs.reverse.map fun k : Nat => (k : Int)
structure BSt (k : Nat) (ns : List NdV) (os : List Int) : Prop where
  bi : ∃ rs, OsAt os rs ∧ BI (pN ns) (tgB ns) ns.length rs
  right : ∀ n ∈ ns, ndB n = true ∧ n.Ok
  len : ns.length ≤ k
  deep : os.length ≤ 64
theorem BSt.start (k : Nat) : BSt k [] [] := ⟨⟨[], rfl, BI.start _ _⟩, fun n h => (by cases h), Nat.zero_le _, Nat.zero_le _⟩
theorem OsAt.len {os : List Int} {rs : List Nat} (h : OsAt os rs) : os.length = rs.length := by rw [h]; simp
def headI (rs : List Nat) : Int := match rs with | [] => -1 | a :: _ => (a : Int)
theorem OsAt.last {os : List Int} {rs : List Nat} (h : OsAt os rs) : lastI os = headI rs := by
  unfold lastI
  cases rs with
  | nil =>
    rw [h.len]
    exact if_pos rfl
  | cons a r =>
    rw [h.len, if_neg (by rw [eqI_t]; simp only [List.length_cons]; omega)]
    rw [h]
    simp [List.getD_eq_getElem?_getD, headI]
theorem OsAt.push {os : List Int} {rs : List Nat} (h : OsAt os rs) (n : Nat) : OsAt (os ++ [(n : Int)]) (n :: rs) := by
  unfold OsAt at h ⊢
  rw [h]
  simp
theorem OsAt.pop {os : List Int} {rs : List Nat} (h : OsAt os rs) : OsAt os.dropLast rs.tail := by
  unfold OsAt at h ⊢
  rw [h]
  cases rs with
  | nil => rfl
  | cons a r => simp
theorem pN_app (ns : List NdV) (x : NdV) : (∀ j, j < ns.length → pN (ns ++ [x]) j = pN ns j) ∧ pN (ns ++ [x]) ns.length = x.par := by
  constructor
  · intro j hj
    unfold pN
    simp only [List.getD_eq_getElem?_getD]
    rw [List.getElem?_append_left hj]
  · unfold pN
    simp [List.getD_eq_getElem?_getD]
theorem tgB_app (ns : List NdV) (x : NdV) : (∀ j, j < ns.length → tgB (ns ++ [x]) j = tgB ns j) ∧ tgB (ns ++ [x]) ns.length = !bytesEq x.tag.data.toList [] := by
  constructor
  · intro j hj
    unfold tgB
    simp only [List.getD_eq_getElem?_getD]
    rw [List.getElem?_append_left hj]
  · unfold tgB
    simp [List.getD_eq_getElem?_getD]
theorem putN_right {n : NdV} (os : List Int) (h : ndB n = true) (hk : n.Ok) : ndB (putN n os) = true ∧ (putN n os).Ok := ⟨h, hk⟩
theorem wordN_right {n : NdV} (os : List Int) (h : textL n.text.data.toList = true) (hk : n.Ok) : ndB (wordN n os) = true ∧ (wordN n os).Ok := by
  constructor
  · unfold ndB wordN
    refine Eq.trans (if_pos rfl) ?_
    show (true && (true && (true && textL n.text.data.toList))) = true
    rw [h]; rfl
  · obtain ⟨_, _, _, _, h5⟩ := hk
    exact ⟨by show 0 ≤ _; omega, by show 0 ≤ _; omega, ⟨by show 0 ≤ _; omega, fun s hs => (by cases hs)⟩, ⟨by show 0 ≤ _; omega, fun s hs => (by cases hs)⟩, h5⟩
theorem BSt.push {k : Nat} {ns : List NdV} {os : List Int} (h : BSt k ns os) (x : NdV) (hx : ndB x = true ∧ x.Ok) (hp : x.par = lastI os) (hd : os.length ≠ 64) (h0 : os = [] → ns.length = 0 ∧ (!bytesEq x.tag.data.toList []) = true) :
    BSt (k + 1) (ns ++ [x]) os ∧ ((!bytesEq x.tag.data.toList []) = true → BSt (k + 1) (ns ++ [x]) (os ++ [(ns.length : Int)])) := by
  obtain ⟨⟨rs, hr, hb⟩, hrt, hl, hdp⟩ := h
  have hrl := hr.len
  have hright : ∀ n ∈ ns ++ [x], ndB n = true ∧ n.Ok := fun n hn => by
    rcases List.mem_append.1 hn with hn | hn
    · exact hrt n hn
    · rw [List.mem_singleton.1 hn]; exact hx
  have hlen : (ns ++ [x]).length = ns.length + 1 := by simp
  obtain ⟨q1, q2⟩ := BI.put (q := pN (ns ++ [x])) (tg' := tgB (ns ++ [x])) hb (pN_app ns x).1 (tgB_app ns x).1 (by rw [(pN_app ns x).2, hp, hr.last]; cases rs <;> rfl) (fun e => by
    subst e
    have : os = [] := List.eq_nil_of_length_eq_zero (by simpa using hrl)
    rw [(tgB_app ns x).2]
    exact h0 this) (by omega)
  refine ⟨⟨⟨rs, hr, by rw [hlen]; exact q1⟩, hright, by omega, hdp⟩, fun ht => ⟨⟨ns.length :: rs, hr.push _, by rw [hlen]; exact q2 (by rw [(tgB_app ns x).2]; exact ht)⟩, hright, by omega, by simp; omega⟩⟩
theorem BSt.pop {k : Nat} {ns : List NdV} {os : List Int} (h : BSt k ns os) : BSt (k + 1) ns os.dropLast := by
  obtain ⟨⟨rs, hr, hb⟩, hrt, hl, hdp⟩ := h
  refine ⟨⟨rs.tail, hr.pop, ?_⟩, hrt, by omega, by rw [List.length_dropLast]; omega⟩
  cases rs with
  | nil => exact hb
  | cons a r => exact hb.close
theorem BSt.more {k : Nat} {ns : List NdV} {os : List Int} (h : BSt k ns os) : BSt (k + 1) ns os := ⟨h.bi, h.right, by have := h.len; omega, h.deep⟩
theorem BSt.step {k : Nat} {ns : List NdV} {os : List Int} (h : BSt k ns os) (o : OpV) (ho : o.nd.Ok) : BSt (k + 1) (stepN o ns os) (stepO o ns os) := by
  unfold stepN stepO
  by_cases e0 : eqI o.kind 0 = true
  · rw [if_pos e0, if_pos e0]
    by_cases hc : canOpen o ns os = true
    · rw [if_pos hc, if_pos hc]
      unfold canOpen at hc
      simp only [Bool.and_eq_true] at hc
      obtain ⟨c1, c2, c3, c4⟩ := hc
      simp only [Bool.not_eq_true', Bool.and_eq_false_iff, Bool.not_eq_false', leI_t, eqI_f] at c1 c4
      refine (h.push (putN o.nd os) (putN_right os c3 ho) rfl (by omega) (fun e => ?_)).2 c2
      subst e
      simp only [List.length_nil] at c1
      refine ⟨?_, c2⟩
      rcases c1 with c1 | c1
      · omega
      · exact absurd rfl c1
    · rw [if_neg hc, if_neg hc]
      exact h.more
  · rw [if_neg e0, if_neg e0]
    by_cases e1 : eqI o.kind 1 = true
    · rw [if_pos e1, if_pos e1]
      by_cases hc : canWord o os = true
      · rw [if_pos hc]
        unfold canWord at hc
        simp only [Bool.and_eq_true] at hc
        obtain ⟨c1, c2, c3⟩ := hc
        simp only [Bool.not_eq_true', eqI_f] at c1 c3
        refine (h.push (wordN o.nd os) (wordN_right os c2 ho) rfl (by omega) (fun e => ?_)).1
        subst e
        exact absurd rfl c1
      · rw [if_neg hc]
        exact h.more
    · rw [if_neg e1, if_neg e1]
      exact h.pop
theorem BSt.tree {k : Nat} {ns : List NdV} {os : List Int} (h : BSt k ns os) (hk : k ≤ 300) : TreeOk ns := by
  obtain ⟨⟨rs, hr, hb⟩, hrt, hl, hdp⟩ := h
  refine ⟨⟨by omega, fun n hn => (hrt n hn).2⟩, fun j hj => ⟨(hrt _ (getD_mem ns (j : Int) _ (by omega) (by omega))).1, hb.stand j hj, ?_⟩⟩
  have := hb.deep j hj
  unfold depI
  rw [Int.toNat_natCast]
  omega
theorem ndB_lens {n : NdV} (h : ndB n = true) : n.cls.length ≤ 1024 ∧ n.atts.length ≤ 1024 := by
  unfold ndB at h
  split at h
  · simp only [Bool.and_eq_true, eqI_t] at h
    omega
  · simp only [Bool.and_eq_true, leI_t] at h
    omega
end Go.Proofs.Ytkfecfbaljichaa
namespace Go.Proofs.Ytkfecfbaljichaa
open Go Go.RowKit Pl Sy
def stAt (l : List OpV) : Nat → List NdV × List Int
  | 0 => ([], [])
  | k + 1 => (stepN (l.getD k opNone) (stAt l k).1 (stAt l k).2, stepO (l.getD k opNone) (stAt l k).1 (stAt l k).2)
def opsEnd (l : List OpV) : Nat := min l.length 300
def OpsOk (l : List OpV) : Prop := l.length ≤ 17592186044416 ∧ ∀ o ∈ l, o.nd.Ok
theorem stAt_ok (l : List OpV) (h : OpsOk l) : ∀ k, k ≤ l.length → BSt k (stAt l k).1 (stAt l k).2 := by
  intro k
  induction k with
  | zero => intro _; exact BSt.start 0
  | succ k ih =>
    intro hk
    exact (ih (by omega)).step (l.getD k opNone) (h.2 _ (getD_mem l (k : Int) opNone (by omega) (by omega)))
theorem Sy.tb_loop (l : List OpV) (h : OpsOk l) : ∀ (n k : Nat), k ≤ opsEnd l → opsEnd l - k < n →
    LoopToT 1 Try.prog (theBody Try.prog 3 6) n (tbF l (stAt l k).1.length (stAt l k).2.length k) (tbM (stAt l k).1 (stAt l k).2)
      (RG 1 fun ex F M => ex = .exit 0 ∧ F = tbF l (stAt l (opsEnd l)).1.length (stAt l (opsEnd l)).2.length (opsEnd l) ∧ M = tbM (stAt l (opsEnd l)).1 (stAt l (opsEnd l)).2) := by
  intro n
  induction n with
  | zero => intro k h1 h2; omega
  | succ n ih =>
    intro k h1 h2
    have he : opsEnd l ≤ l.length ∧ opsEnd l ≤ 300 := by unfold opsEnd; omega
    have hb := stAt_ok l h k (by omega)
    refine Sy.tb_step l (stAt l k).1 (stAt l k).2 k n _ (by omega) (by omega) h.1 h.2 (by have := hb.len; omega) hb.deep (fun q1 q2 => ?_) (fun q => ?_)
    · have hlt : k < opsEnd l := by unfold opsEnd; omega
      exact ih (k + 1) (by omega) (by omega)
    · have hk : k = opsEnd l := by unfold opsEnd at h1 ⊢; omega
      subst hk
      exact ⟨_, _, [0, 1, 2, 3, 4], rfl, tbF_ren _ _ rfl rfl rfl rfl rfl rfl, tbM_ren (by decide) rfl rfl rfl rfl rfl (NRows.base _) (ZRows.base _) (NRows.base _) (ZRows.base _), rfl, rfl, rfl⟩
namespace Sy
abbrev tbF0 (l : List OpV) : Fr := (some ((@AV.view (l).length 7 (@ocell l))) :: none :: some ((boo false)) :: some ((@AV.ptr 0 0)) :: some ((@AV.lit (@Value.slice none 0 0))) :: some ((@AV.lit (@Value.slice none 0 0))) :: some ((int (0 : Int))) :: (nn41 (nn48 (nn48 []))))
abbrev tbFx (l : List OpV) (n m : Nat) : Fr := (some ((@AV.view (l).length 7 (@ocell l))) :: none :: some ((boo false)) :: some (.ptr 0 0) :: some (.own 3 n 6) :: some (.own 4 m 1) :: (nn42 (nn48 (nn48 []))))
noncomputable abbrev lpTb (l : List OpV) (ns : List NdV) (os : List Int) : Lp Try.prog where
  f := 3
  key := 6
  S := formS (fun _ M => some M.stamp) (fun _ => tbF0 l) (fun s => ⟨1, s, [some ⟨[.lit (.slice none 0 0), .lit (.slice none 0 0)], 47, none⟩]⟩) (fun _ => OpsOk l ∧ ns = (stAt l (opsEnd l)).1 ∧ os = (stAt l (opsEnd l)).2) (fun _ => .leaf (.exit 0, tbFx l ns.length os.length, tbM ns os)) (true :: false :: true :: true :: true :: true :: true :: (ff41 (ff48 (ff48 []))))
  one := by kernel_rfl
  ok := formS_ok fun s ⟨h1, h2, h3⟩ => by
    subst h2 h3
    refine ⟨opsEnd l + 1, ?_⟩
    have h0 := LoopToT.out (tb_loop l h1 (opsEnd l + 1) 0 (Nat.zero_le _) (by omega))
    have key : LoopToT 1 Try.prog (theBody Try.prog 3 6) (opsEnd l + 1) (tbF0 l) ⟨1, 0, [some ⟨[.lit (.slice none 0 0), .lit (.slice none 0 0)], 47, none⟩]⟩ (fun ex F M => ex = .exit 0 ∧ F = tbF l (stAt l (opsEnd l)).1.length (stAt l (opsEnd l)).2.length (opsEnd l) ∧ M = tbM (stAt l (opsEnd l)).1 (stAt l (opsEnd l)).2) := by
      refine LoopToT.nilc 0 0 _ 30 6 (ndcell []) (Nat.le_refl _) rfl rfl ?_
      refine LoopToT.nilc 0 1 _ 3 1 (zcell []) (show 1 ≤ 2 by decide) rfl rfl ?_
      refine LoopToT.nil 4 30 6 (ndcell []) (show 1 ≤ 3 by decide) rfl ?_
      refine LoopToT.nil 5 3 1 (zcell []) (show 1 ≤ 4 by decide) rfl ?_
      exact LoopToT.stamp 0 h0
    exact (((LoopTo.stampB 0 (LoopToT.to key (Nat.le_refl 1))).out (true :: false :: true :: true :: true :: true :: (ff42 (ff48 (ff48 [])))))).mono fun ex F M hg => by
      obtain ⟨F0, ⟨rfl, rfl, rfl⟩, rfl⟩ := hg
      rfl
noncomputable abbrev cSmT (ns : List NdV) : Con Try.prog := atM 13 (fun _ _ => some ()) (fun _ => [nview ns, nview ns]) (fun _ => boo true) (fun _ => NdsOk ns) fun _ h => ⟨⟨_, rfl⟩, sm_t ns h⟩
noncomputable abbrev cCkT (ns : List NdV) : Con Try.prog := atM 14 (fun _ _ => some ()) (fun _ => [nview ns]) (fun _ => int 0) (fun _ => TreeOk ns ∧ 0 < ns.length) fun _ h => ⟨⟨_, rfl⟩, chk_t ns h.1 h.2⟩
noncomputable abbrev cKnown04 : Con Try.prog := at1 12 [] (boo true) True fun _ => ⟨⟨trivial, trivial⟩, (CallTo.of_calls (us := []) known04 M0).mono fun v _ hv => hv.1⟩
end Sy
theorem Sy.tb_t (l : List OpV) (h : OpsOk l) : CallTo Try.prog 3 [oview l] M0 fun v _ => v = boo true := by
  obtain ⟨ns, os, e1, e2⟩ : ∃ ns os, ns = (stAt l (opsEnd l)).1 ∧ os = (stAt l (opsEnd l)).2 := ⟨_, _, rfl, rfl⟩
  have hb : BSt (opsEnd l) ns os := by rw [e1, e2]; exact stAt_ok l h _ (by unfold opsEnd; omega)
  have h300 : opsEnd l ≤ 300 := by unfold opsEnd; omega
  have hT := hb.tree h300
  have hn : NdsOk ns := ⟨by have := hT.1.1; omega, hT.1.2⟩
  refine toV [cKnown04, cSmT ns, cCkT ns] [lpTb l ns os, lpDn ns os] 400 30 (.auto 0 (.br (.auto 5 (.br (.yes (.auto 2 (.yes (.auto 4 (.yes (.auto 0 .done)))))) (.yes (.yes (.auto 2 (.no (.auto 2 (.yes (.auto 2 (.yes (.auto 2 (.yes (.auto 0 .done))))))))))))) (.auto 6 (.no (.auto 8 (.yes (.auto 0 .done))))))) (let e1 := (some (@AV.view (l).length 7 (@ocell l))); let e2 := (some (@AV.ptr 0 0)); let e3 := (@Value.slice none 0 0); let e4 := (some (@AV.lit e3)); let e5 := (some (int (0 : Int))); let e6 := (@Mem.mk 1 0 [(some (@Blk.mk [(@AV.lit e3), (@AV.lit e3)] 47 none))]); let e7 := (((ns).length : Nat) : Int); let e8 := (!(eqI e7 (0 : Int))); let e9 := (!(leI (((os).length : Nat) : Int) (0 : Int))); let e10 := (some (@AV.own 1 (ns).length 6)); let e11 := (@Value.string (@ByteArray.mk (@Array.mk _ []))); let e12 := (some (@Blk.mk [] 3 (some (@Rw.mk (os).length 1 (@zcell os))))); let e13 := (some (@Blk.mk [] 30 (some (@Rw.mk (ns).length 6 (@ndcell ns))))); let e14 := (some (@Blk.mk [(@AV.own 1 (ns).length 6), (@AV.own 2 (os).length 1)] 47 none)); let e15 := (@Mem.mk 7 0 [e13, none, e12, e13, e12, e13, e14]); let e16 := (@AV.view (ns).length 6 (@ndcell ns)); (.need (@isSo (@And ((e1 :: (none :: (some (boo false)) :: e2 :: e4 :: e4 :: e5 :: (nn41 (nn48 (nn48 []))))) = (e1 :: none :: (some (boo false)) :: e2 :: e4 :: e4 :: e5 :: (nn41 (nn48 (nn48 []))))) (e6 = e6))) (.need (@isSo (@And (@And ((l).length ≤ 17592186044416) (∀ (o : OpV), o ∈ l → o.nd.Ok)) (@And (ns = ((@stAt l (@opsEnd l))).fst) (os = ((@stAt l (@opsEnd l))).snd)))) (.fork e8 (.fork e9 (.need e8 (.need e9 (.need (@isSo (@And ((@HAppend.hAppend _ _ _ _ (@HAppend.hAppend _ _ _ _ ([] : List AV) ([] : List AV)) []) = []) True)) (.leaf (boo true))))) (.need ((leI (0 : Int) e7) && ((leI (e7 * (104 : Int)) (140737488355328 : Int)) && (leI e7 (17592186044416 : Int)))) (.need (@isSo (@And ((e2 :: (none :: none :: none :: (some (@AV.own 5 0 6)) :: (nn29 (e10 :: (some (int e7)) :: e5 :: (nn10 []))))) = (e2 :: none :: none :: none :: (some (@AV.own 5 0 6)) :: (nn29 (e10 :: (some (int e7)) :: e5 :: (nn10 []))))) ((@Mem.mk (5 + 1) 0 [(some (@Blk.mk [] 30 (some (@Rw.mk 0 6 (@mkc (@Value.agg (@Array.mk _ [(@Value.int IntKind.i64 (0 : Int)), e11, e11, e3, e3, e11]))))))), e12, e13, e12, e13, e14]) = (@Mem.mk 6 0 [(some (@Blk.mk [] 30 (some (@Rw.mk 0 6 (@mkc dnZ))))), e12, e13, e12, e13, e14])))) (.need (@isSo (@And (0 < (ns).length) (@And ((ns).length ≤ 300) (∀ (x : NdV), x ∈ ns → x.cls.length ≤ 1024 ∧ x.atts.length ≤ 1024)))) (.need e8 (.need (!e9) (.need (@isSo (@And (@Conv e15 (@HAppend.hAppend _ _ _ _ (@HAppend.hAppend _ _ _ _ [] [(@AV.own 6 (ns).length 6), (@AV.own 3 (ns).length 6)]) []) [e16, e16]) (@And ((ns).length ≤ 17592186044416) (∀ (n : NdV), n ∈ ns → n.Ok)))) (.need (@isSo (@And (@Conv e15 (@HAppend.hAppend _ _ _ _ (@HAppend.hAppend _ _ _ _ [] [(@AV.own 6 (ns).length 6)]) []) [e16]) (@And (@And (@And ((ns).length ≤ 300) (∀ (n : NdV), n ∈ ns → n.Ok)) (∀ (k : Nat), k < ns.length → ndB (ndN ns ↑k) = true ∧ stdB ns ↑k = true ∧ depI ns ↑k ≤ 64)) (0 < (ns).length)))) (.need (@isSo (@And ((@HAppend.hAppend _ _ _ _ (@HAppend.hAppend _ _ _ _ ([] : List AV) ([] : List AV)) []) = []) True)) (.leaf (boo true))))))))))) (.need (!e8) (.need (@isSo (@And ((@HAppend.hAppend _ _ _ _ (@HAppend.hAppend _ _ _ _ ([] : List AV) ([] : List AV)) []) = []) True)) (.leaf (boo true)))))))) (by kernel_rfl) ?_
  refine need_so ⟨rfl, rfl⟩ (need_so ⟨h, e1, e2⟩ (fork_ok (fun q1 => ?_) (fun q1 => ?_)))
  · refine fork_ok (fun q2 => ?_) (fun q2 => ?_)
    · exact need_t q1 (need_t q2 (need_so ⟨rfl, trivial⟩ rfl))
    · have q1' := q1
      simp only [Bool.not_eq_true', Bool.not_eq_false', leI_t, leI_f, eqI_t, eqI_f, inR_t, inR_f, isSo_t, isSo_f] at q1'
      have hl := hT.1.1
      refine need_t (by simp only [Bool.and_eq_true, leI_t]; omega) (need_so ⟨rfl, rfl⟩ (need_so ⟨by omega, hl, fun x hx => ndB_lens (hb.right x hx).1⟩ (need_t q1 (need_t (by rw [q2]; rfl) (need_so ⟨?_, hn⟩ (need_so ⟨?_, hT, by omega⟩ (need_so ⟨rfl, trivial⟩ rfl)))))))
      · exact Conv.cons (Conv1.own rfl rfl (Nat.le_refl _) rfl fun i j _ _ => ⟨ndA_free _ j, rfl⟩) (Conv.cons (Conv1.own rfl rfl (Nat.le_refl _) rfl fun i j _ _ => ⟨ndA_free _ j, rfl⟩) (Conv.nil _))
      · exact Conv.cons (Conv1.own rfl rfl (Nat.le_refl _) rfl fun i j _ _ => ⟨ndA_free _ j, rfl⟩) (Conv.nil _)
  · exact need_t (by rw [q1]; rfl) (need_so ⟨rfl, trivial⟩ rfl)
end Go.Proofs.Ytkfecfbaljichaa
