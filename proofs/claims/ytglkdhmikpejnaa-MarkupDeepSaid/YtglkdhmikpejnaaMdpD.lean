/-
  Lemmas for MarkupDeep, part 4; no conditions.
-/
import Derived.Defers
import Derived.Recover
import Derived.Test.YtglkdhmikpejnaaMdpC
set_option linter.unusedVariables false
set_option linter.unusedSimpArgs false
set_option linter.unusedSectionVars false
namespace Go.Proofs.Ytglkdhmikpejnaa
open Go Go.RowKit Pl Sy
noncomputable def hedR (s : ByteArray) (a : Int) : HdR := match nmBad s a with
  | true => ⟨true, nmK s a, ⟨⟨[]⟩⟩, [], []⟩
  | false => hdR s (s.size + 1) (nmE s a) ⟨⟨[]⟩⟩ [] []
def mkB (c : Int) : Bool := eqI c 35 || (eqI c 46 || eqI c 91)
noncomputable def hedN (s : ByteArray) (a : Int) : NdV := ⟨0, nmX s a, (hedR s a).id, (hedR s a).cls, (hedR s a).ats, ⟨⟨[]⟩⟩⟩
namespace Sy
abbrev hdB0 (t : ByteArray) : Blk := ⟨[int 0, .lit (.string t), .lit (.string ⟨⟨[]⟩⟩), .lit (.slice none 0 0), .lit (.slice none 0 0), .lit (.string ⟨⟨[]⟩⟩)], 40, none⟩
abbrev hdE0 (s : ByteArray) (u : Value) (t : ByteArray) (a : Int) : Mem := ⟨3, 3, [some (hdB0 t), some (hdB0 t), some (mrB s a (.lit u))]⟩
noncomputable def hdT (s : ByteArray) (u : Value) (a : Int) : Tr (ExP × Fr × Mem) := .fork (nmBad s a) (.leaf (.pan (nmK s a) 30, [], hdM0 s a u)) (.fork (mkB (pkI s (nmE s a))) (.fork (hedR s a).bad (.leaf (.pan (hedR s a).pl 30, [], hdM0 s a u)) (.leaf (.ret, hdF, hdE s u (nmX s a) (hedR s a)))) (.leaf (.ret, hdF, hdE0 s u (nmX s a) (nmE s a))))
theorem hd_all (s : ByteArray) (u : Value) (a : Int) (h : InM s a) : ScopeTo Try.prog (theScope Try.prog 39) hdF0 (hdM0 s a u) (selP (hdT s u a)) := by
  have hE := nmE_in h
  have hE1 := hE.1.1
  have go : nmBad s a = false → mkB (pkI s (nmE s a)) = true → ∀ (l : Nat) (st : Nat), True → ∀ (M : Mem), M = ⟨3, st, [some (hdB0 (nmX s a)), some hdZ, some (mrB s (nmE s a) (.lit u))]⟩ → ∀ n x, JumpT 2 Try.prog (theScope Try.prog 39) n x hdF (hdM s (nmE s a) u (nmX s a) ⟨⟨[]⟩⟩ [] []) (selP (hdT s u a)) → JumpT 2 Try.prog (theScope Try.prog 39) n x hdF M (selP (hdT s u a)) := fun q1 q2 l st _ M hM n x hJ => by
    subst hM
    refine JumpT.nilc 2 3 _ 9 1 (hcell []) (show 2 ≤ 3 by decide) rfl rfl ?_
    refine JumpT.nilc 2 4 _ 67 2 (acell []) (show 2 ≤ 4 by decide) rfl rfl ?_
    exact JumpT.stamp 0 hJ
  have fin : nmBad s a = false → mkB (pkI s (nmE s a)) = true → ∀ ex F M, HdG s u (nmX s a) (hdR s (s.size + 1) (nmE s a) ⟨⟨[]⟩⟩ [] []) ex F M → selP (hdT s u a) ex F M := fun q1 q2 ex F M hg => by
    have e : hedR s a = hdR s (s.size + 1) (nmE s a) ⟨⟨[]⟩⟩ [] [] := by unfold hedR; rw [q1]
    rw [← e] at hg
    unfold HdG at hg
    cases hb : (hedR s a).bad with
    | true =>
      rw [hb] at hg
      simp only at hg
      subst hg
      refine ⟨[], hdM0 s a u, ?_⟩
      show (hdT s u a).sel _
      unfold hdT
      exact .inr ⟨q1, .inl ⟨q2, .inl ⟨hb, rfl⟩⟩⟩
    | false =>
      rw [hb] at hg
      simp only at hg
      obtain ⟨rfl, rfl, rfl⟩ := hg
      show (hdT s u a).sel _
      unfold hdT
      exact .inr ⟨q1, .inl ⟨q2, .inr ⟨hb, rfl⟩⟩⟩
  have sc : ∀ {l : Nat} (x : Code), findLabel (theScope Try.prog 39) l = some x → JumpT 2 Try.prog (theScope Try.prog 39) (2 * s.size + 1) x hdF (hdM s (nmE s a) u (nmX s a) ⟨⟨[]⟩⟩ [] []) (HdG s u (nmX s a) (hdR s (s.size + 1) (nmE s a) ⟨⟨[]⟩⟩ [] [])) → nmBad s a = false → mkB (pkI s (nmE s a)) = true → ∀ st, ∃ rest, findLabel (theScope Try.prog 39) l = some rest ∧ JumpT 2 Try.prog (theScope Try.prog 39) (2 * s.size + 1) rest hdF ⟨3, st, [some (hdB0 (nmX s a)), some hdZ, some (mrB s (nmE s a) (.lit u))]⟩ (selP (hdT s u a)) := fun x hx hJ q1 q2 st =>
    ⟨x, hx, go q1 q2 0 st trivial _ rfl _ _ (hJ.mono (fin q1 q2))⟩
  have lp := hd_loop s u (nmX s a) s.size
  refine JumpT.to (T := 2) (n := 2 * s.size + 1 + 1) ?_ (Nat.le_refl _)
  refine segJ (n := 2 * s.size + 1) 2 [cPek s, cNam s] [pFail, pNam s] [] 400 30 39 0 (by kernel_rfl) (true :: false :: true :: true :: (ff13 (ff48 []))) (.yes (.br .done (.yes (.yes (.br .done (.br .done (.br .done .done))))))) (let e1 := (some (@Blk.mk [(@AV.lit (@Value.string s)), (int a), (@AV.lit u)] 52 none)); let e2 := (([] : List AV) = []); let e3 := (((@ByteArray.size s) : Nat) : Int); let e4 := ((@ByteArray.size s) ≤ 1000000); let e5 := (@And (@And ((0 : Int) ≤ a) (a ≤ e3)) e4); let e6 := (some (@Blk.mk [(@AV.lit (@Value.string s)), (int (@nmE s a)), (@AV.lit u)] 52 none)); let e7 := (@pkI s (@nmE s a)); let e8 := (int (0 : Int)); let e9 := (@AV.lit (@Value.string (@nmX s a))); let e10 := (@Value.string (@ByteArray.mk (@Array.mk _ []))); let e11 := (@AV.lit e10); let e12 := (@Value.slice none 0 0); let e13 := (@AV.lit e12); let e14 := (some (@Blk.mk (e8 :: (e9 :: (e11 :: e13 :: e13 :: e11 :: (@List.drop _ (0 + ((e8 :: (e9 :: (@List.drop _ (1 + ([e9]).length) (@List.map _ _ AV.lit (@Array.toList _ (@Array.mk _ [(@Value.int IntKind.i64 (0 : Int)), e10, e10, e12, e12, e10]))))))).length) [e8, e11, e11, e13, e13, e11])))) 40 none)); (.need (@isSo (@And (e1 = e1) (@And e2 e5))) (.fork (@nmBad s a) (.leaf ((@ExP.pan (@nmK s a) (Int.ofNat 30)), ([], (@Mem.mk 2 0 [(some hdZ), e1])))) (.need (@isSo (@And (e1 = e1) (@And e2 (@And e5 ((@nmBad s a) = false))))) (.need (@isSo (@And (e6 = e6) (@And e2 (@And (@And ((0 : Int) ≤ (@nmE s a)) ((@nmE s a) ≤ e3)) e4)))) (.fork (eqI e7 (35 : Int)) (.leaf ((@ExP.goto 0), (((some (@AV.ptr 0 0)) :: none :: (some (@AV.ptr 1 0)) :: (some (@AV.ptr 2 0)) :: (nn13 (nn48 []))), (@Mem.mk (2 + 1) ((0 + 1) + 1) (e14 :: [(some hdZ), e6]))))) (.fork (eqI e7 (46 : Int)) (.leaf ((@ExP.goto 1), (((some (@AV.ptr 0 0)) :: none :: (some (@AV.ptr 1 0)) :: (some (@AV.ptr 2 0)) :: (nn13 (nn48 []))), (@Mem.mk (2 + 1) ((0 + 1) + 1) (e14 :: [(some hdZ), e6]))))) (.fork (eqI e7 (91 : Int)) (.leaf ((@ExP.goto 2), (((some (@AV.ptr 0 0)) :: none :: (some (@AV.ptr 1 0)) :: (some (@AV.ptr 2 0)) :: (nn13 (nn48 []))), (@Mem.mk (2 + 1) ((0 + 1) + 1) (e14 :: [(some hdZ), e6]))))) (.leaf (ExP.ret, (((some (@AV.ptr 0 0)) :: none :: (some (@AV.ptr 1 0)) :: (some (@AV.ptr 2 0)) :: (nn13 (nn48 []))), (@Mem.mk (2 + 1) (((0 + 1) + 1) + 1) (e14 :: [(some (@Blk.mk (e8 :: (e9 :: [e11, e13, e13, e11])) 40 none)), e6]))))))))))))) (by kernel_rfl) ?_
  refine need_so ⟨rfl, rfl, h⟩ (fork_ok (fun q => ?_) (fun q => need_so ⟨rfl, rfl, h, q⟩ (need_so ⟨rfl, rfl, hE.1⟩ (fork_ok (fun q2 => ?_) (fun q2 => fork_ok (fun q3 => ?_) (fun q3 => fork_ok (fun q4 => ?_) (fun q4 => ?_)))))))
  · refine ⟨[], hdM0 s a u, ?_⟩
    show (hdT s u a).sel _
    unfold hdT
    exact .inl ⟨q, rfl⟩
  · exact sc _ (by kernel_rfl : findLabel (theScope Try.prog 39) 0 = some (pieceAt (theScope Try.prog 39) 1)) (hd_ati lp _ _ _ _ hE.1 (by omega) (Nat.zero_le _) (Nat.zero_le _) q2) q (by unfold mkB; rw [q2]; rfl) _
  · exact sc _ (by kernel_rfl : findLabel (theScope Try.prog 39) 1 = some (pieceAt (theScope Try.prog 39) 2)) (hd_atc lp _ _ _ _ hE.1 (by omega) (Nat.zero_le _) (Nat.zero_le _) q2 q3) q (by unfold mkB; rw [q2, q3]; rfl) _
  · exact sc _ (by kernel_rfl : findLabel (theScope Try.prog 39) 2 = some (pieceAt (theScope Try.prog 39) 3)) (hd_ata lp _ _ _ _ hE.1 (by omega) (Nat.zero_le _) (Nat.zero_le _) q2 q3 q4) q (by unfold mkB; rw [q2, q3, q4]; rfl) _
  · show (hdT s u a).sel _
    unfold hdT
    exact .inr ⟨q, .inr ⟨by unfold mkB; rw [q2, q3, q4]; rfl, rfl⟩⟩
noncomputable def hdGet (F : Fr) (M : Mem) : Option Int := match M.bs with
  | [_, some ⟨[_, .lit (.int _ b), _], _, _⟩] => some b
  | _ => none
noncomputable abbrev scHd (s : ByteArray) (u : Value) : Sc Try.prog 39 where
  S := formP hdGet (fun _ => hdF0) (fun a => hdM0 s a u) (fun a => InM s a) (fun a => hdT s u a) (true :: false :: true :: (ff14 (ff48 [])))
  one := by kernel_rfl
  ok := formP_ok fun a h => hd_all s u a h
end Sy
theorem hedR_plain {s : ByteArray} {a : Int} (q : nmBad s a = false) (h : mkB (pkI s (nmE s a)) = false) : hedR s a = ⟨false, nmE s a, ⟨⟨[]⟩⟩, [], []⟩ := by
  unfold mkB at h
  rw [Bool.or_eq_false_iff, Bool.or_eq_false_iff] at h
  unfold hedR
  rw [q]
  unfold hdR
  rw [h.1, h.2.1, h.2.2]
theorem hdR_in {s : ByteArray} : ∀ (n : Nat) (a : Int) (i : ByteArray) (cs : List ByteArray) (ats : List AttrV), InM s a → (hdR s n a i cs ats).bad = false → InM s (hdR s n a i cs ats).pl ∧ a ≤ (hdR s n a i cs ats).pl := by
  intro n
  induction n with
  | zero => intro a i cs ats h hb; exact ⟨h, Int.le_refl a⟩
  | succ n ih =>
    intro a i cs ats h hb
    have h0 := h.1
    unfold hdR at hb ⊢
    split
    · rename_i q
      rw [q] at hb
      have hlt := pk_lt (by decide) q
      have hz := nmE_in (s := s) (a := a + 1) ⟨by omega, h.2⟩
      simp only at hb
      split
      · rename_i e; rw [e] at hb; cases hb
      · rename_i e
        rw [e] at hb
        simp only at hb
        split
        · rename_i e; rw [e] at hb; cases hb
        · rename_i e
          rw [e] at hb
          have := ih _ _ _ _ hz.1 hb
          exact ⟨this.1, by have := this.2; have := hz.2; omega⟩
    · rename_i q
      rw [q] at hb
      simp only at hb
      split
      · rename_i q
        rw [q] at hb
        have hlt := pk_lt (by decide) q
        have hz := nmE_in (s := s) (a := a + 1) ⟨by omega, h.2⟩
        simp only at hb
        split
        · rename_i e; rw [e] at hb; cases hb
        · rename_i e
          rw [e] at hb
          simp only at hb
          split
          · rename_i e; rw [e] at hb; cases hb
          · rename_i e
            rw [e] at hb
            have := ih _ _ _ _ hz.1 hb
            exact ⟨this.1, by have := this.2; have := hz.2; omega⟩
      · rename_i q
        rw [q] at hb
        simp only at hb
        split
        · rename_i q
          rw [q] at hb
          simp only at hb
          split
          · rename_i e; rw [e] at hb; cases hb
          · rename_i e
            rw [e] at hb
            simp only at hb
            split
            · rename_i e; rw [e] at hb; cases hb
            · rename_i e
              rw [e] at hb
              have hz := at_in h e
              have := ih _ _ _ _ hz.1 hb
              exact ⟨this.1, by have := this.2; have := hz.2; omega⟩
        · exact ⟨h, Int.le_refl a⟩
theorem hed_in {s : ByteArray} {a : Int} (h : InM s a) (hb : (hedR s a).bad = false) : InM s (hedR s a).pl ∧ a ≤ (hedR s a).pl := by
  have hE := nmE_in h
  unfold hedR at hb ⊢
  split
  · rename_i e; rw [e] at hb; cases hb
  · rename_i e
    rw [e] at hb
    have := hdR_in _ _ _ _ _ hE.1 hb
    exact ⟨this.1, by have := this.2; have := hE.2; omega⟩
def HedR (s : ByteArray) (a : Int) (u : Value) (r : RP) : Prop := match r with
  | .ret v M' => (hedR s a).bad = false ∧ Frz true 1 M' v (ndG (hedN s a)) ∧ M'.get 0 = some (mrB s (hedR s a).pl (.lit u))
  | .pan k e => (hedR s a).bad = true ∧ k = (hedR s a).pl ∧ e = 30
theorem Sy.Frz.nilv {keep : Bool} {T : Nat} {M : Mem} (s : Nat) (cell : Nat → Nat → AV) : Frz keep T M (.lit (.slice none 0 0)) (.view 0 s cell) := fun w0 ρ w u hW hm hr => by
  simp only [rel] at hr ⊢
  subst hr
  exact ⟨none, 0, rfl, Nat.le_refl _, by unfold maxLen; omega, fun _ => rfl, fun h => by omega⟩
theorem Sy.hed_t (s : ByteArray) (a : Int) (h : InM s a) (u : Value) : CallP Try.prog 39 [.ptr 0 0] (mrM s a u) (HedR s a u) :=
  toS [] [] [] [] (scHd s u) 400 30 (.br .done (.br (.br .done .done) .done)) (let e1 := (int (0 : Int)); let e2 := (@AV.lit (@Value.string (@ByteArray.mk (@Array.mk _ [])))); let e3 := (@AV.lit (@Value.slice none 0 0)); let e4 := (@AV.lit (@Value.string s)); let e5 := (some (@Blk.mk [e4, (int a), (@AV.lit u)] 52 none)); let e6 := (@AV.lit (@Value.string (@nmX s a))); let e7 := (@AV.lit (@Value.string ((@hedR s a)).id)); let e8 := (@AV.own 3 (((@hedR s a)).cls).length 1); let e9 := (@AV.own 4 (((@hedR s a)).ats).length 2); let e10 := (some (@Blk.mk [e1, e6, e7, e8, e9, e2] 40 none)); let e11 := (some (@Blk.mk [e1, e6, e2, e3, e3, e2] 40 none)); (.need (@isSo (@And (((some (@AV.ptr 0 0)) :: none :: (some (@AV.ptr 1 0)) :: (nn14 (nn48 []))) = hdF0) ((@Mem.mk (1 + 1) 0 [(some (@Blk.mk [e1, e2, e2, e3, e3, e2] 40 none)), e5]) = (@Mem.mk 2 0 [(some hdZ), e5])))) (.need (@isSo (@And (@And ((0 : Int) ≤ a) (a ≤ (((@ByteArray.size s) : Nat) : Int))) ((@ByteArray.size s) ≤ 1000000))) (.fork (@nmBad s a) (.leaf (@RP.pan (@nmK s a) (30 : Int))) (.fork (@mkB (@pkI s (@nmE s a))) (.fork ((@hedR s a)).bad (.leaf (@RP.pan ((@hedR s a)).pl (30 : Int))) (.leaf (@RP.ret (@AV.agg [e1, e6, e7, e8, e9, e2]) (@Mem.mk 5 1 [(some (@Blk.mk [] 67 (some (@Rw.mk (((@hedR s a)).ats).length 2 (@acell ((@hedR s a)).ats))))), (some (@Blk.mk [] 9 (some (@Rw.mk (((@hedR s a)).cls).length 1 (@hcell ((@hedR s a)).cls))))), e10, e10, (some (@Blk.mk [e4, (int ((@hedR s a)).pl), (@AV.lit u)] 52 none))])))) (.leaf (@RP.ret (@AV.agg [e1, e6, e2, e3, e3, e2]) (@Mem.mk 3 3 [e11, e11, (some (@Blk.mk [e4, (int (@nmE s a)), (@AV.lit u)] 52 none))])))))))) (by kernel_rfl) (by
    refine need_so ⟨rfl, rfl⟩ (need_so h (fork_ok (fun q => ?_) (fun q => fork_ok (fun q2 => fork_ok (fun q3 => ?_) (fun q3 => ?_)) (fun q2 => ?_))))
    · have e : hedR s a = ⟨true, nmK s a, ⟨⟨[]⟩⟩, [], []⟩ := by unfold hedR; rw [q]
      exact ⟨by rw [e], by rw [e], rfl⟩
    · exact ⟨q3, rfl, rfl⟩
    · exact ⟨q3, Frz.agg ⟨Frz.lit _ _ _ _, Frz.lit _ _ _ _, Frz.lit _ _ _ _, Frz.own (by decide) rfl rfl (Nat.le_refl _) rfl fun i j _ hj => by
        obtain rfl : j = 0 := by omega
        exact Frz.lit _ _ _ _, Frz.own (by decide) rfl rfl (Nat.le_refl _) rfl fun i j _ hj => by
        rcases j with _ | _ | j
        · exact Frz.lit _ _ _ _
        · exact Frz.lit _ _ _ _
        · omega, Frz.lit _ _ _ _, trivial⟩, rfl⟩
    · have e := hedR_plain q q2
      have e2 : hedN s a = ⟨0, nmX s a, ⟨⟨[]⟩⟩, [], [], ⟨⟨[]⟩⟩⟩ := by unfold hedN; rw [e]
      refine ⟨by rw [e], ?_, by rw [e]; rfl⟩
      rw [e2]
      exact Frz.agg ⟨Frz.lit _ _ _ _, Frz.lit _ _ _ _, Frz.lit _ _ _ _, Frz.nilv _ _, Frz.nilv _ _, Frz.lit _ _ _ _, trivial⟩)
noncomputable abbrev Sy.cHed (s : ByteArray) : Con Try.prog := conM s 39 (fun r => match r with | [] => some () | _ => none) (fun _ => []) (fun a _ => ndG (hedN s a)) (fun a _ => (hedR s a).pl) (fun a _ => InM s a ∧ (hedR s a).bad = false) fun a _ h => ⟨⟨trivial, ndG_free _⟩, fun u => ((hed_t s a h.1 u).to fun k e hg => by have := hg.1; rw [h.2] at this; cases this).mono fun v M' hg => hg.2⟩
noncomputable abbrev Sy.pHed (s : ByteArray) : PCon Try.prog := panM s 39 (ndG ndNone) (fun r => match r with | [] => some () | _ => none) (fun _ => []) (fun a _ => (hedR s a).bad) (fun a _ => (hedR s a).pl) (fun _ _ => 30) (fun a _ => InM s a) fun a _ h hb => ⟨trivial, fun u => (hed_t s a h u).pan (fun v M' hg => by have := hg.1; rw [hb] at this; cases this) fun k e hg => hg.2⟩
end Go.Proofs.Ytglkdhmikpejnaa
namespace Go.Proofs.Ytglkdhmikpejnaa
open Go Go.RowKit Pl Sy
namespace Sy
abbrev trF (fr n k : Int) : Fr := (some (.ptr 0 0) :: none :: some (int fr) :: some (int n) :: some (int k) :: (nn29 (nn48 (nn48 []))))
abbrev trM (s : ByteArray) (a : Int) (ns : List NdV) (os : List Int) : Mem := ⟨4, 0, [some (irowB os), some (nrowB ns), some (bdB 2 ns.length 3 os.length), some (mrB s a (.ptr 1 0))]⟩
end Sy
end Go.Proofs.Ytglkdhmikpejnaa
namespace Go.Proofs.Ytglkdhmikpejnaa
open Go Go.RowKit Pl Sy
def At (s : ByteArray) (a : Int) (l : List UInt8) : Prop := 0 ≤ a ∧ s.data.toList.drop a.toNat = l ∧ a + l.length = s.size
theorem size_toList (s : ByteArray) : s.size = s.data.toList.length := rfl
theorem At.of {s : ByteArray} {a : Int} (h : InM s a) : At s a (s.data.toList.drop a.toNat) := ⟨h.1.1, rfl, by
  have := h.1
  rw [List.length_drop, ← size_toList]
  omega⟩
theorem At.skip {s : ByteArray} {a : Int} {x r : List UInt8} (h : At s a (x ++ r)) : At s (a + x.length) r := by
  obtain ⟨h1, h2, h3⟩ := h
  refine ⟨by omega, ?_, by rw [List.length_append] at h3; omega⟩
  rw [show (a + (x.length : Int)).toNat = a.toNat + x.length by omega, ← List.drop_drop, h2, List.drop_left]
theorem At.tail {s : ByteArray} {a : Int} {c : UInt8} {r : List UInt8} (h : At s a (c :: r)) : At s (a + 1) r := At.skip (x := [c]) h
theorem At.byte {s : ByteArray} {a : Int} {c : UInt8} {r : List UInt8} (h : At s a (c :: r)) : a < s.size ∧ byteAt s a.toNat = c.toNat := by
  obtain ⟨h1, h2, h3⟩ := h
  rw [List.length_cons] at h3
  have hlt : a.toNat < s.size := by omega
  refine ⟨by omega, ?_⟩
  rw [byteAt_eq hlt]
  have e : (s.data.toList.drop a.toNat)[0]? = some c := by rw [h2]; rfl
  rw [List.getElem?_drop, Nat.add_zero] at e
  have e2 : s.data.toList[a.toNat]? = some s[a.toNat] := by
    rw [List.getElem?_eq_getElem (by rw [← size_toList]; exact hlt)]
    rfl
  rw [e2] at e
  simp at e
  rw [e]
theorem At.pk {s : ByteArray} {a : Int} {c : UInt8} {r : List UInt8} (h : At s a (c :: r)) : pkI s a = c.toNat := by
  rw [pk_in h.byte.1, h.byte.2]
theorem At.pk0 {s : ByteArray} {a : Int} (h : At s a []) : pkI s a = 0 := pk_end (by have := h.2.2; simp at this; omega)
theorem At.sc (g : Int → Bool) {s : ByteArray} : ∀ {l : List UInt8} {a : Int}, At s a l → scI g s a = a + (l.takeWhile fun c => g c.toNat).length
  | [], a, h => by
    rw [scI_step g s a h.1, if_neg (fun q => by have := h.2.2; simp at this; omega)]
    simp
  | c :: l, a, h => by
    rw [scI_step g s a h.1, h.byte.2]
    by_cases hc : g (c.toNat : Int) = true
    · rw [if_pos ⟨h.byte.1, hc⟩, At.sc g h.tail, List.takeWhile_cons, if_pos hc, List.length_cons]
      omega
    · rw [if_neg (fun q => hc q.2), List.takeWhile_cons, if_neg hc]
      simp
theorem At.cut {s : ByteArray} {a : Int} {x r : List UInt8} (h : At s a (x ++ r)) : (s.extract a.toNat (a + x.length).toNat).data.toList = x := by
  obtain ⟨h1, h2, h3⟩ := h
  rw [List.length_append] at h3
  rw [ByteArray.data_extract, Array.toList_extract, List.extract_eq_take_drop, show (a + (x.length : Int)).toNat - a.toNat = x.length by omega]
  have : List.drop a.toNat s.data.toList = x ++ r := h2
  rw [this, List.take_left]
theorem At.cutW (g : Int → Bool) {s : ByteArray} {a : Int} {l : List UInt8} (h : At s a l) : (s.extract a.toNat (scI g s a).toNat).data.toList = l.takeWhile fun c => g c.toNat := by
  rw [h.sc g]
  have h' := h
  rw [← List.takeWhile_append_dropWhile (p := fun c : UInt8 => g c.toNat) (l := l)] at h'
  exact h'.cut
theorem begB0 : begB 0 = false := by decide
theorem goes_of_beg {c : Int} (h : begB c = true) : goesB c = true := by unfold goesB; rw [h]; rfl
theorem all_takeWhile (p : UInt8 → Bool) : ∀ l : List UInt8, (l.takeWhile p).all p = true
  | [] => rfl
  | c :: l => by
    rw [List.takeWhile_cons]
    by_cases h : p c = true
    · rw [if_pos h, List.all_cons, h, all_takeWhile p l]; rfl
    · rw [if_neg h]; rfl
theorem nm_name {s : ByteArray} {a : Int} (h : InM s a) (hb : nmBad s a = false) : nameL (nmX s a).data.toList = true ∧ a < nmE s a := by
  have hA := At.of h
  generalize s.data.toList.drop a.toNat = l at hA
  unfold nmBad at hb
  rw [Bool.or_eq_false_iff] at hb
  obtain ⟨hs, hn⟩ := hb
  have hs : startM s a = true := by simpa using hs
  have hn : leI (nmE s a - a) 32 = true := by simpa using hn
  rw [leI_t] at hn
  match l, hA with
  | [], hA =>
    exfalso
    unfold startM at hs
    rw [hA.pk0, if_neg (by decide), begB0] at hs
    cases hs
  | c :: l, hA =>
    by_cases hc : (c.toNat : Int) = 45
    · have hz : nmZ s a = a + 1 := by unfold nmZ; rw [hA.pk, if_pos (by rw [eqI_t]; exact hc)]
      have h2 : (begB (pkI s (a + 1)) || eqI (pkI s (a + 1)) 45) = true := by
        unfold startM at hs
        rw [hA.pk, if_pos (by rw [eqI_t]; exact hc)] at hs
        exact hs
      match l, hA with
      | [], hA =>
        exfalso
        rw [hA.tail.pk0] at h2
        exact absurd h2 (by decide)
      | d :: l, hA =>
        rw [hA.tail.pk] at h2
        have hd : goesB d.toNat = true := by
          rw [Bool.or_eq_true] at h2
          rcases h2 with h2 | h2
          · exact goes_of_beg h2
          · rw [eqI_t] at h2; rw [h2]; decide
        have hc2 : goesB c.toNat = true := by rw [hc]; decide
        have hE : nmE s a = a + ((c :: d :: l).takeWhile fun c => goesB c.toNat).length := by
          unfold nmE
          rw [hz, hA.tail.sc goesB, List.takeWhile_cons (a := c), if_pos hc2, List.length_cons]
          omega
        have hX : (nmX s a).data.toList = (c :: d :: l).takeWhile fun c => goesB c.toNat := by
          unfold nmX
          rw [hE]
          have h' := hA
          rw [← List.takeWhile_append_dropWhile (p := fun c : UInt8 => goesB c.toNat) (l := c :: d :: l)] at h'
          exact h'.cut
        have hall := all_takeWhile (fun c => goesB c.toNat) (c :: d :: l)
        rw [hX]
        refine ⟨?_, ?_⟩
        · unfold nameL
          rw [hall, Bool.and_true, Bool.and_eq_true]
          refine ⟨?_, by rw [decide_eq_true_eq]; omega⟩
          rw [List.takeWhile_cons, if_pos hc2, List.takeWhile_cons, if_pos hd]
          show (if (c.toNat : Int) = 45 then begB d.toNat || decide ((d.toNat : Int) = 45) else begB c.toNat) = true
          rw [if_pos hc]
          rw [eqI_eq] at h2
          simpa using h2
        · rw [hE, List.takeWhile_cons, if_pos hc2, List.length_cons]
          omega
    · have hz : nmZ s a = a := by unfold nmZ; rw [hA.pk, if_neg (by rw [eqI_t]; exact hc)]
      have h2 : begB c.toNat = true := by
        unfold startM at hs
        rw [hA.pk, if_neg (by rw [eqI_t]; exact hc)] at hs
        exact hs
      have hc2 := goes_of_beg h2
      have hE : nmE s a = a + ((c :: l).takeWhile fun c => goesB c.toNat).length := by
        unfold nmE
        rw [hz, hA.sc goesB]
      have hX : (nmX s a).data.toList = (c :: l).takeWhile fun c => goesB c.toNat := by
        unfold nmX nmE
        rw [hz]
        exact hA.cutW goesB
      have hall := all_takeWhile (fun c => goesB c.toNat) (c :: l)
      rw [hX]
      refine ⟨?_, ?_⟩
      · unfold nameL
        rw [hall, Bool.and_true, Bool.and_eq_true]
        refine ⟨?_, by rw [decide_eq_true_eq]; omega⟩
        rw [List.takeWhile_cons, if_pos hc2]
        unfold startsL
        split
        · rename_i e; cases e
        · rename_i e
          simp only [List.cons.injEq] at e
          rw [← e.1, h2, Bool.and_true]
          simpa using hc
        · rename_i e
          simp only [List.cons.injEq] at e
          rw [← e.1, if_neg hc]
          exact h2
      · rw [hE, List.takeWhile_cons, if_pos hc2, List.length_cons]
        omega
theorem wdG_word (c : Int) : wdG c = wordB c := by
  unfold wdG wordB
  rw [leI_eq, eqI_eq]
  by_cases h : c = 34 <;> simp [h]
theorem wd_text {s : ByteArray} {a : Int} (h : InM s a) (hb : wdBad s a = false) : textL (wdX s a).data.toList = true := by
  unfold wdBad at hb
  rw [Bool.or_eq_false_iff, Bool.or_eq_false_iff] at hb
  obtain ⟨q1, q2, q3⟩ := hb
  have hz := (nd_in h q1).1
  have hA := At.of hz
  have hX : (wdX s a).data.toList = (s.data.toList.drop (a + 1).toNat).takeWhile fun c => wdG c.toNat := hA.cutW wdG
  have hl : (wdX s a).data.toList.length = wdE s a - (a + 1) := by
    rw [hX]
    have := hA.sc wdG
    unfold wdE
    omega
  have q3 : leI (wdE s a - (a + 1)) 256 = true := by simpa using q3
  rw [leI_t] at q3
  unfold textL
  rw [Bool.and_eq_true, decide_eq_true_eq]
  refine ⟨?_, by omega⟩
  rw [hX]
  have e : (fun c : UInt8 => wdG c.toNat) = fun c : UInt8 => wordB c.toNat := funext fun c => wdG_word _
  rw [e]
  exact all_takeWhile _ _
end Go.Proofs.Ytglkdhmikpejnaa
namespace Go.Proofs.Ytglkdhmikpejnaa
open Go Go.RowKit Pl Sy
structure MkOk (i : ByteArray) (cs : List ByteArray) (ats : List AttrV) : Prop where
  id : i.data.toList = [] ∨ nameL i.data.toList = true
  cls : cs.length ≤ 8 ∧ ∀ c ∈ cs, nameL c.data.toList = true
  ats : ats.length ≤ 8 ∧ ∀ t ∈ ats, nameL t.name.data.toList = true ∧ textL t.value.data.toList = true
theorem MkOk.nil : MkOk ⟨⟨[]⟩⟩ [] [] := ⟨.inl rfl, ⟨Nat.zero_le _, fun c h => (by cases h)⟩, ⟨Nat.zero_le _, fun c h => (by cases h)⟩⟩
theorem at_ok {s : ByteArray} {a : Int} (h : InM s a) (hb : atBad s a = false) : nameL (nmX s (a + 1)).data.toList = true ∧ textL (wdX s (atE s a + 1)).data.toList = true := by
  unfold atBad at hb
  simp only [Bool.or_eq_false_iff] at hb
  obtain ⟨q1, q2, q3, q4, q5⟩ := hb
  have h1 := (nd_in h q1).1
  have h2 := nmE_in h1
  have h3 := (nd_in (a := atE s a) h2.1 q3).1
  exact ⟨(nm_name h1 q2).1, wd_text h3 q4⟩
theorem hdR_ok {s : ByteArray} : ∀ (n : Nat) (a : Int) (i : ByteArray) (cs : List ByteArray) (ats : List AttrV), InM s a → MkOk i cs ats → (hdR s n a i cs ats).bad = false → MkOk (hdR s n a i cs ats).id (hdR s n a i cs ats).cls (hdR s n a i cs ats).ats := by
  intro n
  induction n with
  | zero => intro a i cs ats h hm hb; exact hm
  | succ n ih =>
    intro a i cs ats h hm hb
    have h0 := h.1
    unfold hdR at hb ⊢
    split
    · rename_i q
      rw [q] at hb
      have hlt := pk_lt (by decide) q
      have hz : InM s (a + 1) := ⟨by omega, h.2⟩
      simp only at hb
      split
      · rename_i e; rw [e] at hb; cases hb
      · rename_i e
        rw [e] at hb
        simp only at hb
        split
        · rename_i e; rw [e] at hb; cases hb
        · rename_i e
          rw [e] at hb
          exact ih _ _ _ _ (nmE_in hz).1 ⟨.inr (nm_name hz e).1, hm.cls, hm.ats⟩ hb
    · rename_i q
      rw [q] at hb
      simp only at hb
      split
      · rename_i q
        rw [q] at hb
        have hlt := pk_lt (by decide) q
        have hz : InM s (a + 1) := ⟨by omega, h.2⟩
        simp only at hb
        split
        · rename_i e; rw [e] at hb; cases hb
        · rename_i e8
          rw [e8] at hb
          rw [leI_f] at e8
          simp only at hb
          split
          · rename_i e; rw [e] at hb; cases hb
          · rename_i e
            rw [e] at hb
            exact ih _ _ _ _ (nmE_in hz).1 ⟨hm.id, ⟨by rw [List.length_append, List.length_singleton]; omega, fun c hc => by
              rcases List.mem_append.1 hc with hc | hc
              · exact hm.cls.2 c hc
              · rw [List.mem_singleton.1 hc]; exact (nm_name hz e).1⟩, hm.ats⟩ hb
      · rename_i q
        rw [q] at hb
        simp only at hb
        split
        · rename_i q
          rw [q] at hb
          simp only at hb
          split
          · rename_i e; rw [e] at hb; cases hb
          · rename_i e8
            rw [e8] at hb
            rw [leI_f] at e8
            simp only at hb
            split
            · rename_i e; rw [e] at hb; cases hb
            · rename_i e
              rw [e] at hb
              exact ih _ _ _ _ (at_in h e).1 ⟨hm.id, hm.cls, ⟨by rw [List.length_append, List.length_singleton]; omega, fun c hc => by
                rcases List.mem_append.1 hc with hc | hc
                · exact hm.ats.2 c hc
                · rw [List.mem_singleton.1 hc]; exact at_ok h e⟩⟩ hb
        · exact hm
theorem nameL_size {x : ByteArray} (h : nameL x.data.toList = true) : x.size ≤ 32 := by
  unfold nameL at h
  rw [Bool.and_eq_true, decide_eq_true_eq] at h
  rw [size_toList]
  omega
theorem textL_size {x : ByteArray} (h : textL x.data.toList = true) : x.size ≤ 256 := by
  unfold textL at h
  rw [Bool.and_eq_true, decide_eq_true_eq] at h
  rw [size_toList]
  omega
theorem elem_of {n : NdV} (ht : nameL n.tag.data.toList = true) (hm : MkOk n.id n.cls n.atts) (hx : n.text.data.toList = []) : elemB n = true ∧ n.Ok := by
  constructor
  · unfold elemB
    rw [ht, hx, Bool.true_and, Bool.and_eq_true]
    refine ⟨?_, ?_⟩
    · rcases hm.id with e | e
      · rw [e]; rfl
      · rw [e, Bool.or_true]
    · rw [show bytesEq ([] : List UInt8) [] = true from rfl]
      have e1 : leI n.cls.length 8 = true := by rw [leI_t]; have := hm.cls.1; omega
      have e2 : leI n.atts.length 8 = true := by rw [leI_t]; have := hm.ats.1; omega
      rw [e1, e2]
      have e3 : anyS lacksB n.cls = false := by
        unfold anyS
        rw [List.any_eq_false]
        intro c hc
        unfold lacksB
        rw [hm.cls.2 c hc]
        decide
      have e4 : anyT oddB n.atts = false := by
        unfold anyT
        rw [List.any_eq_false]
        intro c hc
        unfold oddB
        rw [(hm.ats.2 c hc).1, (hm.ats.2 c hc).2]
        decide
      rw [e3, e4]
      rfl
  · have m : ∀ k : Nat, k ≤ 256 → k ≤ maxLen := fun k hk => by unfold maxLen; omega
    refine ⟨m _ (by have := nameL_size ht; omega), ?_, ⟨by have := hm.cls.1; omega, fun c hc => m _ (by have := nameL_size (hm.cls.2 c hc); omega)⟩, ⟨by have := hm.ats.1; omega, fun t h => ⟨m _ (by have := nameL_size (hm.ats.2 t h).1; omega), m _ (by have := textL_size (hm.ats.2 t h).2; omega)⟩⟩, ?_⟩
    · rcases hm.id with e | e
      · rw [size_toList, e]; exact Nat.zero_le _
      · exact m _ (by have := nameL_size e; omega)
    · rw [size_toList, hx]; exact Nat.zero_le _
theorem hed_ok {s : ByteArray} {a : Int} (h : InM s a) (hb : (hedR s a).bad = false) : nmBad s a = false ∧ MkOk (hedR s a).id (hedR s a).cls (hedR s a).ats := by
  have hE := nmE_in h
  cases q : nmBad s a with
  | true =>
    exfalso
    unfold hedR at hb
    rw [q] at hb
    cases hb
  | false =>
    have e : hedR s a = hdR s (s.size + 1) (nmE s a) ⟨⟨[]⟩⟩ [] [] := by unfold hedR; rw [q]
    rw [e] at hb ⊢
    exact ⟨rfl, hdR_ok _ _ _ _ _ hE.1 MkOk.nil hb⟩
theorem hed_elem {s : ByteArray} {a : Int} (h : InM s a) (hb : (hedR s a).bad = false) : elemB (hedN s a) = true ∧ (hedN s a).Ok := by
  obtain ⟨q, hm⟩ := hed_ok h hb
  exact elem_of (nm_name h q).1 hm rfl
theorem hed_gt {s : ByteArray} {a : Int} (h : InM s a) (hb : (hedR s a).bad = false) : a < (hedR s a).pl := by
  obtain ⟨q, hm⟩ := hed_ok h hb
  have hE := nmE_in h
  have h1 := (nm_name h q).2
  have e : hedR s a = hdR s (s.size + 1) (nmE s a) ⟨⟨[]⟩⟩ [] [] := by unfold hedR; rw [q]
  rw [e] at hb ⊢
  have := (hdR_in _ _ _ _ _ hE.1 hb).2
  omega
end Go.Proofs.Ytglkdhmikpejnaa
namespace Go.Proofs.Ytglkdhmikpejnaa
open Go Go.RowKit Pl Sy
inductive TrR where
  | bad (k e : Int)
  | ok (a : Int) (ns : List NdV)
noncomputable def nxT (s : ByteArray) (go : Int → List NdV → List Int → TrR) (a : Int) (ns : List NdV) (os : List Int) : TrR := match leI os.length 0 with
  | false => go a ns os
  | true => match leI s.size (scI mblB s a) with
    | true => .ok (scI mblB s a) ns
    | false => .bad (scI mblB s a) 30
noncomputable def elT (s : ByteArray) (go : Int → List NdV → List Int → TrR) (b : Int) (ns : List NdV) (os : List Int) : TrR := match nmdB s b with
  | false => .bad b 30
  | true => match eqI (fulE ns.length os.length) 0 with
    | false => .bad b (fulE ns.length os.length)
    | true => match (hedR s b).bad with
      | true => .bad (hedR s b).pl 30
      | false => match eqI (pkI s (scI mblB s (hedR s b).pl)) 123 with
        | true => go (scI mblB s (hedR s b).pl + 1) (ns ++ [putN (hedN s b) os]) (os ++ [(ns.length : Int)])
        | false => nxT s go (hedR s b).pl (ns ++ [putN (hedN s b) os]) os
noncomputable def wrT (s : ByteArray) (go : Int → List NdV → List Int → TrR) (b : Int) (ns : List NdV) (os : List Int) : TrR := match eqI (fulE ns.length os.length) 0 with
  | false => .bad b (fulE ns.length os.length)
  | true => match wdBad s b with
    | true => .bad (wdK s b) 30
    | false => nxT s go (wdE s b + 1) (ns ++ [wrdN (wdX s b) os]) os
noncomputable def ndT' (s : ByteArray) (go : Int → List NdV → List Int → TrR) (b : Int) (ns : List NdV) (os : List Int) : TrR := match leI os.length 0 with
  | true => elT s go b ns os
  | false => match eqI (pkI s b) 125 with
    | true => nxT s go (b + 1) ns os.dropLast
    | false => match eqI (pkI s b) 34 with
      | true => wrT s go b ns os
      | false => elT s go b ns os
noncomputable def tN (s : ByteArray) : Nat → Int → List NdV → List Int → TrR
  | 0, a, ns, os => .bad a 0
  | n + 1, a, ns, os => ndT' s (tN s n) (scI mblB s a) ns os
namespace Sy
def RJ (T : Nat) (G : ExP → Fr → Mem → Prop) (ex : ExP) (F : Fr) (M : Mem) : Prop := match ex with
  | .pan k e => G (.pan k e) F M
  | _ => ∃ F2 M2 l, l.take T = List.range T ∧ RenF (nm l) F F2 ∧ RenM (nm l) M M2 ∧ G ex F2 M2
theorem JumpT.out {T : Nat} {P : Program} {c : Code} {n : Nat} {y : Code} {F : Fr} {M : Mem} {G : ExP → Fr → Mem → Prop} (h : JumpT T P c n y F M (RJ T G)) : JumpT T P c n y F M G := fun w0 ρ a w Q hF hW hQ => h w0 ρ a w Q hF hW fun ex F' M' ρ' a' w' hg q1 q2 => by
  have key : ∀ F2 M2 l, l.take T = List.range T → RenF (nm l) F' F2 → RenM (nm l) M' M2 → G ex F2 M2 → FR ρ' F' a' → WR w0 ρ' M' w' → (∀ (h1 : FR (pull (nm l) ρ') F2 a') (h2 : WR w0 (pull (nm l) ρ') M2 w'), EndP w0 (pull (nm l) ρ') ex F2 M2 a' w') → Q ex.to a' w' := fun F2 M2 l h0 r1 r2 hg h1 h2 hE => by
    have id := nm_id h0
    refine hQ ex F2 M2 (pull (nm l) ρ') a' w' hg ⟨fun b g hb => ?_, fun b hb => ?_, q1.still, q1.base, q1.mine⟩ (hE (r1.fr h1) (h2.ren r2))
    · have hlt : b < T := by
        simp only [Sy.cutR] at hb
        split at hb
        · assumption
        · cases hb
      rw [pull_blk (id b hlt)]
      exact q1.blk b g hb
    · have hlt : b < T := by
        simp only [Sy.cutR] at hb
        split at hb
        · assumption
        · cases hb
      rw [pull_nil (id b hlt)]
      exact q1.nil b hb
  cases ex with
  | pan k e => exact hQ (.pan k e) F' M' ρ' a' w' hg q1 q2
  | norm => obtain ⟨F2, M2, l, h0, r1, r2, hg⟩ := hg; exact key F2 M2 l h0 r1 r2 hg q2.1 q2.2 fun h1 h2 => ⟨h1, h2⟩
  | exit id => obtain ⟨F2, M2, l, h0, r1, r2, hg⟩ := hg; exact key F2 M2 l h0 r1 r2 hg q2.1 q2.2 fun h1 h2 => ⟨h1, h2⟩
  | ret => obtain ⟨F2, M2, l, h0, r1, r2, hg⟩ := hg; exact key F2 M2 l h0 r1 r2 hg q2.1 q2.2 fun h1 h2 => ⟨h1, h2⟩
  | goto l => obtain ⟨F2, M2, l, h0, r1, r2, hg⟩ := hg; exact key F2 M2 l h0 r1 r2 hg q2.1 q2.2 fun h1 h2 => ⟨h1, h2⟩
abbrev trE : Fr := (some (.ptr 0 0) :: (nn33 (nn48 (nn48 []))))
theorem trF_ren {x y : Nat} {fr n n' k k' : Int} (hn : n = n') (hk : k = k') : RenF (nm [0, 1, x, y]) (trF fr n k) (trF fr n' k') := by
  subst hn hk
  simp only [RenF, and_true]
  exact ⟨⟨rfl, rfl⟩, rfl, rfl, rfl⟩
theorem trE_ren {x y : Nat} {fr n k : Int} : RenF (nm [0, 1, x, y]) (trF fr n k) trE := by
  simp only [RenF, and_true]
  exact ⟨rfl, rfl⟩
theorem tr_ren {M : Mem} {s : ByteArray} {a : Int} {ns : List NdV} {os : List Int} {x y n m : Nat} {ca cb : Nat → Nat → AV} (hd : [0, 1, x, y].Nodup) (h0 : M.get 0 = some (mrB s a (.ptr 1 0))) (h1 : M.get 1 = some (bdB x n y m))
    (h2 : M.get x = some ⟨[], 40, some ⟨n, 6, ca⟩⟩) (h3 : M.get y = some ⟨[], 3, some ⟨m, 1, cb⟩⟩) (r1 : NRows n ca ns) (r2 : ZRows m cb os) : RenM (nm [0, 1, x, y]) M (trM s a ns os) := by
  refine .of rfl rfl hd ⟨⟨y, _, rfl, h3, rfl, trivial, r2.1.symm, rfl, fun i j hi hj => ?_⟩, ⟨x, _, rfl, h2, rfl, trivial, r1.1.symm, rfl, fun i j hi hj => r1.2 _ i j (by have := r1.1; simp only at hi; omega) hj⟩, ⟨1, _, rfl, h1, rfl, ⟨⟨rfl, r1.1, rfl⟩, ⟨rfl, r2.1, rfl⟩, trivial⟩, trivial⟩, ⟨0, _, rfl, h0, rfl, ⟨rfl, rfl, ⟨rfl, rfl⟩, trivial⟩, trivial⟩, trivial⟩
  show RenV _ (cb i j) (zcell os i j)
  rw [r2.2 i j (by have := r2.1; simp only at hi; omega) hj]
  exact RenV.free _ trivial
end Sy
def TrG (s : ByteArray) (r : TrR) (ex : ExP) (F : Fr) (M : Mem) : Prop := match r with
  | .bad k e => ex = .pan k e
  | .ok a ns => ex = .norm ∧ F = trE ∧ M = trM s a ns []
def StOk (ns : List NdV) (os : List Int) : Prop := ns.length ≤ 1024 ∧ os.length ≤ 64
theorem ful_ok {n k : Nat} (h : eqI (fulE n k) 0 = true) : n < 1024 ∧ k < 64 := by
  unfold fulE at h
  split at h
  · cases h
  · split at h
    · cases h
    · rename_i h1 h2
      rw [leI_t] at h1 h2
      omega
namespace Sy
noncomputable abbrev trC : Code := theScope Try.prog 21
abbrev TrJ (s : ByteArray) (r : TrR) : ExP → Fr → Mem → Prop := RJ 2 (TrG s r)
def NdAt (s : ByteArray) (n : Nat) : Prop := ∀ (m : Nat) (a fr : Int) (ns : List NdV) (os : List Int), 3 * n ≤ m → InM s a → s.size - a < n → StOk ns os → (ns.length = 0 ∨ os.length ≠ 0) →
    JumpT 2 Try.prog trC m (pieceAt trC 1) (trF fr ns.length os.length) (trM s a ns os) (TrJ s (tN s n a ns os))
theorem tr_next {s : ByteArray} {n : Nat} (ih : NdAt s n) (m : Nat) (a fr : Int) (ns : List NdV) (os : List Int) (hm : 3 * n ≤ m) (h : InM s a) (h2 : s.size - a < n) (hs : StOk ns os) :
    JumpT 2 Try.prog trC (m + 1) (pieceAt trC 4) (trF fr ns.length os.length) (trM s a ns os) (TrJ s (nxT s (tN s n) a ns os)) := by
  refine segJ (n := m) 2 [cMbl s] [pFail] [] 400 30 21 4 (by kernel_rfl) (true :: false :: true :: true :: true :: (ff29 (ff48 (ff48 [])))) (.br .done (.yes (.br (.auto 0 .done) .done))) (let e1 := (some (int (((ns).length : Nat) : Int))); let e2 := (some (int (((os).length : Nat) : Int))); let e3 := (some (@Blk.mk [] 3 (some (@Rw.mk (os).length 1 (@zcell os))))); let e4 := (some (@Blk.mk [] 40 (some (@Rw.mk (ns).length 6 (@ndcell ns))))); let e5 := (some (@Blk.mk [(@AV.own 2 (ns).length 6), (@AV.own 3 (os).length 1)] 70 none)); let e6 := (some (@Blk.mk [(@AV.lit (@Value.string s)), (int a), (@AV.ptr 1 0)] 52 none)); let e7 := (((@ByteArray.size s) : Nat) : Int); let e8 := (@Mem.mk 4 (0 + 1) [e3, e4, e5, (some (@Blk.mk [(@AV.lit (@Value.string s)), (int (@scI mblB s a)), (@AV.ptr 1 0)] 52 none))]); (.fork (!(leI (((os).length : Nat) : Int) (0 : Int))) (.leaf ((@ExP.goto 0), (((some (@AV.ptr 0 0)) :: none :: (some (int fr)) :: e1 :: e2 :: (nn29 (nn48 (nn48 [])))), (@Mem.mk 4 0 [e3, e4, e5, e6])))) (.need (@isSo (@And (e6 = e6) (@And (([] : List AV) = []) (@And (@And ((0 : Int) ≤ a) (a ≤ e7)) ((@ByteArray.size s) ≤ 1000000))))) (.fork (!(leI e7 (@scI mblB s a))) (.leaf ((@ExP.pan (@scI mblB s a) (Int.ofNat 30)), ([], e8))) (.leaf (ExP.norm, (((some (@AV.ptr 0 0)) :: none :: (some (int fr)) :: e1 :: e2 :: (nn29 (nn48 (nn48 [])))), e8))))))) (by kernel_rfl) ?_
  unfold nxT
  refine fork_ok (fun q => ?_) (fun q => need_so ⟨rfl, rfl, h⟩ (fork_ok (fun q2 => ?_) (fun q2 => ?_)))
  · have q : leI os.length 0 = false := by simpa using q
    rw [q]
    rw [leI_f] at q
    exact ⟨_, (by kernel_rfl : findLabel trC 0 = some (pieceAt trC 1)), ih m a fr ns os hm h h2 hs (.inr (by omega))⟩
  · have q : leI os.length 0 = true := by simpa using q
    have q2 : leI s.size (scI mblB s a) = false := by simpa using q2
    rw [q, q2]
    exact rfl
  · have q : leI os.length 0 = true := by simpa using q
    have q2 : leI s.size (scI mblB s a) = true := by simpa using q2
    rw [q, q2]
    rw [leI_t] at q
    obtain rfl : os = [] := List.eq_nil_of_length_eq_zero (by omega)
    exact ⟨trE, trM s (scI mblB s a) ns [], [0, 1, 2, 3], rfl, trE_ren, tr_ren (by decide) rfl rfl rfl rfl (NRows.base _) (ZRows.base _), rfl, rfl, rfl⟩
theorem tr_end {s : ByteArray} {n : Nat} (ih : NdAt s n) (m : Nat) (a fr : Int) (ns : List NdV) (os : List Int) (hm : 3 * n ≤ m) (h : InM s (a + 1)) (h1 : 0 ≤ a) (h2 : s.size - (a + 1) < n) (hs : StOk ns os) (ho : os.length ≠ 0) :
    JumpT 2 Try.prog trC (m + 1) (pieceAt trC 2) (trF fr ns.length os.length) (trM s a ns os) (TrJ s (nxT s (tN s n) (a + 1) ns os.dropLast)) := by
  have hl := h.2
  have hi := h.1
  unfold limM at hl
  refine segJ (n := m) 2 [cMbl s, cClo ns os, cPut11] [pFail] [] 400 30 21 2 (by kernel_rfl) (true :: false :: true :: true :: true :: (ff29 (ff48 (ff48 [])))) (.yes (.yes (.br .done (.yes (.br (.auto 0 .done) .done))))) (let e1 := (some (@Blk.mk [(@AV.own 2 (ns).length 6), (@AV.own 3 (os).length 1)] 70 none)); let e2 := (some (@Blk.mk [] 40 (some (@Rw.mk (ns).length 6 (@ndcell ns))))); let e3 := (some (@Blk.mk [] 3 (some (@Rw.mk (os).length 1 (@zcell os))))); let e4 := (w64 ((((os).length : Nat) : Int) - (1 : Int))); let e5 := (some (int (((ns).length : Nat) : Int))); let e6 := (some (@Blk.mk [] 3 (some (@Rw.mk ((@List.dropLast _ os)).length 1 (@zcell (@List.dropLast _ os)))))); let e7 := (some (@Blk.mk [(@AV.own 4 (ns).length 6), (@AV.own (4 + 1) ((@List.dropLast _ os)).length 1)] 70 none)); let e8 := (@AV.lit (@Value.string s)); let e9 := (w64 (a + (1 : Int))); let e10 := (some (@Blk.mk (e8 :: [(int e9), (@AV.ptr 1 0)]) 52 none)); let e11 := (((@ByteArray.size s) : Nat) : Int); let e12 := (@Mem.mk ((4 + 1) + 1) (((((0 + 1) + 1) + 1) + 1) + 1) (e6 :: e2 :: [none, none, e7, (some (@Blk.mk [e8, (int (@scI mblB s e9)), (@AV.ptr 1 0)] 52 none))])); (.need (@isSo (@And (e1 = e1) (@And (e2 = e2) (@And (e3 = e3) (@And (([] : List AV) = []) (@And ((os).length ≤ 64) (@Not ((os).length = 0)))))))) (.need (@isSo (@And ((@HAppend.hAppend _ _ _ _ (@HAppend.hAppend _ _ _ _ [] [(int fr), (int (0 : Int))]) []) = [(int fr), (int (Int.ofNat 0))]) ((eqI (Int.ofNat 0) (0 : Int)) = true))) (.fork (!(leI e4 (0 : Int))) (.leaf ((@ExP.goto 0), (((some (@AV.ptr 0 0)) :: none :: (some (int fr)) :: e5 :: (some (int e4)) :: (nn29 (nn48 (nn48 [])))), (@Mem.mk ((4 + 1) + 1) ((((0 + 1) + 1) + 1) + 1) (e6 :: e2 :: [none, none, e7, e10]))))) (.need (@isSo (@And (e10 = (some (@Blk.mk [e8, (int e9), (@AV.ptr 1 0)] 52 none))) (@And (([] : List AV) = []) (@And (@And ((0 : Int) ≤ e9) (e9 ≤ e11)) ((@ByteArray.size s) ≤ 1000000))))) (.fork (!(leI e11 (@scI mblB s e9))) (.leaf ((@ExP.pan (@scI mblB s e9) (Int.ofNat 30)), ([], e12))) (.leaf (ExP.norm, (((some (@AV.ptr 0 0)) :: none :: (some (int fr)) :: e5 :: (some (int e4)) :: (nn29 (nn48 (nn48 [])))), e12))))))))) (by kernel_rfl) ?_
  have hd : os.dropLast.length = os.length - 1 := List.length_dropLast ..
  have hw : w64 ((os.length : Int) - 1) = (os.dropLast.length : Nat) := by
    rw [hd]
    exact (w64_in (r := (os.length : Int) - 1) (by have := hs.2; omega)).trans (by omega)
  have hb : w64 (a + 1) = a + 1 := w64_in (by omega)
  have hs2 : StOk ns os.dropLast := ⟨hs.1, by have := hs.2; omega⟩
  conv => zeta
  rw [hw, hb]
  unfold nxT
  refine need_so ⟨rfl, rfl, rfl, rfl, hs.2, ho⟩ (need_so ⟨rfl, rfl⟩ (fork_ok (fun q => ?_) (fun q => need_so ⟨rfl, rfl, h⟩ (fork_ok (fun q2 => ?_) (fun q2 => ?_)))))
  · have q : leI os.dropLast.length 0 = false := by simpa using q
    rw [q]
    rw [leI_f] at q
    exact ⟨_, (by kernel_rfl : findLabel trC 0 = some (pieceAt trC 1)), JumpT.ren [0, 1, 4, 5] rfl (trF_ren rfl rfl) (tr_ren (by decide) rfl rfl rfl rfl (NRows.base _) (ZRows.base _)) (ih m (a + 1) fr ns os.dropLast hm h h2 hs2 (.inr (by omega)))⟩
  · have q : leI os.dropLast.length 0 = true := by simpa using q
    have q2 : leI s.size (scI mblB s (a + 1)) = false := by simpa using q2
    rw [q, q2]
    exact rfl
  · have q : leI os.dropLast.length 0 = true := by simpa using q
    have q2 : leI s.size (scI mblB s (a + 1)) = true := by simpa using q2
    rw [q, q2]
    rw [leI_t] at q
    have e : os.dropLast = [] := List.eq_nil_of_length_eq_zero (by omega)
    exact ⟨trE, trM s (scI mblB s (a + 1)) ns [], [0, 1, 4, 5], rfl, trE_ren, tr_ren (by decide) rfl rfl rfl rfl (NRows.base _) (by rw [e]; exact ZRows.base _), rfl, rfl, rfl⟩
theorem tr_words {s : ByteArray} {n : Nat} (ih : NdAt s n) (m : Nat) (a fr : Int) (ns : List NdV) (os : List Int) (hm : 3 * n ≤ m) (h : InM s a) (h2 : s.size - a < n + 1) (hs : StOk ns os) (ho : os.length ≠ 0) :
    JumpT 2 Try.prog trC (m + 2) (pieceAt trC 3) (trF fr ns.length os.length) (trM s a ns os) (TrJ s (wrT s (tN s n) a ns os)) := by
  refine segJ (n := m + 1) 2 [cFul s, cWds s, cWrd (wdX s a) ns os, cPut11] [pFail, pWds s, pFul s] [(41, int 0), (37, .tup [])] 400 30 21 3 (by kernel_rfl) (true :: false :: true :: true :: true :: (ff29 (ff48 (ff48 [])))) (.yes (.br .done (.yes (.yes (.br .done (.yes (.yes (.yes .done)))))))) (let e1 := (some (@Blk.mk [(@AV.lit (@Value.string s)), (int a), (@AV.ptr 1 0)] 52 none)); let e2 := (((ns).length : Nat) : Int); let e3 := (int (((os).length : Nat) : Int)); let e4 := ([(int e2), e3] = [(int e2), e3]); let e5 := (@fulE e2 (((os).length : Nat) : Int)); let e6 := (some (@Blk.mk [] 3 (some (@Rw.mk (os).length 1 (@zcell os))))); let e7 := (some (@Blk.mk [] 40 (some (@Rw.mk (ns).length 6 (@ndcell ns))))); let e8 := (some (@Blk.mk [(@AV.own 2 (ns).length 6), (@AV.own 3 (os).length 1)] 70 none)); let e9 := (@And (@And ((0 : Int) ≤ a) (a ≤ (((@ByteArray.size s) : Nat) : Int))) ((@ByteArray.size s) ≤ 1000000)); let e10 := (@AV.lit (@Value.string (@wdX s a))); (.need (@isSo (@And (e1 = e1) (@And e4 True))) (.fork (!(eqI e5 (0 : Int))) (.leaf ((@ExP.pan a e5), ([], (@Mem.mk 4 0 [e6, e7, e8, e1])))) (.need (@isSo (@And (e1 = e1) (@And e4 ((eqI e5 (0 : Int)) = true)))) (.need (@isSo (@And (e1 = e1) (@And (([] : List AV) = []) e9))) (.fork (@wdBad s a) (.leaf ((@ExP.pan (@wdK s a) (Int.ofNat 30)), ([], (@Mem.mk 4 0 [e6, e7, e8, e1])))) (.need (@isSo (@And (e1 = e1) (@And (([] : List AV) = []) (@And e9 ((@wdBad s a) = false))))) (.need (@isSo (@And (e8 = e8) (@And (e7 = e7) (@And (e6 = e6) (@And ([e10] = [e10]) (@And ((@ByteArray.size (@wdX s a)) ≤ 9223372036854775807) (@And ((@Pl.textL (@Array.toList _ (@ByteArray.data (@wdX s a)))) = true) (@And ((ns).length < 1024) (@And ((os).length < 64) (@Not ((os).length = 0))))))))))) (.need (@isSo (@And ((@HAppend.hAppend _ _ _ _ (@HAppend.hAppend _ _ _ _ [] [(int fr), (int (0 : Int))]) []) = [(int fr), (int (Int.ofNat 0))]) ((eqI (Int.ofNat 0) (0 : Int)) = true))) (.leaf ((@ExP.goto 3), (((some (@AV.ptr 0 0)) :: none :: (some (int fr)) :: (some (int (w64 (e2 + (1 : Int))))) :: (some e3) :: (nn29 (nn48 (nn48 [])))), (@Mem.mk ((4 + 1) + 1) ((((0 + 1) + 1) + 1) + 1) (e6 :: (some (@Blk.mk [] 40 (some (@Rw.mk ((@HAppend.hAppend _ _ _ _ ns [(@wrdN (@wdX s a) os)])).length 6 (@ndcell (@HAppend.hAppend _ _ _ _ ns [(@wrdN (@wdX s a) os)])))))) :: [none, none, (some (@Blk.mk [(@AV.own 4 ((@HAppend.hAppend _ _ _ _ ns [(@wrdN (@wdX s a) os)])).length 6), (@AV.own (4 + 1) (os).length 1)] 70 none)), (some (@Blk.mk [(@AV.lit (@Value.string s)), (int ((@wdE s a) + (1 : Int))), (@AV.ptr 1 0)] 52 none))])))))))))))))) (by kernel_rfl) ?_
  unfold wrT
  conv => zeta
  refine need_so ⟨rfl, rfl, trivial⟩ (fork_ok (fun q => ?_) (fun q => need_so ⟨rfl, rfl, ?_⟩ (need_so ⟨rfl, rfl, h⟩ (fork_ok (fun q2 => ?_) (fun q2 => need_so ⟨rfl, rfl, h, q2⟩ (need_so ⟨rfl, rfl, rfl, rfl, ?_⟩ (need_so ⟨rfl, rfl⟩ ?_)))))))
  · have q : eqI (fulE ns.length os.length) 0 = false := by simpa using q
    rw [q]
    exact rfl
  · simpa using q
  · have q : eqI (fulE ns.length os.length) 0 = true := by simpa using q
    rw [q, q2]
    exact rfl
  · have q : eqI (fulE ns.length os.length) 0 = true := by simpa using q
    have hf := ful_ok q
    have ht := wd_text h q2
    exact ⟨by have := textL_size ht; omega, ht, hf.1, hf.2, ho⟩
  · have q : eqI (fulE ns.length os.length) 0 = true := by simpa using q
    have hf := ful_ok q
    rw [q, q2]
    have hE := wdX_in h q2
    have hw : w64 ((ns.length : Int) + 1) = ((ns ++ [wrdN (wdX s a) os]).length : Nat) := by
      rw [List.length_append, List.length_singleton]
      exact (w64_in (r := (ns.length : Int) + 1) (by omega)).trans (by omega)
    rw [hw]
    exact ⟨_, (by kernel_rfl : findLabel trC 3 = some (pieceAt trC 4)), JumpT.ren [0, 1, 4, 5] rfl (trF_ren rfl rfl) (tr_ren (by decide) rfl rfl rfl rfl (NRows.base _) (ZRows.base _)) (tr_next ih m _ fr _ os hm hE.1 (by have := hE.2; omega) ⟨by rw [List.length_append, List.length_singleton]; omega, hs.2⟩)⟩
theorem tr_node {s : ByteArray} {n : Nat} (ih : NdAt s n) (m : Nat) (a fr : Int) (ns : List NdV) (os : List Int) (hm : 3 * n ≤ m) (h : InM s a) (h2 : s.size - a < n + 1) (hs : StOk ns os) (hno : ns.length = 0 ∨ os.length ≠ 0) :
    JumpT 2 Try.prog trC (m + 3) (pieceAt trC 1) (trF fr ns.length os.length) (trM s a ns os) (TrJ s (tN s (n + 1) a ns os)) := by
  have hb : InM s (scI mblB s a) := scI_in h
  have hle := scI_le mblB s a h.1.1 h.1.2
  have hl := h.2
  unfold limM at hl
  have hm : ∀ k, 3 * n ≤ m + k := fun k => by omega
  have hwn : eqI (fulE ns.length os.length) 0 = true → w64 ((ns.length : Int) + 1) = ((ns ++ [putN (hedN s (scI mblB s a)) os]).length : Nat) ∧ w64 ((os.length : Int) + 1) = ((os ++ [(ns.length : Int)]).length : Nat) := fun q => by
    have hf := ful_ok q
    rw [List.length_append, List.length_singleton, List.length_append, List.length_singleton]
    exact ⟨(w64_in (r := (ns.length : Int) + 1) (by omega)).trans (by omega), (w64_in (r := (os.length : Int) + 1) (by omega)).trans (by omega)⟩
  refine segJ (n := m + 2) 2 [cMbl s, cPek s, cNmd s, cFul s, cHed s, cOpn (hedN s (scI mblB s a)) ns os, cPut11, cClo (ns ++ [putN (hedN s (scI mblB s a)) os]) (os ++ [(ns.length : Int)])] [pFail, pHed s, pFul s] [(38, int 0), (37, .tup [])] 400 30 21 1 (by kernel_rfl) (true :: false :: true :: true :: true :: (ff29 (ff48 (ff48 [])))) (.yes (.br (.auto 0 (.yes (.auto 1 (.br .done (.yes (.auto 0 (.yes (.auto 1 (.br .done (.yes (.br (.auto 0 .done) (.yes (.br .done (.yes (.yes (.br .done (.yes (.yes (.yes (.yes (.yes (.br .done (.yes (.yes .done)))))))))))))))))))))))) (.auto 3 (.no (.auto 3 (.yes (.br (.auto 0 .done) (.yes (.br .done (.yes (.yes (.br .done (.yes (.yes (.yes (.yes (.yes (.br .done (.yes (.yes .done)))))))))))))))))))) (let e1 := (@AV.lit (@Value.string s)); let e2 := (@AV.ptr 1 0); let e3 := (some (@Blk.mk [e1, (int a), e2] 52 none)); let e4 := (([] : List AV) = []); let e5 := (0 : Int); let e6 := (((@ByteArray.size s) : Nat) : Int); let e7 := ((@ByteArray.size s) ≤ 1000000); let e8 := (((os).length : Nat) : Int); let e9 := (@scI mblB s a); let e10 := (some (@Blk.mk [e1, (int e9), e2] 52 none)); let e11 := (@And (@And (e5 ≤ e9) (e9 ≤ e6)) e7); let e12 := (@isSo (@And (e10 = e10) (@And e4 e11))); let e13 := (some (@AV.ptr 0 0)); let e14 := (((ns).length : Nat) : Int); let e15 := (some (@Blk.mk [] 3 (some (@Rw.mk (os).length 1 (@zcell os))))); let e16 := (some (@Blk.mk [] 40 (some (@Rw.mk (ns).length 6 (@ndcell ns))))); let e17 := (some (@Blk.mk [(@AV.own 2 (ns).length 6), (@AV.own 3 (os).length 1)] 70 none)); let e18 := (@Mem.mk 4 (0 + 1) [e15, e16, e17, e10]); let e19 := ([(int e14), (int e8)] = [(int e14), (int e8)]); let e20 := (@Value.tuple (@Array.mk _ [])); let e21 := (@AV.agg [(int ((@hedN s e9)).par), (@AV.lit (@Value.string ((@hedN s e9)).tag)), (@AV.lit (@Value.string ((@hedN s e9)).id)), (@AV.view (((@hedR s e9)).cls).length 1 (fun y0 => (fun y1 => (@AV.lit ([(@Value.string (((@hedR s e9)).cls.getD y0 (@ByteArray.mk (@Array.mk _ []))))].getD y1 e20))))), (@AV.view (((@hedR s e9)).ats).length 2 (fun y0 => (fun y1 => (@AV.lit ([(@Value.string ((((@hedR s e9)).ats.getD y0 attrNone)).name), (@Value.string ((((@hedR s e9)).ats.getD y0 attrNone)).value)].getD y1 e20))))), (@AV.lit (@Value.string ((@hedN s e9)).text))]); let e22 := ((eqI (Int.ofNat 0) e5) = true); let e23 := (int ((@hedR s e9)).pl); let e24 := (some (@Blk.mk [e1, e23, e2] 52 none)); let e25 := (@scI mblB s ((@hedR s e9)).pl); let e26 := (some (@Blk.mk [e1, (int e25), e2] 52 none)); let e27 := (some (int (w64 (e14 + (1 : Int))))); let e28 := (((((((0 + 1) + 1) + 1) + 1) + 1) + 1) + 1); let e29 := (some (@Blk.mk [] 3 (some (@Rw.mk ((@HAppend.hAppend _ _ _ _ os [e14])).length 1 (@zcell (@HAppend.hAppend _ _ _ _ os [e14])))))); let e30 := (some (@Blk.mk [] 40 (some (@Rw.mk ((@HAppend.hAppend _ _ _ _ ns [(@putN (@hedN s e9) os)])).length 6 (@ndcell (@HAppend.hAppend _ _ _ _ ns [(@putN (@hedN s e9) os)])))))); let e31 := (some (@Blk.mk [(@AV.own 4 ((@HAppend.hAppend _ _ _ _ ns [(@putN (@hedN s e9) os)])).length 6), (@AV.own (4 + 1) ((@HAppend.hAppend _ _ _ _ os [e14])).length 1)] 70 none)); let e32 := (@List.dropLast _ (@HAppend.hAppend _ _ _ _ os [e14])); (.need (@isSo (@And (e3 = e3) (@And e4 (@And (@And (e5 ≤ a) (a ≤ e6)) e7)))) (.fork (!(leI e8 e5)) (.need e12 (.fork (eqI (@pkI s e9) (125 : Int)) (.leaf ((@ExP.goto 1), ((e13 :: none :: (some (int e9)) :: (some (int e14)) :: (some (int e8)) :: (nn29 (nn48 (nn48 [])))), e18))) (.need (!(leI e8 e5)) (.need e12 (.fork (eqI (@pkI s e9) (34 : Int)) (.leaf ((@ExP.goto 2), ((e13 :: none :: (some (int e9)) :: (some (int e14)) :: (some (int e8)) :: (nn29 (nn48 (nn48 [])))), e18))) (.need e12 (.fork (!(@nmdB s e9)) (.leaf ((@ExP.pan e9 (Int.ofNat 30)), ([], e18))) (.need (@isSo (@And (e10 = e10) (@And e19 True))) (.fork (!(eqI (@fulE e14 e8) e5)) (.leaf ((@ExP.pan e9 (@fulE e14 e8)), ([], e18))) (.need (@isSo (@And (e10 = e10) (@And e19 ((eqI (@fulE e14 e8) e5) = true)))) (.need e12 (.fork ((@hedR s e9)).bad (.leaf ((@ExP.pan ((@hedR s e9)).pl (Int.ofNat 30)), ([], e18))) (.need (@isSo (@And (e10 = e10) (@And e4 (@And e11 (((@hedR s e9)).bad = false))))) (.need (@isSo (@And (e17 = e17) (@And (e16 = e16) (@And (e15 = e15) (@And ([e21] = [e21]) (@And (@And ((@ByteArray.size ((@hedN s e9)).tag) ≤ 9223372036854775807) (@And ((@ByteArray.size ((@hedN s e9)).id) ≤ 9223372036854775807) (@And (@And ((((@hedR s e9)).cls).length ≤ 17592186044416) (∀ (s_1 : ByteArray), s_1 ∈ (hedN s (scI mblB s a)).cls → s_1.size ≤ maxLen)) (@And (@And ((((@hedR s e9)).ats).length ≤ 17592186044416) (∀ (t : AttrV), t ∈ (hedN s (scI mblB s a)).atts → t.Ok)) ((@ByteArray.size ((@hedN s e9)).text) ≤ 9223372036854775807))))) (@And ((@elemB (@hedN s e9)) = true) (@And ((ns).length < 1024) (@And ((os).length < 64) (@Or ((ns).length = 0) (@Not ((os).length = 0)))))))))))) (.need (@isSo (@And ((@HAppend.hAppend _ _ _ _ (@HAppend.hAppend _ _ _ _ [] [(int e9), (int e5)]) []) = [(int e9), (int (Int.ofNat 0))]) e22)) (.need (@isSo (@And (e24 = e24) (@And e4 (@And (@And (e5 ≤ ((@hedR s e9)).pl) (((@hedR s e9)).pl ≤ e6)) e7)))) (.need (@isSo (@And (e26 = e26) (@And e4 (@And (@And (e5 ≤ e25) (e25 ≤ e6)) e7)))) (.fork (eqI (@pkI s e25) (123 : Int)) (.leaf ((@ExP.goto 0), ((e13 :: none :: (some e23) :: e27 :: (some (int (w64 (e8 + (1 : Int))))) :: (nn29 (nn48 (nn48 [])))), (@Mem.mk ((4 + 1) + 1) e28 (e29 :: e30 :: [none, none, e31, (some (@Blk.mk (e1 :: [(int (w64 (e25 + (1 : Int)))), e2]) 52 none))]))))) (.need (@isSo (@And (e31 = e31) (@And (e30 = e30) (@And (e29 = e29) (@And e4 (@And (((@HAppend.hAppend _ _ _ _ os [e14])).length ≤ 64) (@Not (((@HAppend.hAppend _ _ _ _ os [e14])).length = 0)))))))) (.need (@isSo (@And ((@HAppend.hAppend _ _ _ _ (@HAppend.hAppend _ _ _ _ [] [e23, (int e5)]) []) = [e23, (int (Int.ofNat 0))]) e22)) (.leaf ((@ExP.goto 3), ((e13 :: none :: (some e23) :: e27 :: (some (int e8)) :: (nn29 (nn48 (nn48 [])))), (@Mem.mk ((((4 + 1) + 1) + 1) + 1) (((e28 + 1) + 1) + 1) ((some (@Blk.mk [] 3 (some (@Rw.mk (e32).length 1 (@zcell e32))))) :: e30 :: (none :: none :: [none, none, (some (@Blk.mk [(@AV.own ((4 + 1) + 1) ((@HAppend.hAppend _ _ _ _ ns [(@putN (@hedN s e9) os)])).length 6), (@AV.own (((4 + 1) + 1) + 1) (e32).length 1)] 70 none)), (some (@Blk.mk (e1 :: [e23, e2]) 52 none))])))))))))))))))))))))))))) (.need (!(!(leI e8 e5))) (.need e12 (.fork (!(@nmdB s e9)) (.leaf ((@ExP.pan e9 (Int.ofNat 30)), ([], e18))) (.need (@isSo (@And (e10 = e10) (@And e19 True))) (.fork (!(eqI (@fulE e14 e8) e5)) (.leaf ((@ExP.pan e9 (@fulE e14 e8)), ([], e18))) (.need (@isSo (@And (e10 = e10) (@And e19 ((eqI (@fulE e14 e8) e5) = true)))) (.need e12 (.fork ((@hedR s e9)).bad (.leaf ((@ExP.pan ((@hedR s e9)).pl (Int.ofNat 30)), ([], e18))) (.need (@isSo (@And (e10 = e10) (@And e4 (@And e11 (((@hedR s e9)).bad = false))))) (.need (@isSo (@And (e17 = e17) (@And (e16 = e16) (@And (e15 = e15) (@And ([e21] = [e21]) (@And (@And ((@ByteArray.size ((@hedN s e9)).tag) ≤ 9223372036854775807) (@And ((@ByteArray.size ((@hedN s e9)).id) ≤ 9223372036854775807) (@And (@And ((((@hedR s e9)).cls).length ≤ 17592186044416) (∀ (s_1 : ByteArray), s_1 ∈ (hedN s (scI mblB s a)).cls → s_1.size ≤ maxLen)) (@And (@And ((((@hedR s e9)).ats).length ≤ 17592186044416) (∀ (t : AttrV), t ∈ (hedN s (scI mblB s a)).atts → t.Ok)) ((@ByteArray.size ((@hedN s e9)).text) ≤ 9223372036854775807))))) (@And ((@elemB (@hedN s e9)) = true) (@And ((ns).length < 1024) (@And ((os).length < 64) (@Or ((ns).length = 0) (@Not ((os).length = 0)))))))))))) (.need (@isSo (@And ((@HAppend.hAppend _ _ _ _ (@HAppend.hAppend _ _ _ _ [] [(int e9), (int e5)]) []) = [(int e9), (int (Int.ofNat 0))]) e22)) (.need (@isSo (@And (e24 = e24) (@And e4 (@And (@And (e5 ≤ ((@hedR s e9)).pl) (((@hedR s e9)).pl ≤ e6)) e7)))) (.need (@isSo (@And (e26 = e26) (@And e4 (@And (@And (e5 ≤ e25) (e25 ≤ e6)) e7)))) (.fork (eqI (@pkI s e25) (123 : Int)) (.leaf ((@ExP.goto 0), ((e13 :: none :: (some e23) :: e27 :: (some (int (w64 (e8 + (1 : Int))))) :: (nn29 (nn48 (nn48 [])))), (@Mem.mk ((4 + 1) + 1) e28 (e29 :: e30 :: [none, none, e31, (some (@Blk.mk (e1 :: [(int (w64 (e25 + (1 : Int)))), e2]) 52 none))]))))) (.need (@isSo (@And (e31 = e31) (@And (e30 = e30) (@And (e29 = e29) (@And e4 (@And (((@HAppend.hAppend _ _ _ _ os [e14])).length ≤ 64) (@Not (((@HAppend.hAppend _ _ _ _ os [e14])).length = 0)))))))) (.need (@isSo (@And ((@HAppend.hAppend _ _ _ _ (@HAppend.hAppend _ _ _ _ [] [e23, (int e5)]) []) = [e23, (int (Int.ofNat 0))]) e22)) (.leaf ((@ExP.goto 3), ((e13 :: none :: (some e23) :: e27 :: (some (int e8)) :: (nn29 (nn48 (nn48 [])))), (@Mem.mk ((((4 + 1) + 1) + 1) + 1) (((e28 + 1) + 1) + 1) ((some (@Blk.mk [] 3 (some (@Rw.mk (e32).length 1 (@zcell e32))))) :: e30 :: (none :: none :: [none, none, (some (@Blk.mk [(@AV.own ((4 + 1) + 1) ((@HAppend.hAppend _ _ _ _ ns [(@putN (@hedN s e9) os)])).length 6), (@AV.own (((4 + 1) + 1) + 1) (e32).length 1)] 70 none)), (some (@Blk.mk (e1 :: [e23, e2]) 52 none))]))))))))))))))))))))))))) (by kernel_rfl) ?_
  unfold tN ndT'
  conv => zeta
  refine need_so ⟨rfl, rfl, h⟩ (fork_ok (fun q => ?_) (fun q => ?_))
  · have q : leI os.length 0 = false := by simpa using q
    rw [q]
    rw [leI_f] at q
    refine need_so ⟨rfl, rfl, hb⟩ (fork_ok (fun q1 => ?_) (fun q1 => need_t rfl (need_so ⟨rfl, rfl, hb⟩ (fork_ok (fun q2 => ?_) (fun q2 => ?_)))))
    · rw [q1]
      have hlt := pk_lt (by decide) q1
      exact ⟨_, (by kernel_rfl : findLabel trC 1 = some (pieceAt trC 2)), JumpT.stamp 0 (tr_end ih (m + 1) _ _ ns os (hm 1) ⟨by have := hb.1; omega, h.2⟩ hb.1.1 (by omega) hs (by omega))⟩
    · rw [q1, q2]
      exact ⟨_, (by kernel_rfl : findLabel trC 2 = some (pieceAt trC 3)), JumpT.stamp 0 (tr_words ih m _ _ ns os (hm 0) hb (by omega) hs (by omega))⟩
    · rw [q1, q2]
      unfold elT
      refine need_so ⟨rfl, rfl, hb⟩ (fork_ok (fun q3 => ?_) (fun q3 => need_so ⟨rfl, rfl, trivial⟩ (fork_ok (fun q4 => ?_) (fun q4 => need_so ⟨rfl, rfl, ?_⟩ (need_so ⟨rfl, rfl, hb⟩ (fork_ok (fun q5 => ?_) (fun q5 => need_so ⟨rfl, rfl, hb, q5⟩ (need_so ⟨rfl, rfl, rfl, rfl, ?_⟩ (need_so ⟨rfl, rfl⟩ (need_so ⟨rfl, rfl, (hed_in hb q5).1⟩ (need_so ⟨rfl, rfl, scI_in (hed_in hb q5).1⟩ (fork_ok (fun q6 => ?_) (fun q6 => need_so ⟨rfl, rfl, rfl, rfl, ?_⟩ (need_so ⟨rfl, rfl⟩ ?_))))))))))))))
      · have q3 : nmdB s (scI mblB s a) = false := by simpa using q3
        rw [q3]
        exact rfl
      · have q3 : nmdB s (scI mblB s a) = true := by simpa using q3
        have q4 : eqI (fulE ns.length os.length) 0 = false := by simpa using q4
        rw [q3, q4]
        exact rfl
      · simpa using q4
      · have q3 : nmdB s (scI mblB s a) = true := by simpa using q3
        have q4 : eqI (fulE ns.length os.length) 0 = true := by simpa using q4
        rw [q3, q4, q5]
        exact rfl
      · have q4 : eqI (fulE ns.length os.length) 0 = true := by simpa using q4
        have hf := ful_ok q4
        have hel := hed_elem hb q5
        exact ⟨hel.2, hel.1, hf.1, hf.2, hno⟩
      · have q3 : nmdB s (scI mblB s a) = true := by simpa using q3
        have q4 : eqI (fulE ns.length os.length) 0 = true := by simpa using q4
        have hf := ful_ok q4
        rw [q3, q4, q5, q6, (hwn q4).1, (hwn q4).2]
        have hp := hed_gt hb q5
        have hi := (hed_in hb q5).1
        have hlt := pk_lt (by decide) q6
        have hg := scI_le mblB s (hedR s (scI mblB s a)).pl hi.1.1 hi.1.2
        have hz : InM s (scI mblB s (hedR s (scI mblB s a)).pl + 1) := ⟨by have := hi.1; omega, h.2⟩
        have hwz : w64 (scI mblB s (hedR s (scI mblB s a)).pl + 1) = scI mblB s (hedR s (scI mblB s a)).pl + 1 := w64_in (by have := hi.1; omega)
        rw [hwz]
        refine ⟨_, (by kernel_rfl : findLabel trC 0 = some (pieceAt trC 1)), JumpT.ren [0, 1, 4, 5] rfl (trF_ren rfl rfl) (tr_ren (by decide) rfl rfl rfl rfl (NRows.base _) (ZRows.base _)) (ih _ _ _ _ _ (hm 2) hz (by omega) ⟨by rw [List.length_append, List.length_singleton]; omega, by rw [List.length_append, List.length_singleton]; omega⟩ (.inr (by rw [List.length_append, List.length_singleton]; omega)))⟩
      · have q4 : eqI (fulE ns.length os.length) 0 = true := by simpa using q4
        have hf := ful_ok q4
        exact ⟨by rw [List.length_append, List.length_singleton]; omega, by rw [List.length_append, List.length_singleton]; omega⟩
      · have q3 : nmdB s (scI mblB s a) = true := by simpa using q3
        have q4 : eqI (fulE ns.length os.length) 0 = true := by simpa using q4
        have hf := ful_ok q4
        rw [q3, q4, q5, q6, (hwn q4).1, List.dropLast_concat]
        have hp := hed_gt hb q5
        have hi := (hed_in hb q5).1
        exact ⟨_, (by kernel_rfl : findLabel trC 3 = some (pieceAt trC 4)), JumpT.ren [0, 1, 6, 7] rfl (trF_ren rfl rfl) (tr_ren (by decide) rfl rfl rfl rfl (NRows.base _) (ZRows.base _)) (tr_next ih (m + 1) _ _ _ os (hm 1) hi (by omega) ⟨by rw [List.length_append, List.length_singleton]; omega, hs.2⟩)⟩
  · have q : leI os.length 0 = true := by simpa using q
    rw [q]
    unfold elT
    refine need_t rfl ?_
    refine need_so ⟨rfl, rfl, hb⟩ (fork_ok (fun q3 => ?_) (fun q3 => need_so ⟨rfl, rfl, trivial⟩ (fork_ok (fun q4 => ?_) (fun q4 => need_so ⟨rfl, rfl, ?_⟩ (need_so ⟨rfl, rfl, hb⟩ (fork_ok (fun q5 => ?_) (fun q5 => need_so ⟨rfl, rfl, hb, q5⟩ (need_so ⟨rfl, rfl, rfl, rfl, ?_⟩ (need_so ⟨rfl, rfl⟩ (need_so ⟨rfl, rfl, (hed_in hb q5).1⟩ (need_so ⟨rfl, rfl, scI_in (hed_in hb q5).1⟩ (fork_ok (fun q6 => ?_) (fun q6 => need_so ⟨rfl, rfl, rfl, rfl, ?_⟩ (need_so ⟨rfl, rfl⟩ ?_))))))))))))))
    · have q3 : nmdB s (scI mblB s a) = false := by simpa using q3
      rw [q3]
      exact rfl
    · have q3 : nmdB s (scI mblB s a) = true := by simpa using q3
      have q4 : eqI (fulE ns.length os.length) 0 = false := by simpa using q4
      rw [q3, q4]
      exact rfl
    · simpa using q4
    · have q3 : nmdB s (scI mblB s a) = true := by simpa using q3
      have q4 : eqI (fulE ns.length os.length) 0 = true := by simpa using q4
      rw [q3, q4, q5]
      exact rfl
    · have q4 : eqI (fulE ns.length os.length) 0 = true := by simpa using q4
      have hf := ful_ok q4
      have hel := hed_elem hb q5
      exact ⟨hel.2, hel.1, hf.1, hf.2, hno⟩
    · have q3 : nmdB s (scI mblB s a) = true := by simpa using q3
      have q4 : eqI (fulE ns.length os.length) 0 = true := by simpa using q4
      have hf := ful_ok q4
      rw [q3, q4, q5, q6, (hwn q4).1, (hwn q4).2]
      have hp := hed_gt hb q5
      have hi := (hed_in hb q5).1
      have hlt := pk_lt (by decide) q6
      have hg := scI_le mblB s (hedR s (scI mblB s a)).pl hi.1.1 hi.1.2
      have hz : InM s (scI mblB s (hedR s (scI mblB s a)).pl + 1) := ⟨by have := hi.1; omega, h.2⟩
      have hwz : w64 (scI mblB s (hedR s (scI mblB s a)).pl + 1) = scI mblB s (hedR s (scI mblB s a)).pl + 1 := w64_in (by have := hi.1; omega)
      rw [hwz]
      refine ⟨_, (by kernel_rfl : findLabel trC 0 = some (pieceAt trC 1)), JumpT.ren [0, 1, 4, 5] rfl (trF_ren rfl rfl) (tr_ren (by decide) rfl rfl rfl rfl (NRows.base _) (ZRows.base _)) (ih _ _ _ _ _ (hm 2) hz (by omega) ⟨by rw [List.length_append, List.length_singleton]; omega, by rw [List.length_append, List.length_singleton]; omega⟩ (.inr (by rw [List.length_append, List.length_singleton]; omega)))⟩
    · have q4 : eqI (fulE ns.length os.length) 0 = true := by simpa using q4
      have hf := ful_ok q4
      exact ⟨by rw [List.length_append, List.length_singleton]; omega, by rw [List.length_append, List.length_singleton]; omega⟩
    · have q3 : nmdB s (scI mblB s a) = true := by simpa using q3
      have q4 : eqI (fulE ns.length os.length) 0 = true := by simpa using q4
      have hf := ful_ok q4
      rw [q3, q4, q5, q6, (hwn q4).1, List.dropLast_concat]
      have hp := hed_gt hb q5
      have hi := (hed_in hb q5).1
      exact ⟨_, (by kernel_rfl : findLabel trC 3 = some (pieceAt trC 4)), JumpT.ren [0, 1, 6, 7] rfl (trF_ren rfl rfl) (tr_ren (by decide) rfl rfl rfl rfl (NRows.base _) (ZRows.base _)) (tr_next ih (m + 1) _ _ _ os (hm 1) hi (by omega) ⟨by rw [List.length_append, List.length_singleton]; omega, hs.2⟩)⟩
theorem tr_loop (s : ByteArray) : ∀ n, NdAt s n := by
  intro n
  induction n with
  | zero => intro m a fr ns os hm h h2; have := h.1; omega
  | succ n ih =>
    intro m a fr ns os hm h h2 hs hno
    obtain ⟨m', rfl⟩ : ∃ m', m = m' + 3 := ⟨m - 3, by omega⟩
    exact tr_node ih m' a fr ns os (by omega) h (by omega) hs hno
end Sy
end Go.Proofs.Ytglkdhmikpejnaa
namespace Go.Proofs.Ytglkdhmikpejnaa
open Go Go.RowKit Pl Sy
namespace Sy
theorem tr_first {s : ByteArray} {n : Nat} (ih : NdAt s n) (a : Int) (h : InM s a) (h2 : s.size - a < n + 1) :
    JumpT 2 Try.prog trC (3 * n + 3) trC trE (trM s a [] []) (TrJ s (tN s (n + 1) a [] [])) := by
  have hb : InM s (scI mblB s a) := scI_in h
  have hle := scI_le mblB s a h.1.1 h.1.2
  have hl := h.2
  unfold limM at hl
  refine segJ (n := 3 * n + 2) 2 [cMbl s, cPek s, cNmd s, cFul s, cHed s, cOpn (hedN s (scI mblB s a)) [] [], cPut11, cClo [putN (hedN s (scI mblB s a)) []] [0]] [pFail, pHed s, pFul s] [(38, int 0), (37, .tup [])] 400 30 21 0 (by kernel_rfl) (true :: false :: true :: true :: true :: (ff29 (ff48 (ff48 [])))) (.yes (.auto 9 (.yes (.br (.auto 0 .done) (.yes (.auto 0 (.yes (.yes (.br .done (.yes (.yes (.yes (.yes (.yes (.br .done (.yes (.yes .done))))))))))))))))) (let e1 := (@AV.lit (@Value.string s)); let e2 := (@AV.ptr 1 0); let e3 := (some (@Blk.mk [e1, (int a), e2] 52 none)); let e4 := (([] : List AV) = []); let e5 := (0 : Int); let e6 := (((@ByteArray.size s) : Nat) : Int); let e7 := ((@ByteArray.size s) ≤ 1000000); let e8 := (@scI mblB s a); let e9 := (some (@Blk.mk [e1, (int e8), e2] 52 none)); let e10 := (@And (@And (e5 ≤ e8) (e8 ≤ e6)) e7); let e11 := (@isSo (@And (e9 = e9) (@And e4 e10))); let e12 := (some (@Blk.mk [] 3 (some (@Rw.mk 0 1 (@zcell []))))); let e13 := (some (@Blk.mk [] 40 (some (@Rw.mk 0 6 (@ndcell []))))); let e14 := (some (@Blk.mk [(@AV.own 2 0 6), (@AV.own 3 0 1)] 70 none)); let e15 := ([(int e5), (int e5)] = [(int e5), (int e5)]); let e16 := (@Value.tuple (@Array.mk _ [])); let e17 := (@AV.agg [(int ((@hedN s e8)).par), (@AV.lit (@Value.string ((@hedN s e8)).tag)), (@AV.lit (@Value.string ((@hedN s e8)).id)), (@AV.view (((@hedR s e8)).cls).length 1 (fun y0 => (fun y1 => (@AV.lit ([(@Value.string (((@hedR s e8)).cls.getD y0 (@ByteArray.mk (@Array.mk _ []))))].getD y1 e16))))), (@AV.view (((@hedR s e8)).ats).length 2 (fun y0 => (fun y1 => (@AV.lit ([(@Value.string ((((@hedR s e8)).ats.getD y0 attrNone)).name), (@Value.string ((((@hedR s e8)).ats.getD y0 attrNone)).value)].getD y1 e16))))), (@AV.lit (@Value.string ((@hedN s e8)).text))]); let e18 := ((eqI (Int.ofNat 0) e5) = true); let e19 := (int ((@hedR s e8)).pl); let e20 := (some (@Blk.mk [e1, e19, e2] 52 none)); let e21 := (@scI mblB s ((@hedR s e8)).pl); let e22 := (some (@Blk.mk [e1, (int e21), e2] 52 none)); let e23 := (some (int (1 : Int))); let e24 := (((((((0 + 1) + 1) + 1) + 1) + 1) + 1) + 1); let e25 := (some (@Blk.mk [] 3 (some (@Rw.mk 1 1 (@zcell (@HAppend.hAppend _ _ _ _ [] [e5])))))); let e26 := (@putN (@hedN s e8) []); let e27 := (some (@Blk.mk [] 40 (some (@Rw.mk ((@HAppend.hAppend _ _ _ _ [] [e26])).length 6 (@ndcell (@HAppend.hAppend _ _ _ _ [] [e26])))))); let e28 := (some (@Blk.mk [(@AV.own 4 ((@HAppend.hAppend _ _ _ _ [] [e26])).length 6), (@AV.own (4 + 1) 1 1)] 70 none)); let e29 := (some (@Blk.mk [] 40 (some (@Rw.mk ([e26]).length 6 (@ndcell [e26]))))); (.need (@isSo (@And (e3 = e3) (@And e4 (@And (@And (e5 ≤ a) (a ≤ e6)) e7)))) (.need e11 (.fork (!(@nmdB s e8)) (.leaf ((@ExP.pan e8 (Int.ofNat 30)), ([], (@Mem.mk 4 (0 + 1) [e12, e13, e14, e9])))) (.need (@isSo (@And (e9 = e9) (@And e15 True))) (.need (@isSo (@And (e9 = e9) (@And e15 (true = true)))) (.need e11 (.fork ((@hedR s e8)).bad (.leaf ((@ExP.pan ((@hedR s e8)).pl (Int.ofNat 30)), ([], (@Mem.mk 4 (0 + 1) [e12, e13, e14, e9])))) (.need (@isSo (@And (e9 = e9) (@And e4 (@And e10 (((@hedR s e8)).bad = false))))) (.need (@isSo (@And (e14 = e14) (@And (e13 = e13) (@And (e12 = e12) (@And ([e17] = [e17]) (@And (@And ((@ByteArray.size ((@hedN s e8)).tag) ≤ 9223372036854775807) (@And ((@ByteArray.size ((@hedN s e8)).id) ≤ 9223372036854775807) (@And (@And ((((@hedR s e8)).cls).length ≤ 17592186044416) (∀ (s_1 : ByteArray), s_1 ∈ (hedN s (scI mblB s a)).cls → s_1.size ≤ maxLen)) (@And (@And ((((@hedR s e8)).ats).length ≤ 17592186044416) (∀ (t : AttrV), t ∈ (hedN s (scI mblB s a)).atts → t.Ok)) ((@ByteArray.size ((@hedN s e8)).text) ≤ 9223372036854775807))))) (@And ((@elemB (@hedN s e8)) = true) (@And (0 < 1024) (@And (0 < 64) (@Or (0 = 0) (@Not (0 = 0)))))))))))) (.need (@isSo (@And ((@HAppend.hAppend _ _ _ _ (@HAppend.hAppend _ _ _ _ [] [(int e8), (int e5)]) []) = [(int e8), (int (Int.ofNat 0))]) e18)) (.need (@isSo (@And (e20 = e20) (@And e4 (@And (@And (e5 ≤ ((@hedR s e8)).pl) (((@hedR s e8)).pl ≤ e6)) e7)))) (.need (@isSo (@And (e22 = e22) (@And e4 (@And (@And (e5 ≤ e21) (e21 ≤ e6)) e7)))) (.fork (eqI (@pkI s e21) (123 : Int)) (.leaf ((@ExP.goto 0), (((some (@AV.ptr 0 0)) :: none :: (some e19) :: e23 :: e23 :: (nn29 (nn48 (nn48 [])))), (@Mem.mk ((4 + 1) + 1) e24 (e25 :: e27 :: [none, none, e28, (some (@Blk.mk (e1 :: [(int (w64 (e21 + (1 : Int)))), e2]) 52 none))]))))) (.need (@isSo (@And (e28 = (some (@Blk.mk [(@AV.own 4 ([e26]).length 6), (@AV.own (4 + 1) 1 1)] 70 none))) (@And (e27 = e29) (@And (e25 = (some (@Blk.mk [] 3 (some (@Rw.mk 1 1 (@zcell [e5])))))) (@And e4 (@And (1 ≤ 64) (@Not (1 = 0)))))))) (.need (@isSo (@And ((@HAppend.hAppend _ _ _ _ (@HAppend.hAppend _ _ _ _ [] [e19, (int e5)]) []) = [e19, (int (Int.ofNat 0))]) e18)) (.leaf ((@ExP.goto 3), (((some (@AV.ptr 0 0)) :: none :: (some e19) :: e23 :: (some (int e5)) :: (nn29 (nn48 (nn48 [])))), (@Mem.mk ((((4 + 1) + 1) + 1) + 1) (((e24 + 1) + 1) + 1) ((some (@Blk.mk [] 3 (some (@Rw.mk 0 1 (@zcell (@List.dropLast _ [e5])))))) :: e29 :: (none :: none :: [none, none, (some (@Blk.mk [(@AV.own ((4 + 1) + 1) ([e26]).length 6), (@AV.own (((4 + 1) + 1) + 1) 0 1)] 70 none)), (some (@Blk.mk (e1 :: [e19, e2]) 52 none))])))))))))))))))))))))) (by kernel_rfl) ?_
  unfold tN ndT' elT
  have e1 : leI (([] : List Int).length : Nat) 0 = true := rfl
  have e2 : eqI (fulE (([] : List NdV).length : Nat) (([] : List Int).length : Nat)) 0 = true := rfl
  rw [e1, e2]
  conv => zeta
  refine need_so ⟨rfl, rfl, h⟩ (need_so ⟨rfl, rfl, hb⟩ (fork_ok (fun q3 => ?_) (fun q3 => need_so ⟨rfl, rfl, trivial⟩ (need_so ⟨rfl, rfl, rfl⟩ (need_so ⟨rfl, rfl, hb⟩ (fork_ok (fun q5 => ?_) (fun q5 => need_so ⟨rfl, rfl, hb, q5⟩ (need_so ⟨rfl, rfl, rfl, rfl, ?_⟩ (need_so ⟨rfl, rfl⟩ (need_so ⟨rfl, rfl, (hed_in hb q5).1⟩ (need_so ⟨rfl, rfl, scI_in (hed_in hb q5).1⟩ (fork_ok (fun q6 => ?_) (fun q6 => need_so ⟨rfl, rfl, rfl, rfl, by decide, by decide⟩ (need_so ⟨rfl, rfl⟩ ?_))))))))))))))
  · have q3 : nmdB s (scI mblB s a) = false := by simpa using q3
    rw [q3]
    exact rfl
  · have q3 : nmdB s (scI mblB s a) = true := by simpa using q3
    rw [q3, q5]
    exact rfl
  · have hel := hed_elem hb q5
    exact ⟨hel.2, hel.1, by decide, by decide, .inl rfl⟩
  · have q3 : nmdB s (scI mblB s a) = true := by simpa using q3
    rw [q3, q5, q6]
    have hp := hed_gt hb q5
    have hi := (hed_in hb q5).1
    have hlt := pk_lt (by decide) q6
    have hg := scI_le mblB s (hedR s (scI mblB s a)).pl hi.1.1 hi.1.2
    have hz : InM s (scI mblB s (hedR s (scI mblB s a)).pl + 1) := ⟨by have := hi.1; omega, h.2⟩
    have hwz : w64 (scI mblB s (hedR s (scI mblB s a)).pl + 1) = scI mblB s (hedR s (scI mblB s a)).pl + 1 := w64_in (by have := hi.1; omega)
    rw [hwz]
    exact ⟨_, (by kernel_rfl : findLabel trC 0 = some (pieceAt trC 1)), JumpT.ren [0, 1, 4, 5] rfl (trF_ren rfl rfl) (tr_ren (by decide) rfl rfl rfl rfl (NRows.base [putN (hedN s (scI mblB s a)) []]) (ZRows.base [0])) (ih (3 * n + 2) _ _ [putN (hedN s (scI mblB s a)) []] [0] (by omega) hz (by omega) ⟨(by show 1 ≤ 1024; decide), by decide⟩ (.inr (by decide)))⟩
  · have q3 : nmdB s (scI mblB s a) = true := by simpa using q3
    rw [q3, q5, q6]
    have hp := hed_gt hb q5
    have hi := (hed_in hb q5).1
    exact ⟨_, (by kernel_rfl : findLabel trC 3 = some (pieceAt trC 4)), JumpT.ren [0, 1, 6, 7] rfl (trF_ren rfl rfl) (tr_ren (by decide) rfl rfl rfl rfl (NRows.base [putN (hedN s (scI mblB s a)) []]) (ZRows.base [])) (tr_next ih (3 * n + 1) _ _ [putN (hedN s (scI mblB s a)) []] [] (by omega) hi (by omega) ⟨(by show 1 ≤ 1024; decide), by decide⟩)⟩
end Sy
noncomputable def treeR (s : ByteArray) : TrR := tN s (s.size + 2) 0 [] []
def TrR.isOk : TrR → Bool
  | .bad _ _ => false
  | .ok _ _ => true
def TrR.k : TrR → Int
  | .bad k _ => k
  | .ok a _ => a
def TrR.e : TrR → Int
  | .bad _ e => e
  | .ok _ _ => 0
def TrR.ns : TrR → List NdV
  | .bad _ _ => []
  | .ok _ ns => ns
namespace Sy
abbrev bd0 : Blk := ⟨[.lit (.slice none 0 0), .lit (.slice none 0 0)], 70, none⟩
abbrev trM0 (s : ByteArray) : Mem := ⟨2, 0, [some bd0, some (mrB s 0 (.ptr 1 0))]⟩
noncomputable def trT (s : ByteArray) : Tr (ExP × Fr × Mem) := .fork (treeR s).isOk (.leaf (.norm, trE, trM s (treeR s).k (treeR s).ns [])) (.leaf (.pan (treeR s).k (treeR s).e, [], trM0 s))
theorem tr_all (s : ByteArray) (h : limM s.size) : ScopeTo Try.prog trC trE (trM0 s) (selP (trT s)) := by
  have h0 : InM s 0 := ⟨⟨Int.le_refl 0, by omega⟩, h⟩
  refine JumpT.to (T := 2) (n := 3 * (s.size + 1) + 3) ?_ (Nat.le_refl _)
  refine JumpT.nilc 1 0 _ 40 6 (ndcell []) (Nat.le_refl _) rfl rfl ?_
  refine JumpT.nilc 1 1 _ 3 1 (zcell []) (show 2 ≤ 3 by decide) rfl rfl ?_
  refine JumpT.stamp 0 ?_
  refine (JumpT.out (tr_first (tr_loop s (s.size + 1)) 0 h0 (by omega))).mono fun ex F M hg => ?_
  change TrG s (treeR s) ex F M at hg
  unfold trT
  cases hr : treeR s with
  | bad k e =>
    rw [hr] at hg
    have hg : ex = .pan k e := hg
    subst hg
    exact ⟨[], trM0 s, .inr ⟨rfl, rfl⟩⟩
  | ok a ns =>
    rw [hr] at hg
    obtain ⟨rfl, rfl, rfl⟩ := hg
    exact Or.inl ⟨rfl, rfl⟩
noncomputable abbrev scTr (s : ByteArray) : Sc Try.prog 21 where
  S := formP (fun _ _ => some ()) (fun _ => trE) (fun _ => trM0 s) (fun _ => limM s.size) (fun _ => trT s) (true :: (ff33 (ff48 (ff48 []))))
  one := by kernel_rfl
  ok := formP_ok fun _ h => tr_all s h
end Sy
theorem Sy.tre_t (s : ByteArray) (h : limM s.size) : CallP Try.prog 21 [.ptr 0 0] (trM0 s) fun r => match r with
    | .ret v M' => (treeR s).isOk = true ∧ v = .tup [] ∧ M' = trM s (treeR s).k (treeR s).ns []
    | .pan k e => (treeR s).isOk = false ∧ k = (treeR s).k ∧ e = (treeR s).e :=
  toS [] [] [] [] (scTr s) 400 30 (.br .done .done) (let e1 := (@Mem.mk 2 0 [(some bd0), (some (@Blk.mk [(@AV.lit (@Value.string s)), (int (0 : Int)), (@AV.ptr 1 0)] 52 none))]); (.need (@isSo (@And (((some (@AV.ptr 0 0)) :: (nn33 (nn48 (nn48 [])))) = trE) (e1 = e1))) (.need (@isSo ((@ByteArray.size s) ≤ 1000000)) (.fork (@TrR.isOk (@treeR s)) (.leaf (@RP.ret (@AV.tup []) (@Mem.mk 4 0 [(some (@Blk.mk [] 3 (some (@Rw.mk 0 1 (@zcell []))))), (some (@Blk.mk [] 40 (some (@Rw.mk ((@TrR.ns (@treeR s))).length 6 (@ndcell (@TrR.ns (@treeR s))))))), (some (@Blk.mk [(@AV.own 2 ((@TrR.ns (@treeR s))).length 6), (@AV.own 3 0 1)] 70 none)), (some (@Blk.mk [(@AV.lit (@Value.string s)), (int (@TrR.k (@treeR s))), (@AV.ptr 1 0)] 52 none))]))) (.leaf (@RP.pan (@TrR.k (@treeR s)) (@TrR.e (@treeR s)))))))) (by kernel_rfl) (need_so ⟨rfl, rfl⟩ (need_so h (fork_ok (fun q => ⟨q, rfl, rfl⟩) (fun q => ⟨q, rfl, rfl⟩))))
end Go.Proofs.Ytglkdhmikpejnaa
namespace Go.Proofs.Ytglkdhmikpejnaa
open Go Go.RowKit Pl Sy
theorem ta_nil (w : World) : (Instr.typeAssert .nilIface 20 46 true).run Try.prog w = .ok (.tuple #[.agg #[.int .i64 0, .int .i64 0], .bool false]) w := by kernel_rfl
theorem ta_some (k e : Int) (w : World) : (Instr.typeAssert (.iface 46 (.agg #[.int .i64 k, .int .i64 e])) 20 46 true).run Try.prog w = .ok (.tuple #[.agg #[.int .i64 k, .int .i64 e], .bool true]) w := by kernel_rfl
namespace Sy
noncomputable def bodyOf (f : FuncId) : Code := match Try.prog.funcs[f]? with
  | some fn => (match fn.body with | some c => c | none => .skip)
  | none => .skip
def cFst : Code → Code | .seq a _ => a | c => c
def cSnd : Code → Code | .seq _ b => b | c => c
def cThen : Code → Code | .cond _ a _ => a | c => c
theorem loopsOk_nil [Dfs] {P : Program} {lp : Nat → Option Summ} : ∀ (c : Code), loopsOf c = [] → LoopsOk P lp c
  | .seq a b, h => by
    simp only [loopsOf, List.append_eq_nil_iff] at h
    exact ⟨loopsOk_nil a h.1, loopsOk_nil b h.2⟩
  | .cond _ a b, h => by
    simp only [loopsOf, List.append_eq_nil_iff] at h
    exact ⟨loopsOk_nil a h.1, loopsOk_nil b h.2⟩
  | .block _ b, h => loopsOk_nil b h
  | .scope b, h => loopsOk_nil b h
  | .loop b, h => by cases h
  | .skip, _ | .label _, _ | .region .., _ | .exit _, _ | .ret, _ | .goto _, _ | .refuse _, _ | .rangeFunc .., _ => trivial
theorem scOk_nil [Dfs] {P : Program} : ∀ (c : Code), ScOk P none c
  | .seq a b => ⟨scOk_nil a, scOk_nil b⟩
  | .cond _ a b => ⟨scOk_nil a, scOk_nil b⟩
  | .block _ b => scOk_nil b
  | .scope b => fun S h => by cases h
  | .loop b => trivial
  | .skip | .label _ | .region .. | .exit _ | .ret | .goto _ | .refuse _ | .rangeFunc .. => trivial
theorem FR.maskD [Dfs] {ρ : Rho} {F : Fr} {a : Act} (h : FR ρ F a) (p : List Bool) : FR ρ (maskF p F) a := ⟨by rw [maskF_len, h.len], fun t v hv => h.val t v (maskF_get F p t v hv), h.defers⟩
theorem codeC [Dfs] (l : List (Con Try.prog)) (pl : List (PCon Try.prog)) (more : List (FuncId × AV)) (k m : Nat) (c : Code) (hl : (loopsOf c).isEmpty = true) (p : List Bool) {F : Fr} {M : Mem} {w0 : World} {ρ : Rho} {a : Act} {w : World} (hF : FR ρ F a) (hW : WR w0 ρ M w) (d : D) (t : Tr (ExP × Fr × Mem)) {Q : Exit → Act → World → Prop}
    (h : codeP Try.prog (table l) (psOf pl more) (callK Try.prog (table l) (lpOf ([] : List (Lp Try.prog))) k m) (fun _ => none) none c F M d (fun ex F' M' _ => .leaf (ex, maskP p ex F', M')) = t)
    (ht : t.Ok fun r => ∀ ρ' a' w', Ext ρ ρ' → EndP w0 ρ' r.1 r.2.1 r.2.2 a' w' → Q r.1.to a' w') : c.wp Try.prog Q a w := by
  subst h
  have hlp : LoopsOk Try.prog (fun _ => none) c := loopsOk_nil c (by simpa using hl)
  refine codeP_sound plain mixed (table_ok l) (pansOf_ok pl) (callK_ok plain mixed (table_ok l) (lps_ok ([] : List (Lp Try.prog))) k m) c hlp (scOk_nil c) hF hW ht fun ex F' M' d' ρ' a' w' h0 h1 h2 => ?_
  cases ex with
  | norm => exact h0 ρ' a' w' h1 ⟨h2.1.maskD p, h2.2⟩
  | exit id => exact h0 ρ' a' w' h1 ⟨h2.1.maskD p, h2.2⟩
  | ret => exact h0 ρ' a' w' h1 ⟨h2.1.maskD p, h2.2⟩
  | goto lb => exact h0 ρ' a' w' h1 ⟨h2.1.maskD p, h2.2⟩
  | pan kk e => exact h0 ρ' a' w' h1 h2
abbrev rcL (v : AV) : Blk := ⟨[v], 22, none⟩
abbrev rcK (v : AV) : Blk := ⟨[v], 3, none⟩
abbrev rcE (v : AV) : Blk := ⟨[v], 23, none⟩
abbrev paF : Fr := (some (.ptr 0 0) :: some (.ptr 1 0) :: some (.ptr 2 0) :: some (.ptr 5 0) :: (nn11 []))
end Sy
theorem catch_idle (p q r : Addr) (w : World) : CallsD Try.prog 19 #[.pointer (some p), .pointer (some q), .pointer (some r)] .returning w fun e u' w' => e = .returned (.tuple #[]) ∧ u' = .returning ∧ ∃ cur, w' = w.alloc (.cells cur 46) := by
  refine callsD_of_wpS Try.func19 rfl fun c₀ cs hu => ?_
  simp only [Try.ntmps19, List.size_toArray, List.length_cons, List.length_nil, Nat.reduceAdd, Nat.reduceSub, Array.replicate_succ,
     Array.replicate_zero, List.push_toArray, List.append_toArray, List.nil_append, List.cons_append]
  apply wpS_seq
  apply wpS_region
  simp [wpOpsS, go_sem, recoverD, hu, Exit.thenS, ta_nil]
  apply wpS_seq
  apply wpS_region
  simp [wpOpsS, go_sem, Exit.thenS]
  refine wpS_cond (t := false) (by simp [Act.eval]) ?_
  simp only [Bool.false_eq_true, if_false]
  refine wpS_of_wp (wp_skip ?_)
  cases c₀
  simp_all [bodyPostS, results, (show Try.f19.results = #[] from rfl)]
  exact ⟨_, rfl⟩
theorem catch_fault {w0 : World} {ρ : Rho} {w : World} {k e : Int} (hW : WR w0 ρ ⟨5, 0, [none, none, some (rcE (int 0)), some (rcK (int 0)), some (rcL (.lit (.slice none 0 0)))]⟩ w) {p q r : Addr} (hp : rel ρ (.ptr 0 0) (.pointer (some p))) (hq : rel ρ (.ptr 1 0) (.pointer (some q))) (hr : rel ρ (.ptr 2 0) (.pointer (some r))) :
    CallsD Try.prog 19 #[.pointer (some p), .pointer (some q), .pointer (some r)] (.panicking [pent k e]) w fun x u' w' => x = .returned (.tuple #[]) ∧ settle u' = .returning ∧ ∃ ρ', Ext ρ ρ' ∧ WR w0 ρ' ⟨6, 0, [some ⟨[int k, int e], 46, none⟩, none, none, some (rcE (int e)), some (rcK (int k)), some (rcL (.lit (.slice none 0 0)))]⟩ w' := by
  refine callsD_of_wpS Try.func19 rfl fun c₀ cs hu => ?_
  simp only [Try.ntmps19, List.size_toArray, List.length_cons, List.length_nil, Nat.reduceAdd, Nat.reduceSub, Array.replicate_succ,
     Array.replicate_zero, List.push_toArray, List.append_toArray, List.nil_append, List.cons_append]
  apply wpS_seq
  apply wpS_region
  simp [wpOpsS, go_sem, recoverD, hu, Exit.thenS, pent, ta_some]
  apply wpS_seq
  apply wpS_region
  simp [wpOpsS, go_sem, Exit.thenS]
  refine wpS_cond (t := true) (by simp [Act.eval]) ?_
  simp only [if_true]
  refine wpS_of_wp ?_
  generalize hR : Code.region _ _ true = R
  have hR2 : R = cThen (cSnd (cSnd (bodyOf 19))) := by rw [← hR]; kernel_rfl
  rw [hR2]
  have h3 := hW.new (cs := [int k, int e]) (us := #[.int .i64 k, .int .i64 e]) 46 (fun i v hv => by
    rcases i with _ | _ | i
    · simp at hv; subst hv; exact ⟨_, rfl, by simp only [rel]; rfl⟩
    · simp at hv; subst hv; exact ⟨_, rfl, by simp only [rel]; rfl⟩
    · simp at hv)
  have hE := hW.fresh (w.heap.size, 2)
  have hF : FR (upd ρ 5 (w.heap.size, 2)) paF { tmps := #[.pointer (some p), .pointer (some q), .pointer (some r), .pointer (some ⟨w.heap.size, 0, none⟩), .bool true, .tuple #[.agg #[.int .i64 k, .int .i64 e], .bool true], .iface 46 (.agg #[.int .i64 k, .int .i64 e]), .tuple #[.agg #[.int .i64 k, .int .i64 e], .bool true], .agg #[.int .i64 k, .int .i64 e], .bool true, .bool true, undef, undef, undef, undef], defers := [] } := ⟨rfl, fun t v hv => by
    rcases t with _ | _ | _ | _ | t
    · simp at hv; subst hv; exact hp.ext hE
    · simp at hv; subst hv; exact hq.ext hE
    · simp at hv; subst hv; exact hr.ext hE
    · simp at hv; subst hv
      simp only [rel]
      exact ⟨w.heap.size, 2, by simp [upd], rfl⟩
    · exfalso
      rcases t with _ | _ | _ | _ | _ | _ | _ | _ | _ | _ | _ | t <;> simp at hv, rfl⟩
  refine codeC [] [] [] 400 30 _ (by kernel_rfl) (true :: (ff14 [])) hF (h3.restamp 0) .done (.leaf (ExP.norm, (((some (@AV.ptr 0 0)) :: (nn14 [])), (@Mem.mk 6 (((0 + 1) + 1) + 1) [(some (@Blk.mk [(int k), (int e)] 46 none)), none, none, (some (@Blk.mk [(int e)] 23 none)), (some (@Blk.mk [(int k)] 3 none)), (some (@Blk.mk [(@AV.lit (@Value.slice none 0 0))] 22 none))])))) (by kernel_rfl) ?_
  intro ρ' a' w' q1 q2
  refine ⟨q2.1.defers, _, rfl, .tuple #[], by simp [results, (show Try.f19.results = #[] from rfl), go_sem], rfl, rfl, ρ', hE.trans q1, q2.2.restamp 0⟩
end Go.Proofs.Ytglkdhmikpejnaa
namespace Go.Proofs.Ytglkdhmikpejnaa
open Go Go.RowKit Pl Sy
namespace Sy
abbrev pF2 : Fr := (none :: none :: some (.ptr 0 0) :: some (.ptr 1 0) :: some (.ptr 2 0) :: some (.ptr 4 0) :: (nn20 []))
abbrev pM2 (s : ByteArray) (k : Int) (ns : List NdV) : Mem := ⟨7, 0, [some (irowB []), some (nrowB ns), some (mrB s k (.ptr 3 0)), some (bdB 5 ns.length 6 0), some (rcE (int 0)), some (rcK (int 0)), some (rcL (.lit (.slice none 0 0)))]⟩
end Sy
theorem new_w (w : World) : Calls Try.prog 20 #[] w fun e w' => e = .returned (.pointer (some ⟨w.heap.size, 0, none⟩)) ∧ w' = w.alloc (.cells #[.slice none 0 0, .slice none 0 0] 70) := by
  go_enter Try.func20, Try.ntmps20
  go_wp2
  go_ret
  exact ⟨rfl, rfl⟩
namespace Sy
abbrev pM0 (s : ByteArray) : Mem := ⟨5, 0, [some (mrB s 0 (.ptr 3 0)), some bd0, some (rcE (int 0)), some (rcK (int 0)), some (rcL (.lit (.slice none 0 0)))]⟩
def pTau : Nat → Option Nat
  | 3 => some 1
  | 4 => some 0
  | 5 => some 2
  | 6 => some 3
  | _ => none
theorem pTau_some {x c : Nat} (h : pTau x = some c) : (x = 3 ∧ c = 1) ∨ (x = 4 ∧ c = 0) ∨ (x = 5 ∧ c = 2) ∨ (x = 6 ∧ c = 3) := by
  unfold pTau at h
  split at h <;> simp at h <;> omega
theorem pM0_ren (s : ByteArray) : RenM (nm [4, 3]) (pM0 s) (trM0 s) := .of rfl rfl (by decide) ⟨⟨3, _, rfl, rfl, rfl, ⟨rfl, rfl, trivial⟩, trivial⟩, ⟨4, _, rfl, rfl, rfl, ⟨rfl, rfl, ⟨rfl, rfl⟩, trivial⟩, trivial⟩, trivial⟩
theorem pM0_live (s : ByteArray) : Live (nm [4, 3]) (trM0 s) := fun z c hz => by
  rcases z with _ | _ | z
  · exact ⟨_, rfl⟩
  · exact ⟨_, rfl⟩
  · cases hz
theorem tree_ok (s : ByteArray) (hl : limM s.size) (h : (treeR s).isOk = true) : CallTo Try.prog 21 [.ptr 4 0] (pM0 s) fun v M' => v = .tup [] ∧ M' = pM2 s (treeR s).k (treeR s).ns := by
  refine CallTo.frameG (σ := nm [4, 3]) ((tre_t s hl).to fun k e hg => by rw [h] at hg; cases hg.1) ⟨⟨rfl, rfl⟩, trivial⟩ (pM0_ren s) (pM0_live s) ?_
  rintro v M2 ⟨_, rfl, rfl⟩
  refine ⟨pTau, _, _, ⟨rfl, rfl⟩, trivial, Nat.le_of_ble_eq_true rfl, fun x c hx => ?_, fun x c hlt hx => ?_, fun x x' c hx hx' => ?_, fun x B' hx => ?_⟩
  · show x < 7
    rcases pTau_some hx with h | h | h | h <;> omega
  · have hlt : x < 5 := hlt
    rcases pTau_some hx with ⟨rfl, rfl⟩ | ⟨rfl, rfl⟩ | ⟨rfl, rfl⟩ | ⟨rfl, rfl⟩
    · exact ⟨Nat.le_of_ble_eq_true rfl, rfl⟩
    · exact ⟨Nat.le_of_ble_eq_true rfl, rfl⟩
    · omega
    · omega
  · rcases pTau_some hx with h | h | h | h <;> rcases pTau_some hx' with h' | h' | h' | h' <;> omega
  · have nope : ∀ y : Nat, y < 3 → ∀ c, nm [4, 3] c ≠ some y := fun y hy c hc => by
      rcases c with _ | _ | c
      · have : some 4 = some y := hc
        simp at this; omega
      · have : some 3 = some y := hc
        simp at this; omega
      · cases hc
    rcases x with _ | _ | _ | _ | _ | _ | _ | x
    · exact .inl ⟨Nat.le_of_ble_eq_true rfl, nope 0 (by decide), hx⟩
    · exact .inl ⟨Nat.le_of_ble_eq_true rfl, nope 1 (by decide), hx⟩
    · exact .inl ⟨Nat.le_of_ble_eq_true rfl, nope 2 (by decide), hx⟩
    · have e : bdB 5 (treeR s).ns.length 6 0 = B' := by injection hx
      subst e
      exact .inr ⟨1, _, rfl, rfl, rfl, ⟨⟨rfl, rfl, rfl⟩, ⟨rfl, rfl, rfl⟩, trivial⟩, trivial⟩
    · have e : mrB s (treeR s).k (.ptr 3 0) = B' := by injection hx
      subst e
      exact .inr ⟨0, _, rfl, rfl, rfl, ⟨rfl, rfl, ⟨rfl, rfl⟩, trivial⟩, trivial⟩
    · have e : nrowB (treeR s).ns = B' := by injection hx
      subst e
      exact .inr ⟨2, _, rfl, rfl, rfl, trivial, rfl, rfl, fun i j hi hj => RenV.free _ (ndA_free _ _)⟩
    · have e : irowB [] = B' := by injection hx
      subst e
      exact .inr ⟨3, _, rfl, rfl, rfl, trivial, rfl, rfl, fun i j hi hj => RenV.free _ trivial⟩
    · exfalso
      rw [Mem.get_def, if_neg (by show ¬ x + 1 + 1 + 1 + 1 + 1 + 1 + 1 < 7; omega)] at hx
      cases hx
theorem tree_bad (s : ByteArray) (hl : limM s.size) (h : (treeR s).isOk = false) : ∀ w0 ρ us w, rels ρ [.ptr 4 0] us → WR w0 ρ (pM0 s) w →
    Calls Try.prog 21 us.toArray w fun x w' => ∃ ρ', x = .panicked [pent (treeR s).k (treeR s).e] ∧ Ext ρ ρ' ∧ WR w0 ρ' ⟨5, 0, [none, none, some (rcE (int 0)), some (rcK (int 0)), some (rcL (.lit (.slice none 0 0)))]⟩ w' := by
  refine PanTo.frameG (σ := nm [4, 3]) ((tre_t s hl).pan (fun v M' hg => by rw [h] at hg; cases hg.1) fun k e hg => hg.2) ⟨⟨rfl, rfl⟩, trivial⟩ (pM0_ren s) (pM0_live s) (Nat.le_refl 5) fun x B hx => ?_
  have nope : ∀ y : Nat, y < 3 → ∀ c, nm [4, 3] c ≠ some y := fun y hy c hc => by
    rcases c with _ | _ | c
    · have : some 4 = some y := hc
      simp at this; omega
    · have : some 3 = some y := hc
      simp at this; omega
    · cases hc
  rcases x with _ | _ | _ | _ | _ | x
  · exact ⟨Nat.le_of_ble_eq_true rfl, nope 0 (by decide), hx⟩
  · exact ⟨Nat.le_of_ble_eq_true rfl, nope 1 (by decide), hx⟩
  · exact ⟨Nat.le_of_ble_eq_true rfl, nope 2 (by decide), hx⟩
  · cases hx
  · cases hx
  · exfalso
    rw [Mem.get_def, if_neg (by show ¬ x + 1 + 1 + 1 + 1 + 1 < 5; omega)] at hx
    cases hx
end Sy
noncomputable def paV (s : ByteArray) : AV := match leI s.size 32768 with
  | false => .tup [.lit (.slice none 0 0), int 0, int 2]
  | true => match (treeR s).isOk with
    | true => .tup [nview (treeR s).ns, int 0, int 0]
    | false => .tup [.lit (.slice none 0 0), int (treeR s).k, int (treeR s).e]
namespace Sy
abbrev pW (s : ByteArray) (w : World) : World := ((((w.alloc (.cells #[.slice none 0 0] 22)).alloc (.cells #[.int .i64 0] 3)).alloc (.cells #[.int .i64 0] 23)).alloc (.cells #[.slice none 0 0, .slice none 0 0] 70)).alloc (.cells #[.string s, .int .i64 0, .pointer (some ⟨w.heap.size + 1 + 1 + 1, 0, none⟩)] 52)
theorem alloc_sz (w : World) (o : Obj) : (w.alloc o).heap.size = w.heap.size + 1 := Array.size_push ..
theorem par_start {w0 : World} {ρ : Rho} {w : World} (hW : WR w0 ρ M0 w) (s : ByteArray) : ∃ ρ5, Ext ρ ρ5 ∧ WR w0 ρ5 (pM0 s) (pW s w) ∧ ρ5 0 = some (w.heap.size, 1) ∧ ρ5 1 = some (w.heap.size + 1, 1) ∧ ρ5 2 = some (w.heap.size + 1 + 1, 1) ∧ ρ5 4 = some (w.heap.size + 1 + 1 + 1 + 1, 3) := by
  have lit1 : ∀ (ρ : Rho) (v : Value) (i : Nat) (a : AV), [AV.lit v][i]? = some a → ∃ u, #[v][i]? = some u ∧ rel ρ a u := fun ρ v i a h => by
    rcases i with _ | i
    · simp at h; subst h; exact ⟨v, rfl, by simp only [rel]⟩
    · simp at h
  have e1 := hW.fresh (w.heap.size, 1)
  have h1 := hW.new 22 (lit1 ρ (.slice none 0 0))
  have e2 := h1.fresh (w.heap.size + 1, 1)
  have h2 := h1.new 3 (lit1 _ (.int .i64 0))
  rw [alloc_sz] at h2
  have e3 := h2.fresh (w.heap.size + 1 + 1, 1)
  have h3 := h2.new 23 (lit1 _ (.int .i64 0))
  rw [alloc_sz, alloc_sz] at h3
  have e4 := h3.fresh (w.heap.size + 1 + 1 + 1, 2)
  have h4 := h3.new (cs := [.lit (.slice none 0 0), .lit (.slice none 0 0)]) (us := #[.slice none 0 0, .slice none 0 0]) 70 (fun i v hv => by
    rcases i with _ | _ | i
    · simp at hv; subst hv; exact ⟨_, rfl, by simp only [rel]; rfl⟩
    · simp at hv; subst hv; exact ⟨_, rfl, by simp only [rel]; rfl⟩
    · simp at hv)
  rw [alloc_sz, alloc_sz, alloc_sz] at h4
  have e5 := h4.fresh (w.heap.size + 1 + 1 + 1 + 1, 3)
  have h5 := h4.new (cs := [.lit (.string s), int 0, .ptr 3 0]) (us := #[.string s, .int .i64 0, .pointer (some ⟨w.heap.size + 1 + 1 + 1, 0, none⟩)]) 52 (fun i v hv => by
    rcases i with _ | _ | _ | i
    · simp at hv; subst hv; exact ⟨_, rfl, by simp only [rel]; rfl⟩
    · simp at hv; subst hv; exact ⟨_, rfl, by simp only [rel]; rfl⟩
    · simp at hv; subst hv
      refine ⟨_, rfl, ?_⟩
      simp only [rel]
      exact ⟨w.heap.size + 1 + 1 + 1, 2, rfl, rfl⟩
    · simp at hv)
  rw [alloc_sz, alloc_sz, alloc_sz, alloc_sz] at h5
  exact ⟨_, (((e1.trans e2).trans e3).trans e4).trans e5, h5.restamp 0, rfl, rfl, rfl, rfl⟩
end Sy
namespace Sy
theorem par_three {w0 : World} {ρ : Rho} {w : World} (hW : WR w0 ρ M0 w) (e : Int) : ∃ ρ3, Ext ρ ρ3 ∧ WR w0 ρ3 ⟨3, 0, [some (rcE (int e)), some (rcK (int 0)), some (rcL (.lit (.slice none 0 0)))]⟩ (((w.alloc (.cells #[.slice none 0 0] 22)).alloc (.cells #[.int .i64 0] 3)).alloc (.cells #[.int .i64 e] 23)) ∧ ρ3 0 = some (w.heap.size, 1) ∧ ρ3 1 = some (w.heap.size + 1, 1) ∧ ρ3 2 = some (w.heap.size + 1 + 1, 1) := by
  have lit1 : ∀ (ρ : Rho) (v : Value) (i : Nat) (a : AV), [AV.lit v][i]? = some a → ∃ u, #[v][i]? = some u ∧ rel ρ a u := fun ρ v i a h => by
    rcases i with _ | i
    · simp at h; subst h; exact ⟨v, rfl, by simp only [rel]⟩
    · simp at h
  have e1 := hW.fresh (w.heap.size, 1)
  have h1 := hW.new 22 (lit1 ρ (.slice none 0 0))
  have e2 := h1.fresh (w.heap.size + 1, 1)
  have h2 := h1.new 3 (lit1 _ (.int .i64 0))
  rw [alloc_sz] at h2
  have e3 := h2.fresh (w.heap.size + 1 + 1, 1)
  have h3 := h2.new 23 (lit1 _ (.int .i64 e))
  rw [alloc_sz, alloc_sz] at h3
  exact ⟨_, (e1.trans e2).trans e3, h3.restamp 0, rfl, rfl, rfl⟩
abbrev pF3 : Fr := (none :: none :: some (.ptr 0 0) :: some (.ptr 1 0) :: some (.ptr 2 0) :: (nn21 []))
theorem fr3 [Dfs] {ρ : Rho} {tm : Array Value} (hsz : tm.size = 26) (hp : rel ρ (.ptr 0 0) (tm.getD 2 undef)) (hq : rel ρ (.ptr 1 0) (tm.getD 3 undef)) (hr : rel ρ (.ptr 2 0) (tm.getD 4 undef)) : FR ρ pF3 ⟨tm, Dfs.ds⟩ := ⟨by rw [hsz]; rfl, fun t v hv => by
  rcases t with _ | _ | _ | _ | _ | t
  · simp at hv
  · simp at hv
  · simp at hv; subst hv; exact hp
  · simp at hv; subst hv; exact hq
  · simp at hv; subst hv; exact hr
  · exfalso
    rcases t with _ | _ | _ | _ | _ | _ | _ | _ | _ | _ | _ | _ | _ | _ | _ | _ | _ | _ | _ | _ | _ | t <;> simp at hv, rfl⟩
theorem leaves_res {w0 : World} {ρ : Rho} {M : Mem} {w : World} {tm : Array Value} {R : Ending → World → Prop} {v : AV} (hsz : tm.size = 26) (hp : rel ρ (.ptr 0 0) (tm.getD 2 undef)) (hq : rel ρ (.ptr 1 0) (tm.getD 3 undef)) (hr : rel ρ (.ptr 2 0) (tm.getD 4 undef)) (hW : WR w0 ρ M w) (hres : resultsA Try.prog pF3 M Try.f11 = some v) (hR : ∀ u, rel ρ v u → R (.returned u) w) : Leaves Try.prog Try.f11 tm R [] .returning w := by
  obtain ⟨u, r1, r2⟩ := resultsA_sound (fr3 hsz hp hq hr) hW hres
  exact ⟨u, r2, hR u r1⟩
end Sy
open Sy in
set_option maxRecDepth 20000 in
theorem Sy.par_t (s : ByteArray) (hD : limM s.size → (treeR s).isOk = true → DonC (treeR s).ns) : CallTo Try.prog 11 [.lit (.string s)] M0 fun v _ => v = paV s := fun w0 ρ us w hr hW => by
  simp only [rels, rel] at hr
  obtain ⟨u, us1, rfl, rfl, rfl⟩ := hr
  cases hlen : leI s.size 32768 with
  | false =>
    have hlen2 := hlen
    rw [leI_f] at hlen
    have hmf : ∀ (fn : Fn) (first cap : Array Value) (w : World), (Instr.makeFunc fn first cap).run Try.prog w = .ok (.func fn first cap) w := fun _ _ _ _ => rfl
    have hc : decide ((32768 : Int) < (s.size : Int)) = true := by simp; omega
    go_enter_defers Try.func11, Try.ntmps11
    generalize hR6 : Code.seq (Code.region 6 _ false) _ = RR
    go_wp2
    obtain ⟨ρ3, hE3, hW3, b0, b1, b2⟩ := par_three hW 2
    have hp : ∀ b g tot, ρ3 b = some (g, tot) → rel ρ3 (.ptr b 0) (.pointer (some ⟨g, 0, none⟩)) := fun b g tot h => by
      simp only [rel]
      exact ⟨g, tot, h, rfl⟩
    simp only [bodyPostD]
    exact leaves_res rfl (hp _ _ _ b0) (hp _ _ _ b1) (hp _ _ _ b2) hW3 (v := .tup [.lit (.slice none 0 0), int 0, int 2]) (by kernel_rfl) fun u r1 => ⟨ρ3, u, rfl, hE3, by unfold paV; rw [hlen2]; exact r1, _, hW3⟩
  | true =>
    have hlen2 := hlen
    rw [leI_t] at hlen
    have hlim : limM s.size := by unfold limM; omega
    have hmf : ∀ (fn : Fn) (first cap : Array Value) (w : World), (Instr.makeFunc fn first cap).run Try.prog w = .ok (.func fn first cap) w := fun _ _ _ _ => rfl
    have hc : decide ((32768 : Int) < (s.size : Int)) = false := by simp; omega
    obtain ⟨ρ5, hE5, hW5, b0, b1, b2, b4⟩ := par_start hW s
    have hargs : rels ρ5 [.ptr 4 0] [.pointer (some ⟨w.heap.size + 1 + 1 + 1 + 1, 0, none⟩)] := by
      simp only [rels, rel]
      exact ⟨_, _, rfl, ⟨_, _, b4, rfl⟩, rfl⟩
    cases hok : (treeR s).isOk with
    | true =>
      have key := tree_ok s hlim hok w0 ρ5 _ _ hargs hW5
      go_enter_defers Try.func11, Try.ntmps11
      generalize hR6 : Code.seq (Code.region 6 _ false) _ = RR
      go_wp2_with (first
        | (go_at_call 20; refine (new_w _).mono ?_; rintro e w' ⟨rfl, rfl⟩)
        | (go_at_call 21; refine key.mono ?_; rintro e w' ⟨ρ6, u6, v6, M6, rfl, hE6, hv6, hW6, rfl, rfl⟩))
      have hRR : RR = cSnd (cSnd (cSnd (cSnd (cSnd (bodyOf 11))))) := by rw [← hR6]; kernel_rfl
      clear hR6
      subst hRR
      letI : Dfs := ⟨[⟨.fn (.func 19) #[.pointer (some ⟨w.heap.size, 0, none⟩), .pointer (some ⟨w.heap.size + 1, 0, none⟩), .pointer (some ⟨w.heap.size + 1 + 1, 0, none⟩)], #[]⟩]⟩
      refine codeC [cDon (treeR s).ns] [] [] 400 30 _ (by kernel_rfl) (false :: false :: true :: true :: true :: (ff21 [])) (F := pF2) (M := pM2 s (treeR s).k (treeR s).ns) (ρ := ρ6) (w0 := w0) ⟨rfl, fun t v hv => ?_, rfl⟩ hW6 (.yes .done) (let k := (treeR s).k; let ns := (treeR s).ns; (let e1 := (some (@Blk.mk [(@AV.own 5 (ns).length 6), (@AV.own 6 0 1)] 70 none)); let e2 := (some (@Blk.mk [] 40 (some (@Rw.mk (ns).length 6 (@ndcell ns))))); let e3 := (some (@Blk.mk [] 3 (some (@Rw.mk 0 1 (@zcell []))))); let e4 := (int (0 : Int)); let e5 := (@AV.view (ns).length 6 (@ndcell ns)); (.need (@isSo (@And (e1 = e1) (@And (e2 = e2) (@And (e3 = e3) (@And (([] : List AV) = []) (@And (0 < (ns).length) (@And ((ns).length ≤ 1024) (∀ (x : NdV), x ∈ ns → x.cls.length ≤ 1024 ∧ x.atts.length ≤ 1024)))))))) (.leaf (ExP.ret, ((none :: none :: (some (@AV.ptr 0 0)) :: (some (@AV.ptr 1 0)) :: (some (@AV.ptr 2 0)) :: (nn21 [])), (@Mem.mk ((7 + 1) + 1) ((((((((0 + 1) + 1) + 1) + 1) + 1) + 1) + 1) + 1) (e3 :: e2 :: [none, none, (some (@Blk.mk [(@AV.lit (@Value.string s)), (int k), (@AV.ptr 3 0)] 52 none)), (some (@Blk.mk [(@AV.own 7 (ns).length 6), (@AV.own (7 + 1) 0 1)] 70 none)), (some (@Blk.mk (e4 :: (@List.drop _ (0 + ([e4]).length) [e4])) 23 none)), (some (@Blk.mk [e4] 3 none)), (some (@Blk.mk (e5 :: (@List.drop _ (0 + ([e5]).length) [e5])) 22 none))])))))))) (by kernel_rfl) ?_
      · have hp : ∀ b g tot, ρ5 b = some (g, tot) → rel ρ6 (.ptr b 0) (.pointer (some ⟨g, 0, none⟩)) := fun b g tot h => by
          simp only [rel]
          exact ⟨g, tot, hE6.blk _ _ h, rfl⟩
        rcases t with _ | _ | _ | _ | _ | _ | t
        · simp at hv
        · simp at hv
        · simp at hv; subst hv; exact hp _ _ _ b0
        · simp at hv; subst hv; exact hp _ _ _ b1
        · simp at hv; subst hv; exact hp _ _ _ b2
        · simp at hv; subst hv; exact hp _ _ _ b4
        · exfalso
          rcases t with _ | _ | _ | _ | _ | _ | _ | _ | _ | _ | _ | _ | _ | _ | _ | _ | _ | _ | _ | _ | t <;> simp at hv
      · refine need_so ⟨rfl, rfl, rfl, rfl, hD hlim hok⟩ ?_
        intro ρ7 a7 w7 q1 q2
        show Leaves _ _ _ _ a7.defers .returning w7
        rw [show a7.defers = _ from q2.1.defers]
        refine leaves_cons (f := 19) (args := #[.pointer (some ⟨w.heap.size, 0, none⟩), .pointer (some ⟨w.heap.size + 1, 0, none⟩), .pointer (some ⟨w.heap.size + 1 + 1, 0, none⟩)]) (by simp) (by simp [go_sem]) ?_
        refine (catch_idle _ _ _ _).mono ?_
        rintro e u' w8 ⟨rfl, rfl, cur, rfl⟩
        have hW8 := q2.2.extra (.cells cur 46)
        obtain ⟨u, r1, r2⟩ := resultsA_sound (fn := Try.f11) (v := .tup [nview (treeR s).ns, int 0, int 0]) q2.1 hW8 (by kernel_rfl)
        exact ⟨u, r2, ρ7, u, _, _, rfl, (hE5.trans hE6).trans q1, r1, hW8, by unfold paV; rw [hlen2, hok]⟩
    | false =>
      have key := tree_bad s hlim hok w0 ρ5 _ _ hargs hW5
      go_enter_defers Try.func11, Try.ntmps11
      generalize hR6 : Code.seq (Code.region 6 _ false) _ = RR
      go_wp2_with (first
        | (go_at_call 20; refine (new_w _).mono ?_; rintro e w' ⟨rfl, rfl⟩)
        | (go_at_call 21; refine key.mono ?_; rintro e w' ⟨ρ6, rfl, hE6, hW6⟩))
      clear hR6
      letI : Dfs := ⟨[⟨.fn (.func 19) #[.pointer (some ⟨w.heap.size, 0, none⟩), .pointer (some ⟨w.heap.size + 1, 0, none⟩), .pointer (some ⟨w.heap.size + 1 + 1, 0, none⟩)], #[]⟩]⟩
      have hp : ∀ b g tot, ρ5 b = some (g, tot) → rel ρ6 (.ptr b 0) (.pointer (some ⟨g, 0, none⟩)) := fun b g tot h => by
        simp only [rel]
        exact ⟨g, tot, hE6.blk _ _ h, rfl⟩
      show Leaves _ _ _ _ _ (.panicking [pent (treeR s).k (treeR s).e]) w'
      refine leaves_cons (f := 19) (args := #[.pointer (some ⟨w.heap.size, 0, none⟩), .pointer (some ⟨w.heap.size + 1, 0, none⟩), .pointer (some ⟨w.heap.size + 1 + 1, 0, none⟩)]) (by simp) (by simp [go_sem]) ?_
      refine (catch_fault hW6 (hp _ _ _ b0) (hp _ _ _ b1) (hp _ _ _ b2)).mono ?_
      rintro x u' w3 ⟨rfl, hs, ρ7, hE7, hW7⟩
      show Leaves _ _ _ _ [] (settle u') w3
      rw [hs]
      have hp7 : ∀ b g tot, ρ5 b = some (g, tot) → rel ρ7 (.ptr b 0) (.pointer (some ⟨g, 0, none⟩)) := fun b g tot h => (hp b g tot h).ext hE7
      exact leaves_res rfl (hp7 _ _ _ b0) (hp7 _ _ _ b1) (hp7 _ _ _ b2) hW7 (v := .tup [.lit (.slice none 0 0), int (treeR s).k, int (treeR s).e]) (by kernel_rfl) fun u r1 => ⟨ρ7, u, _, _, rfl, (hE5.trans hE6).trans hE7, r1, hW7, by unfold paV; rw [hlen2, hok]⟩
end Go.Proofs.Ytglkdhmikpejnaa
namespace Go.Proofs.Ytglkdhmikpejnaa
open Go Go.RowKit Pl Sy
structure BS (ns : List NdV) (os : List Int) : Prop where
  st : BSt ns.length ns os
  le : ns.length ≤ 1024
  pos : os.length ≠ 0 → 0 < ns.length
theorem BSt.norm {k : Nat} {ns : List NdV} {os : List Int} (h : BSt k ns os) : BSt ns.length ns os := ⟨h.bi, h.right, Nat.le_refl _, h.deep⟩
theorem BS.start : BS [] [] := ⟨BSt.start 0, by decide, fun h => absurd rfl h⟩
theorem tag_some {x : ByteArray} (h : nameL x.data.toList = true) : (!bytesEq x.data.toList []) = true := by
  rw [bytesEq_eq]
  cases hx : x.data.toList with
  | nil => rw [hx] at h; revert h; decide
  | cons c l => rfl
theorem elem_tag {n : NdV} (h : elemB n = true) : (!bytesEq n.tag.data.toList []) = true := by
  unfold elemB at h
  rw [Bool.and_eq_true] at h
  exact tag_some h.1
theorem elem_ndB {n : NdV} (h : elemB n = true) : ndB n = true := by
  rw [elem_nd, Bool.and_eq_true] at h
  exact h.2
theorem BS.opn {s : ByteArray} {b : Int} {ns : List NdV} {os : List Int} (h : BS ns os) (hb : InM s b) (hok : (hedR s b).bad = false) (hf : eqI (fulE ns.length os.length) 0 = true) (hno : ns.length = 0 ∨ os.length ≠ 0) : BS (ns ++ [putN (hedN s b) os]) os ∧ BS (ns ++ [putN (hedN s b) os]) (os ++ [(ns.length : Int)]) := by
  obtain ⟨f1, f2⟩ := ful_ok hf
  obtain ⟨h1, h2⟩ := hed_elem hb hok
  have hl : (ns ++ [putN (hedN s b) os]).length = ns.length + 1 := by simp
  have hp := h.st.push (putN (hedN s b) os) (putN_right os (elem_ndB h1) h2) rfl (by omega) (fun e => ⟨by subst e; rcases hno with q | q; exact q; exact absurd rfl q, elem_tag h1⟩)
  exact ⟨⟨hp.1.norm, by omega, fun _ => by omega⟩, ⟨(hp.2 (elem_tag h1)).norm, by omega, fun _ => by omega⟩⟩
theorem BS.wrd {s : ByteArray} {b : Int} {ns : List NdV} {os : List Int} (h : BS ns os) (hb : InM s b) (hok : wdBad s b = false) (hf : eqI (fulE ns.length os.length) 0 = true) (hno : os.length ≠ 0) : BS (ns ++ [wrdN (wdX s b) os]) os := by
  obtain ⟨f1, f2⟩ := ful_ok hf
  have ht := wd_text hb hok
  have hl : (ns ++ [wrdN (wdX s b) os]).length = ns.length + 1 := by simp
  have hx := wordN_right (n := ⟨0, ⟨#[]⟩, ⟨#[]⟩, [], [], wdX s b⟩) os ht ⟨Nat.zero_le _, Nat.zero_le _, ⟨Nat.zero_le _, fun _ hs => (by cases hs)⟩, ⟨Nat.zero_le _, fun _ hs => (by cases hs)⟩, by have := textL_size ht; show (wdX s b).size ≤ _; unfold maxLen; omega⟩
  have hp := h.st.push (wrdN (wdX s b) os) hx rfl (by omega) (fun e => by subst e; exact absurd rfl hno)
  exact ⟨hp.1.norm, by omega, fun _ => by omega⟩
theorem BS.clo {ns : List NdV} {os : List Int} (h : BS ns os) : BS ns os.dropLast := ⟨h.st.pop.norm, h.le, fun hl => h.pos fun e => hl (by rw [List.length_dropLast, e])⟩
def EndB (r : TrR) : Prop := ∀ a ns, r = .ok a ns → BS ns [] ∧ 0 < ns.length
theorem nxT_ok {s : ByteArray} {go : Int → List NdV → List Int → TrR} {a : Int} {ns : List NdV} {os : List Int} (h : BS ns os) (hp : 0 < ns.length) (hgo : os.length ≠ 0 → EndB (go a ns os)) : EndB (nxT s go a ns os) := fun a' ns' hr => by
  unfold nxT at hr
  split at hr
  · rename_i q
    rw [leI_f] at q
    exact hgo (by omega) a' ns' hr
  · rename_i q
    rw [leI_t] at q
    split at hr
    · simp at hr
      obtain ⟨rfl, rfl⟩ := hr
      have e : os = [] := List.eq_nil_of_length_eq_zero (by omega)
      rw [e] at h
      exact ⟨h, hp⟩
    · cases hr
theorem elT_ok {s : ByteArray} {go : Int → List NdV → List Int → TrR} {b : Int} {ns : List NdV} {os : List Int} (h : BS ns os) (hb : InM s b) (hno : ns.length = 0 ∨ os.length ≠ 0) (hgo : ∀ a ns os, InM s a → b < a → BS ns os → os.length ≠ 0 → EndB (go a ns os)) : EndB (elT s go b ns os) := fun a' ns' hr => by
  unfold elT at hr
  split at hr
  · cases hr
  · split at hr
    · cases hr
    · rename_i hf
      split at hr
      · cases hr
      · rename_i hok
        obtain ⟨o1, o2⟩ := h.opn hb hok hf hno
        have hi := hed_in hb hok
        have hg := hed_gt hb hok
        have hs := scI_le mblB s (hedR s b).pl hi.1.1.1 hi.1.1.2
        split at hr
        · rename_i q
          have hlt := pk_lt (by decide) q
          exact hgo _ _ _ ⟨by have := hb.1; omega, hb.2⟩ (by omega) o2 (by simp) a' ns' hr
        · exact nxT_ok o1 (by simp) (fun ho => hgo _ _ _ hi.1 hg o1 ho) a' ns' hr
theorem tN_ok (s : ByteArray) : ∀ (n : Nat) (a : Int) (ns : List NdV) (os : List Int), InM s a → BS ns os → (ns.length = 0 ∨ os.length ≠ 0) → EndB (tN s n a ns os) := by
  intro n
  induction n with
  | zero => intro a ns os ha h hno a' ns' hr; cases hr
  | succ n ih =>
    intro a ns os ha h hno
    have hb : InM s (scI mblB s a) := scI_in ha
    have hel : EndB (elT s (tN s n) (scI mblB s a) ns os) := elT_ok h hb hno fun a ns os ha _ h ho => ih a ns os ha h (.inr ho)
    unfold tN ndT'
    split
    · exact hel
    · rename_i q
      rw [leI_f] at q
      split
      · rename_i q1
        have hlt := pk_lt (by decide) q1
        exact nxT_ok h.clo (h.pos (by omega)) fun ho => ih _ _ _ ⟨by have := hb.1; omega, hb.2⟩ h.clo (.inr ho)
      · split
        · intro a' ns' hr
          unfold wrT at hr
          split at hr
          · cases hr
          · rename_i hf
            split at hr
            · cases hr
            · rename_i hok
              have hw := h.wrd hb hok hf (by omega)
              exact nxT_ok hw (by simp) (fun ho => ih _ _ _ (wdX_in hb hok).1 hw (.inr ho)) a' ns' hr
        · exact hel
theorem treeR_tree {s : ByteArray} (hl : limM s.size) (h : (treeR s).isOk = true) : TreeOk (treeR s).ns ∧ 0 < (treeR s).ns.length := by
  have h1 := tN_ok s (s.size + 2) 0 [] [] ⟨⟨Int.le_refl 0, by omega⟩, hl⟩ BS.start (.inl rfl)
  cases hr : treeR s with
  | bad k e => rw [hr] at h; cases h
  | ok a ns =>
    obtain ⟨h2, h3⟩ := h1 a ns hr
    exact ⟨h2.st.tree h2.le, h3⟩
theorem treeR_don {s : ByteArray} (hl : limM s.size) (h : (treeR s).isOk = true) : DonC (treeR s).ns := by
  obtain ⟨h1, h2⟩ := treeR_tree hl h
  exact ⟨h2, h1.1.1, fun x hx => by
    obtain ⟨k, hk, rfl⟩ := List.getElem_of_mem hx
    have := (h1.2 k hk).1
    have e : ndN (treeR s).ns k = (treeR s).ns[k] := by
      unfold ndN
      rw [Int.toNat_natCast, List.getD_eq_getElem?_getD, List.getElem?_eq_getElem hk]
      rfl
    rw [e] at this
    exact ndB_lens this⟩
end Go.Proofs.Ytglkdhmikpejnaa
namespace Go.Proofs.Ytglkdhmikpejnaa
open Go Go.RowKit Pl Sy
noncomputable def pNs (s : ByteArray) : List NdV := match leI s.size 32768 with
  | false => []
  | true => (treeR s).ns
noncomputable def pK (s : ByteArray) : Int := match leI s.size 32768 with
  | false => 0
  | true => match (treeR s).isOk with | true => 0 | false => (treeR s).k
noncomputable def pE (s : ByteArray) : Int := match leI s.size 32768 with
  | false => 2
  | true => (treeR s).e
theorem TrR.ns_bad {r : TrR} (h : r.isOk = false) : r.ns = [] := by
  cases r with
  | bad k e => rfl
  | ok a ns => cases h
theorem TrR.e_ok {r : TrR} (h : r.isOk = true) : r.e = 0 := by
  cases r with
  | bad k e => cases h
  | ok a ns => rfl
theorem Sy.nil_sub {x y : AV} : Sub (.tup [.lit (.slice none 0 0), x, y]) (.tup [nview [], x, y]) := fun ρ u hr => by
  simp only [rel, rels] at hr ⊢
  obtain ⟨l, rfl, a, l1, rfl, rfl, b, l2, rfl, h1, c, l3, rfl, h2, rfl⟩ := hr
  exact ⟨_, rfl, _, _, rfl, ⟨none, 0, rfl, Nat.le_refl _, Nat.zero_le _, fun _ => rfl, fun h => absurd h (by simp)⟩, _, _, rfl, h1, _, _, rfl, h2, rfl⟩
theorem Sy.par_v (s : ByteArray) : CallTo Try.prog 11 [.lit (.string s)] M0 fun v _ => v = .tup [nview (pNs s), int (pK s), int (pE s)] :=
  CallTo.as ((par_t s fun hl h => treeR_don hl h).mono fun v M' hv => by
    subst hv
    unfold paV pNs pK pE
    cases leI s.size 32768 with
    | false => exact nil_sub
    | true =>
      cases h : (treeR s).isOk with
      | true =>
        simp only [TrR.e_ok h]
        exact fun ρ u hr => hr
      | false =>
        simp only [TrR.ns_bad h]
        exact nil_sub)
noncomputable abbrev Sy.cPar : Con Try.prog := atX 11 (fun args => match args with | [.lit (.string s)] => some s | _ => none) (fun s => [.lit (.string s)]) (fun s => .tup [nview (pNs s), int (pK s), int (pE s)]) (fun _ => True) fun s _ => ⟨⟨⟨trivial, trivial⟩, ⟨nview_free _, trivial, trivial, trivial⟩⟩, par_v s⟩
theorem Sy.kno_t : CallTo Try.prog 9 [] M0 fun v _ => v = boo true :=
  toV [cPar] [] 400 30 (.yes (.yes (.yes (.auto 22 .done)))) (let e1 := (@AV.lit (@Value.string (@ByteArray.mk (@Array.mk _ [(97 : UInt8), (35 : UInt8), (98 : UInt8), (46 : UInt8), (99 : UInt8), (123 : UInt8), (100 : UInt8), (32 : UInt8), (34 : UInt8), (120 : UInt8), (32 : UInt8), (121 : UInt8), (34 : UInt8), (125 : UInt8)])))); let e2 := (@AV.lit (@Value.string (@ByteArray.mk (@Array.mk _ [(97 : UInt8), (123 : UInt8)])))); let e3 := (@AV.lit (@Value.string (@ByteArray.mk (@Array.mk _ [(97 : UInt8), (46 : UInt8), (98 : UInt8), (46 : UInt8), (123 : UInt8), (125 : UInt8)])))); (.need (@isSo (@And ((@HAppend.hAppend _ _ _ _ (@HAppend.hAppend _ _ _ _ [] [e1]) []) = [e1]) True)) (.need (@isSo (@And ((@HAppend.hAppend _ _ _ _ (@HAppend.hAppend _ _ _ _ [] [e2]) []) = [e2]) True)) (.need (@isSo (@And ((@HAppend.hAppend _ _ _ _ (@HAppend.hAppend _ _ _ _ [] [e3]) []) = [e3]) True)) (.leaf (boo true)))))) (by kernel_rfl) (need_so ⟨rfl, trivial⟩ (need_so ⟨rfl, trivial⟩ (need_so ⟨rfl, trivial⟩ rfl)))
noncomputable abbrev Sy.cKno : Con Try.prog := at1 9 [] (boo true) True fun _ => ⟨⟨trivial, trivial⟩, kno_t⟩
end Go.Proofs.Ytglkdhmikpejnaa
namespace Go.Proofs.Ytglkdhmikpejnaa
open Go Go.RowKit Pl Sy
namespace Sy
abbrev deF (m i : Int) (s : ByteArray) : Fr := (some (int m) :: none :: none :: some (.lit (.string s)) :: some (int i) :: (nn6 (nn48 [])))
end Sy
def rpS (x : ByteArray) : Nat → ByteArray → ByteArray
  | 0, s => s
  | k + 1, s => rpS x k (s ++ x)
theorem rpS_size (x : ByteArray) : ∀ (k : Nat) (s : ByteArray), (rpS x k s).size = s.size + k * x.size
  | 0, s => by simp [rpS]
  | k + 1, s => by rw [rpS, rpS_size x k, ByteArray.size_append, Nat.succ_mul]; omega
theorem rpS_list (x : ByteArray) : ∀ (k : Nat) (s : ByteArray), (rpS x k s).data.toList = s.data.toList ++ (List.replicate k x.data.toList).flatten
  | 0, s => by simp [rpS]
  | k + 1, s => by
    rw [rpS, rpS_list x k, List.replicate_succ, List.flatten_cons]
    simp [ByteArray.data_append]
theorem Sy.de_loop (m : Int) (hm : m ≤ 127) : ∀ (n : Nat) (i : Int) (s : ByteArray), 0 ≤ i → i ≤ m + 1 → m + 1 - i < n → s.size + 2 * (m + 1 - i) ≤ 1000 →
    LoopTo Try.prog (theBody Try.prog 4 5) n (deF m i s) M0 fun ex F M => ex = .exit 0 ∧ F = deF m (m + 1) (rpS ⟨⟨[97, 123]⟩⟩ (m + 1 - i).toNat s) ∧ M = M0 := by
  intro n
  induction n with
  | zero => intro i s h0 h1 h2; omega
  | succ n ih =>
    intro i s h0 h1 h2 h3
    refine roundL [] [] 400 30 4 5 Try.func4 rfl (by kernel_rfl) (true :: false :: false :: true :: true :: (ff6 (ff48 []))) (.br (.yes .done) .done) (.fork (leI i m) (.need (leI ((((@ByteArray.size s) + 2) : Nat) : Int) (9223372036854775807 : Int)) (.leaf (Ex.norm, (((some (int m)) :: none :: none :: (some (@AV.lit (@Value.string (@HAppend.hAppend _ _ _ _ s (@ByteArray.mk (@Array.mk _ [(97 : UInt8), (123 : UInt8)])))))) :: (some (int (w64 (i + (1 : Int))))) :: (nn6 (nn48 []))), (@Mem.mk 0 0 []))))) (.leaf ((@Ex.exit 0), (((some (int m)) :: none :: none :: (some (@AV.lit (@Value.string s))) :: (some (int i)) :: (nn6 (nn48 []))), (@Mem.mk 0 0 []))))) (by kernel_rfl) ?_
    refine fork_ok (fun q => need_t (by rw [leI_t]; omega) ?_) (fun q => ?_)
    · rw [leI_t] at q
      rw [w64_in (r := i + 1) (by omega), show (m + 1 - i).toNat = (m + 1 - (i + 1)).toNat + 1 by omega]
      exact ih (i + 1) _ (by omega) (by omega) (by omega) (by
        rw [ByteArray.size_append]
        show ((s.size + 2 : Nat) : Int) + _ ≤ _
        omega)
    · rw [leI_f] at q
      have e : i = m + 1 := by omega
      subst e
      rw [show (m + 1 - (m + 1)).toNat = 0 by omega]
      exact ⟨rfl, rfl, rfl⟩
end Go.Proofs.Ytglkdhmikpejnaa
namespace Go.Proofs.Ytglkdhmikpejnaa
open Go Go.RowKit Pl Sy
namespace Sy
noncomputable def deGet (F : Fr) (M : Mem) : Option Int := match nth F 0 with
  | some (some (.lit (.int _ m))) => some m
  | _ => none
noncomputable abbrev lpDe : Lp Try.prog where
  f := 4
  key := 5
  S := formS deGet (fun m => deF m 0 ⟨⟨[]⟩⟩) (fun _ => M0) (fun m => 0 ≤ m ∧ m ≤ 127) (fun m => .leaf (.exit 0, deF m (m + 1) (rpS ⟨⟨[97, 123]⟩⟩ (m + 1).toNat ⟨⟨[]⟩⟩), M0)) (true :: false :: false :: true :: true :: (ff6 (ff48 [])))
  one := by kernel_rfl
  ok := formS_ok fun m h => by
    refine ⟨(m + 2).toNat, ?_⟩
    have := de_loop m h.2 (m + 2).toNat 0 ⟨⟨[]⟩⟩ (Int.le_refl 0) (by omega) (by omega) (by show ((0 : Nat) : Int) + _ ≤ _; omega)
    exact this.mono fun ex F M hg => by
      obtain ⟨rfl, rfl, rfl⟩ := hg
      show _ = _
      rw [show (m + 1 - 0).toNat = (m + 1).toNat by omega]
end Sy
end Go.Proofs.Ytglkdhmikpejnaa
namespace Go.Proofs.Ytglkdhmikpejnaa
open Go Go.RowKit Pl Sy
theorem hed_one {s : ByteArray} {a : Int} {c d : UInt8} {r : List UInt8} (h : At s a (c :: d :: r)) (hc : begB c.toNat = true) (h45 : (c.toNat : Int) ≠ 45) (hd : goesB d.toNat = false) (hm : mkB d.toNat = false) : hedR s a = ⟨false, a + 1, ⟨⟨[]⟩⟩, [], []⟩ := by
  have hn45 : ¬ eqI (pkI s a) 45 = true := by rw [h.pk, eqI_t]; exact h45
  have hE : nmE s a = a + 1 := by
    unfold nmE nmZ
    rw [if_neg hn45, h.sc goesB, List.takeWhile_cons, if_pos (goes_of_beg hc), List.takeWhile_cons, if_neg (by rw [hd]; decide)]
    rfl
  have hb : nmBad s a = false := by
    unfold nmBad startM
    rw [if_neg hn45, h.pk, hc, hE, show a + 1 - a = 1 by omega]
    rfl
  have hp : pkI s (nmE s a) = d.toNat := by rw [hE, h.tail.pk]
  have := hedR_plain hb (by rw [hp]; exact hm)
  rw [this, hE]
theorem sc_no {g : Int → Bool} {s : ByteArray} {a : Int} {c : UInt8} {r : List UInt8} (h : At s a (c :: r)) (hc : g c.toNat = false) : scI g s a = a := by
  rw [h.sc g, List.takeWhile_cons, if_neg (by rw [hc]; decide)]
  simp
theorem sc_end {g : Int → Bool} {s : ByteArray} {a : Int} (h : At s a []) : scI g s a = s.size := by
  rw [h.sc g]
  have := h.2.2
  simp at this ⊢
  omega
end Go.Proofs.Ytglkdhmikpejnaa
namespace Go.Proofs.Ytglkdhmikpejnaa
open Go Go.RowKit Pl Sy
def andI (b : Nat) (n : Int) : Int := IntKind.i64.wrap ((Nat.land (n % 18446744073709551616).toNat b : Nat) : Int)
theorem andI_in (b : Nat) (n : Int) (hb : b ≤ 1000000) : 0 ≤ andI b n ∧ andI b n ≤ b := by
  have h : Nat.land (n % 18446744073709551616).toNat b ≤ b := Nat.and_le_right
  unfold andI
  generalize Nat.land (n % 18446744073709551616).toNat b = x at *
  rw [show IntKind.i64.wrap (x : Int) = (x : Int) from IntWalk.i64_in _ (by omega)]
  omega
theorem Sy.law_true11 {f : FuncId} {args : List AV} {us : List Value} {W : World} (h : CallTo Try.prog f args M0 fun v _ => v = boo true) (hr : rels (rho0 W) args us) : Calls Try.prog f us.toArray W fun e w' => e = .returned (.bool true) ∧ Below W.heap.size W w' :=
  ((h.mono (H := fun v _ => ∃ u, v = .lit u ∧ u = .bool true) fun v _ e => ⟨_, e, rfl⟩).calls hr).mono fun e w' ⟨⟨u, h1, h2⟩, h3⟩ => ⟨by rw [h1, h2], h3⟩
end Go.Proofs.Ytglkdhmikpejnaa
namespace Go.Proofs.Ytglkdhmikpejnaa
open Go Go.RowKit Pl Sy
namespace Sy
abbrev deF2 (m i : Int) (s : ByteArray) : Fr := (some (int m) :: none :: none :: some (.lit (.string s)) :: none :: some (int i) :: (nn5 (nn48 [])))
end Sy
theorem Sy.de_loop2 (m : Int) (hm : m ≤ 127) : ∀ (n : Nat) (i : Int) (s : ByteArray), 0 ≤ i → i ≤ m + 1 → m + 1 - i < n → s.size + 2 * (m + 1 - i) ≤ 1000 →
    LoopTo Try.prog (theBody Try.prog 4 9) n (deF2 m i s) M0 fun ex F M => ex = .exit 2 ∧ F = deF2 m (m + 1) (rpS ⟨⟨[125]⟩⟩ (m + 1 - i).toNat s) ∧ M = M0 := by
  intro n
  induction n with
  | zero => intro i s h0 h1 h2; omega
  | succ n ih =>
    intro i s h0 h1 h2 h3
    refine roundL [] [] 400 30 4 9 Try.func4 rfl (by kernel_rfl) (true :: false :: false :: true :: false :: true :: (ff5 (ff48 []))) (.br (.yes .done) .done) (.fork (leI i m) (.need (leI ((((@ByteArray.size s) + 1) : Nat) : Int) (9223372036854775807 : Int)) (.leaf (Ex.norm, (((some (int m)) :: none :: none :: (some (@AV.lit (@Value.string (@HAppend.hAppend _ _ _ _ s (@ByteArray.mk (@Array.mk _ [(125 : UInt8)])))))) :: none :: (some (int (w64 (i + (1 : Int))))) :: (nn5 (nn48 []))), (@Mem.mk 0 0 []))))) (.leaf ((@Ex.exit 2), (((some (int m)) :: none :: none :: (some (@AV.lit (@Value.string s))) :: none :: (some (int i)) :: (nn5 (nn48 []))), (@Mem.mk 0 0 []))))) (by kernel_rfl) ?_
    refine fork_ok (fun q => need_t (by rw [leI_t]; omega) ?_) (fun q => ?_)
    · rw [leI_t] at q
      rw [w64_in (r := i + 1) (by omega), show (m + 1 - i).toNat = (m + 1 - (i + 1)).toNat + 1 by omega]
      exact ih (i + 1) _ (by omega) (by omega) (by omega) (by
        rw [ByteArray.size_append]
        show ((s.size + 1 : Nat) : Int) + _ ≤ _
        omega)
    · rw [leI_f] at q
      have e : i = m + 1 := by omega
      subst e
      rw [show (m + 1 - (m + 1)).toNat = 0 by omega]
      exact ⟨rfl, rfl, rfl⟩
namespace Sy
noncomputable abbrev lpDe2 : Lp Try.prog where
  f := 4
  key := 9
  S := formS deGet (fun m => deF2 m 0 (rpS ⟨⟨[97, 123]⟩⟩ (m + 1).toNat ⟨⟨[]⟩⟩)) (fun _ => M0) (fun m => 0 ≤ m ∧ m ≤ 127) (fun m => .leaf (.exit 2, deF2 m (m + 1) (rpS ⟨⟨[125]⟩⟩ (m + 1).toNat (rpS ⟨⟨[97, 123]⟩⟩ (m + 1).toNat ⟨⟨[]⟩⟩)), M0)) (true :: false :: false :: true :: false :: true :: (ff5 (ff48 [])))
  one := by kernel_rfl
  ok := formS_ok fun m h => by
    refine ⟨(m + 2).toNat, ?_⟩
    have hz : (rpS ⟨⟨[97, 123]⟩⟩ (m + 1).toNat ⟨⟨[]⟩⟩).size = 2 * (m + 1).toNat := by
      rw [rpS_size]
      show 0 + (m + 1).toNat * 2 = _
      omega
    have := de_loop2 m h.2 (m + 2).toNat 0 (rpS ⟨⟨[97, 123]⟩⟩ (m + 1).toNat ⟨⟨[]⟩⟩) (Int.le_refl 0) (by omega) (by omega) (by rw [hz]; omega)
    exact this.mono fun ex F M hg => by
      obtain ⟨rfl, rfl, rfl⟩ := hg
      show _ = _
      rw [show (m + 1 - 0).toNat = (m + 1).toNat by omega]
end Sy
end Go.Proofs.Ytglkdhmikpejnaa
namespace Go.Proofs.Ytglkdhmikpejnaa
open Go Go.RowKit Pl Sy
def shutL (k : Nat) : List UInt8 := List.replicate k 125
def deepL (j k : Nat) : List UInt8 := (List.replicate j [97, 123]).flatten ++ shutL k
theorem deepL_succ (j k : Nat) : deepL (j + 1) k = 97 :: 123 :: deepL j k := by
  unfold deepL
  rw [List.replicate_succ, List.flatten_cons]
  rfl
theorem shut_law {s : ByteArray} : ∀ (k n : Nat) (a : Int) (ns : List NdV) (os : List Int), At s a (shutL k) → os.length = k → 0 < k → k < n → tN s n a ns os = .ok s.size ns := by
  intro k
  induction k with
  | zero => intro n a ns os h h1 h2; omega
  | succ k ih =>
    intro n a ns os h h1 h2 hn
    obtain ⟨n, rfl⟩ : ∃ m, n = m + 1 := ⟨n - 1, by omega⟩
    have h : At s a (125 :: shutL k) := h
    have hb : scI mblB s a = a := sc_no h rfl
    have hd : os.dropLast.length = k := by rw [List.length_dropLast]; omega
    rw [tN]
    unfold ndT'
    rw [hb, show leI (os.length : Nat) 0 = false by rw [leI_f]; omega, h.pk, show eqI ((125 : UInt8).toNat : Int) 125 = true from rfl]
    show nxT s (tN s n) (a + 1) ns os.dropLast = _
    unfold nxT
    by_cases hk : k = 0
    · subst hk
      have h3 : At s (a + 1) [] := h.tail
      rw [hd, show leI ((0 : Nat) : Int) 0 = true from rfl, sc_end h3, show leI s.size s.size = true by rw [leI_t]; omega]
    · rw [show leI (os.dropLast.length : Nat) 0 = false by rw [leI_f]; omega]
      exact ih n (a + 1) ns os.dropLast h.tail hd (by omega) (by omega)
theorem deep_law {s : ByteArray} : ∀ (j n : Nat) (a : Int) (ns : List NdV) (os : List Int) (k : Nat), At s a (deepL j k) → os.length + j = k → ns.length = os.length → 0 < k → k ≤ 1000 → j + k < n → os.length ≤ 64 →
    (os.length + j ≤ 64 → ∃ ns', tN s n a ns os = .ok s.size ns' ∧ ns'.length = ns.length + j) ∧ (64 < os.length + j → tN s n a ns os = .bad (a + 2 * (64 - os.length)) 31) := by
  intro j
  induction j with
  | zero =>
    intro n a ns os k h h1 h2 h3 h4 hn ho
    refine ⟨fun _ => ⟨ns, ?_, rfl⟩, fun hh => by omega⟩
    exact shut_law k n a ns os h (by omega) h3 (by omega)
  | succ j ih =>
    intro n a ns os k h h1 h2 h3 h4 hn ho
    obtain ⟨n, rfl⟩ : ∃ m, n = m + 1 := ⟨n - 1, by omega⟩
    rw [deepL_succ] at h
    have hb : scI mblB s a = a := sc_no h rfl
    have hel : tN s (n + 1) a ns os = elT s (tN s n) a ns os := by
      rw [tN]
      unfold ndT'
      rw [hb, h.pk]
      split
      · rfl
      · rfl
    have hnm : nmdB s a = true := by
      unfold nmdB
      rw [h.pk]
      rfl
    rw [hel]
    unfold elT
    rw [hnm]
    by_cases hf : os.length = 64
    · have e : fulE ns.length os.length = 31 := by
        unfold fulE
        rw [if_neg (by rw [leI_t]; omega), if_pos (by rw [leI_t]; omega)]
      rw [e]
      refine ⟨fun hh => by omega, fun _ => ?_⟩
      show TrR.bad a 31 = _
      rw [show a + 2 * (64 - (os.length : Int)) = a by omega]
    · have e : fulE ns.length os.length = 0 := by
        unfold fulE
        rw [if_neg (by rw [leI_t]; omega), if_neg (by rw [leI_t]; omega)]
      have hh := hed_one h rfl (by decide) rfl rfl
      have h2' : At s (a + 1) (123 :: deepL j k) := h.tail
      rw [e, hh]
      simp only
      rw [sc_no h2' rfl, h2'.pk]
      show (_ → ∃ ns', tN s n (a + 1 + 1) (ns ++ [putN (hedN s a) os]) (os ++ [(ns.length : Int)]) = _ ∧ _) ∧ (_ → tN s n (a + 1 + 1) (ns ++ [putN (hedN s a) os]) (os ++ [(ns.length : Int)]) = _)
      have l1 : (ns ++ [putN (hedN s a) os]).length = ns.length + 1 := by simp
      have l2 : (os ++ [(ns.length : Int)]).length = os.length + 1 := by simp
      have key := ih n (a + 1 + 1) (ns ++ [putN (hedN s a) os]) (os ++ [(ns.length : Int)]) k h2'.tail (by omega) (by omega) h3 h4 (by omega) (by omega)
      rw [l1, l2] at key
      refine ⟨fun q => ?_, fun q => ?_⟩
      · obtain ⟨ns', k1, k2⟩ := key.1 (by omega)
        exact ⟨ns', k1, by omega⟩
      · rw [key.2 (by omega)]
        congr 1
        omega
end Go.Proofs.Ytglkdhmikpejnaa
namespace Go.Proofs.Ytglkdhmikpejnaa
open Go Go.RowKit Pl Sy
def deepT (m : Nat) : ByteArray := rpS ⟨⟨[125]⟩⟩ m (rpS ⟨⟨[97, 123]⟩⟩ m ⟨⟨[]⟩⟩)
theorem deepT_list (m : Nat) : (deepT m).data.toList = deepL m m := by
  unfold deepT
  rw [rpS_list, rpS_list]
  unfold deepL shutL
  show [] ++ (List.replicate m [97, 123]).flatten ++ (List.replicate m [125]).flatten = _
  rw [List.nil_append]
  congr 1
  induction m with
  | zero => rfl
  | succ m ih => rw [List.replicate_succ, List.flatten_cons, ih]; rfl
theorem deepT_size (m : Nat) : (deepT m).size = 3 * m := by
  unfold deepT
  rw [rpS_size, rpS_size]
  show 0 + m * 2 + m * 1 = _
  omega
theorem deep_all (m : Nat) (h0 : 0 < m) (hm : m ≤ 128) : (m ≤ 64 → (treeR (deepT m)).isOk = true ∧ (treeR (deepT m)).ns.length = m) ∧ (64 < m → treeR (deepT m) = .bad 128 31) := by
  have hl := deepT_list m
  have h : At (deepT m) 0 (deepL m m) := ⟨Int.le_refl 0, hl, by rw [size_toList, hl]; omega⟩
  have key := deep_law m ((deepT m).size + 2) 0 [] [] m h (by simp) rfl h0 (by omega) (by rw [deepT_size]; omega) (by simp)
  refine ⟨fun q => ?_, fun q => ?_⟩
  · obtain ⟨ns', k1, k2⟩ := key.1 (by simp; omega)
    unfold treeR
    rw [k1]
    exact ⟨rfl, by show ns'.length = _; rw [k2]; simp⟩
  · unfold treeR
    rw [key.2 (by simp; omega)]
    rfl
theorem Sy.de_t (n : Int) : CallTo Try.prog 4 [int n] M0 fun v _ => v = boo true :=
  toV [cPar, cKno] [lpDe, lpDe2] 400 30 (.yes (.br (.br (.auto 1 (.br (.auto 2 (.br (.yes (.auto 0 .done)) (.auto 0 .done))) (.auto 4 .done))) (.auto 7 .done)) (.br (.auto 4 (.br (.yes (.auto 0 .done)) (.auto 0 .done))) (.auto 6 .done)))) (let e1 := (IntKind.i64.wrap (((@Nat.land ((@HMod.hMod _ _ _ _ n (18446744073709551616 : Int))).toNat 127) : Nat) : Int)); let e2 := (some (int e1)); let e3 := (@ByteArray.mk (@Array.mk _ [])); let e4 := (some (@AV.lit (@Value.string e3))); let e5 := (some (int (0 : Int))); let e6 := (@isSo (@And ((0 : Int) ≤ e1) (e1 ≤ (127 : Int)))); let e7 := (@rpS (@ByteArray.mk (@Array.mk _ [(97 : UInt8), (123 : UInt8)])) ((e1 + (1 : Int))).toNat e3); let e8 := (some (@AV.lit (@Value.string e7))); let e9 := (@rpS (@ByteArray.mk (@Array.mk _ [(125 : UInt8)])) ((e1 + (1 : Int))).toNat e7); let e10 := ((((@pNs e9)).length : Nat) : Int); (.need (@isSo (@And ((e2 :: (none :: none :: e4 :: e5 :: (nn6 (nn48 [])))) = (e2 :: none :: none :: e4 :: e5 :: (nn6 (nn48 [])))) ((@Mem.mk 0 0 []) = M0))) (.need e6 (.need (@isSo (@And ((e2 :: none :: none :: e8 :: none :: e5 :: (nn5 (nn48 []))) = (e2 :: none :: none :: e8 :: none :: e5 :: (nn5 (nn48 [])))) ((@Mem.mk 0 0 []) = M0))) (.need e6 (.need (@isSo (@And ((@HAppend.hAppend _ _ _ _ (@HAppend.hAppend _ _ _ _ [] [(@AV.lit (@Value.string e9))]) []) = [(@AV.lit (@Value.string e9))]) True)) (.fork (leI (64 : Int) e1) (.fork (eqI (@pE e9) (31 : Int)) (.fork (eqI (@pK e9) (128 : Int)) (.fork (eqI e10 (0 : Int)) (.need (@isSo (@And ((@HAppend.hAppend _ _ _ _ (@HAppend.hAppend _ _ _ _ ([] : List AV) ([] : List AV)) []) = []) True)) (.leaf (boo true))) (.leaf (boo false))) (.leaf (boo false))) (.leaf (boo false))) (.fork (eqI (@pE e9) (0 : Int)) (.fork (eqI e10 (w64 (e1 + (1 : Int)))) (.need (@isSo (@And ((@HAppend.hAppend _ _ _ _ (@HAppend.hAppend _ _ _ _ ([] : List AV) ([] : List AV)) []) = []) True)) (.leaf (boo true))) (.leaf (boo false))) (.leaf (boo false)))))))))) (by kernel_rfl) (by
    conv => zeta
    rw [show IntKind.i64.wrap ((Nat.land (n % 18446744073709551616).toNat 127 : Nat) : Int) = andI 127 n from rfl]
    obtain ⟨h1, h2⟩ := andI_in 127 n (by omega)
    generalize andI 127 n = m at *
    rw [show rpS ⟨⟨[125]⟩⟩ (m + 1).toNat (rpS ⟨⟨[97, 123]⟩⟩ (m + 1).toNat ⟨⟨[]⟩⟩) = deepT (m + 1).toNat from rfl]
    have hsz := deepT_size (m + 1).toNat
    have hle : leI (deepT (m + 1).toNat).size 32768 = true := by rw [leI_t, hsz]; omega
    obtain ⟨w1, w2⟩ := deep_all (m + 1).toNat (by omega) (by omega)
    refine need_so ⟨rfl, rfl⟩ (need_so ⟨h1, h2⟩ (need_so ⟨rfl, rfl⟩ (need_so ⟨h1, h2⟩ (need_so ⟨rfl, trivial⟩ (fork_ok (fun q => ?_) (fun q => ?_))))))
    · rw [leI_t] at q
      have hw := w2 (by omega)
      have e1 : pE (deepT (m + 1).toNat) = 31 := by unfold pE; rw [hle, hw]; rfl
      have e2 : pK (deepT (m + 1).toNat) = 128 := by unfold pK; rw [hle, hw]; rfl
      have e3 : pNs (deepT (m + 1).toNat) = [] := by unfold pNs; rw [hle, hw]; rfl
      rw [e1, e2, e3]
      exact fork_ok (fun _ => fork_ok (fun _ => fork_ok (fun _ => need_so ⟨rfl, trivial⟩ rfl) (fun h => by cases h)) (fun h => by cases h)) (fun h => by cases h)
    · rw [leI_f] at q
      obtain ⟨hok, hlen⟩ := w1 (by omega)
      have e1 : pE (deepT (m + 1).toNat) = 0 := by unfold pE; rw [hle]; exact TrR.e_ok hok
      have e3 : (pNs (deepT (m + 1).toNat)).length = (m + 1).toNat := by unfold pNs; rw [hle]; exact hlen
      rw [e1, e3, w64_in (r := m + 1) (by omega)]
      exact fork_ok (fun _ => fork_ok (fun _ => need_so ⟨rfl, trivial⟩ rfl) (fun h => by rw [eqI_f] at h; omega)) (fun h => by cases h))
theorem deep_walk {W : World} (n : Int) : Calls Try.prog 4 #[.int .i64 n] W fun e w' => e = .returned (.bool true) ∧ Below W.heap.size W w' :=
  Sy.law_true11 (Sy.de_t n) (us := [_]) ⟨_, _, rfl, rfl, rfl⟩
end Go.Proofs.Ytglkdhmikpejnaa
