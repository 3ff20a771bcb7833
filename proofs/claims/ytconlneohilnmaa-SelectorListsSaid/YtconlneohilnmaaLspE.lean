/-
  Lemmas for SelectorLists, part 5; no conditions.
-/
import Derived.Test.YtconlneohilnmaaLspD
namespace Go.Proofs.Ytconlneohilnmaa
open Go Go.RowKit Pl Sy
set_option linter.unusedVariables false
set_option linter.unusedSimpArgs false
namespace Sy
def PRows (n : Nat) (c : Nat → Nat → AV) (ps : List PartV) : Prop := n = ps.length ∧ ∀ i j, i < n → j < 6 → c i j = pcell ps i j
theorem PRows.base (ps : List PartV) : PRows ps.length (pcell ps) ps := ⟨rfl, fun _ _ _ _ => rfl⟩
theorem PRows.app1 {n : Nat} {c c' : Nat → Nat → AV} {ps : List PartV} (p : PartV) (h : PRows n c ps) (hx : ∀ j, j < 6 → c' 0 j = partA p j) : PRows (n + 1) (appc n c c') (ps ++ [p]) := ⟨by rw [h.1]; simp, fun i j hi hj => by
  have hl := h.1
  by_cases hlt : i < n
  · rw [appc_lt hlt, h.2 i j hlt hj]
    have : (ps ++ [p]).getD i partNone = ps.getD i partNone := by
      simp only [List.getD_eq_getElem?_getD]
      rw [List.getElem?_append_left (by omega)]
    unfold pcell
    rw [this]
  · have e : i = n := by omega
    subst e
    rw [appc_ge (Nat.le_refl _), Nat.sub_self, hx j hj]
    have : (ps ++ [p]).getD i partNone = p := by
      simp only [List.getD_eq_getElem?_getD]
      rw [List.getElem?_append_right (by omega), hl, Nat.sub_self]; rfl
    unfold pcell
    rw [this]⟩
abbrev selB (b n : Nat) : Blk := ⟨[.own b n 6], 43, none⟩
abbrev zS : Blk := ⟨[.lit (.slice none 0 0)], 43, none⟩
abbrev pgB (p : PartV) : Blk := ⟨[int p.comb, .lit (.string p.tag), .lit (.string p.id), cview p.cls, tview p.tests, int p.states], 55, none⟩
abbrev slM (T : List TokV) (a : Int) (R : Blk) (ps : List PartV) (p : PartV) : Mem := ⟨5, 0, [some ⟨[], 55, some ⟨ps.length, 6, pcell ps⟩⟩, some (pgB p), some (selB 4 ps.length), some R, some (rdB T a)]⟩
abbrev slF (r ok : Bool) : Fr := (some (.ptr 0 0) :: none :: some (.ptr 1 0) :: some (boo r) :: some (.ptr 2 0) :: some (.ptr 3 0) :: some (boo ok) :: (nn40 []))
end Sy
namespace Sy
theorem slM_ren {M : Mem} {l : List Nat} {b n : Nat} {c : Nat → Nat → AV} {T : List TokV} {a a' : Int} {R R' : Blk} {ps : List PartV} {p : PartV} (hl : l = [0, 1, 2, 3, b]) (hn : 4 ≤ b) (h0 : M.get 0 = some (rdB T a')) (ha : a' = a) (h1 : M.get 1 = some R') (hR : RenB (nm l) R' R) (h2 : M.get 2 = some (selB b n)) (h3 : M.get 3 = some (pgB p)) (h4 : M.get b = some ⟨[], 55, some ⟨n, 6, c⟩⟩) (e1 : PRows n c ps) : RenM (nm l) M (slM T a R ps p) := by
  subst hl ha
  refine .of rfl rfl (by simp; omega) ⟨⟨b, _, rfl, h4, rfl, trivial, e1.1.symm, rfl, fun i j hi hj => ?_⟩, ⟨3, _, rfl, h3, rfl, ⟨rfl, rfl, rfl, RenV.free _ (viewOf_free strCells ⟨#[]⟩ 1 _), RenV.free _ (viewOf_free TestV.cells testNone 3 _), rfl, trivial⟩, trivial⟩, ⟨2, _, rfl, h2, rfl, ⟨⟨rfl, e1.1, rfl⟩, trivial⟩, trivial⟩, ⟨1, _, rfl, h1, hR⟩, ⟨0, _, rfl, h0, rfl, ⟨RenV.free _ (kv_free T), rfl, trivial⟩, trivial⟩, trivial⟩
  show RenV _ (c i j) (pcell ps i j)
  rw [e1.2 i j (by have := e1.1; change i < ps.length at hi; omega) hj]
  exact RenV.free _ (partA_free _ j)
theorem zS_ren (σ : Nat → Option Nat) : RenB σ zS zS := ⟨rfl, ⟨rfl, trivial⟩, trivial⟩
theorem selB_ren {b n m : Nat} (e : n = m) : RenB (nm [0, 1, 2, 3, b]) (selB b n) (selB 4 m) := ⟨rfl, ⟨⟨rfl, e, rfl⟩, trivial⟩, trivial⟩
theorem slF_ren (r ok : Bool) (b : Nat) : RenF (nm [0, 1, 2, 3, b]) (slF r ok) (slF r ok) := by
  simp [RenF, RenV, RenVs, nm]
end Sy
structure SelE where
  ret : Bool
  r : Bool
  ok : Bool
  ps : List PartV
  p : PartV
  a : Int
def selsV (T : List TokV) : Nat → Int → Bool → List PartV → PartV → SelE
  | 0, a, ok, ps, p => ⟨false, false, ok, ps, p, a⟩
  | n + 1, a, ok, ps, p => if ok = true then
      if eqI a T.length = true then ⟨true, leI (ps.length + 1 : Nat) 8, ok, ps ++ [p], p, a⟩
      else if eqI (cmbI T a) 0 = true then ⟨true, false, ok, ps ++ [p], p, cmbA T a⟩
      else selsV T n (rprtV T (cmbA T a) (cmbI T a)).2.1 (rprtV T (cmbA T a) (cmbI T a)).2.2 (ps ++ [p]) (rprtV T (cmbA T a) (cmbI T a)).1
    else ⟨false, false, ok, ps, p, a⟩
theorem markV_ge {T : List TokV} {a : Int} {p : PartV} (h : InT T a) : a ≤ (markV T a p).2.2 ∧ InT T (markV T a p).2.2 := by
  have i1 : InT T (mk1 T a) := takeA_in h (by decide)
  have i2 : InT T (mk2 T a) := signA_in i1
  have i3 : InT T (mk3 T a) := takeA_in i2 (by decide)
  have i4 : InT T (mk4 T a) := takeA_in i3 (by decide)
  have i5 : InT T (takeA T (mk4 T a) 1) := takeA_in i4 (by decide)
  have i6 : InT T (takeA T (mk2 T a) 1) := takeA_in i2 (by decide)
  obtain ⟨k7, i7⟩ := testM_ge i3
  have k1 : a ≤ mk1 T a := takeA_ge T _ _
  have k2 : mk1 T a ≤ mk2 T a := signA_ge T _ _
  have k3 : mk2 T a ≤ mk3 T a := takeA_ge T _ _
  have k4 : mk3 T a ≤ mk4 T a := takeA_ge T _ _
  have k5 := takeA_ge T (mk4 T a) 1
  have k6 := takeA_ge T (mk2 T a) 1
  have e : (markV T a p).2.2 = mk1 T a ∨ (markV T a p).2.2 = takeA T (mk2 T a) 1 ∨ (markV T a p).2.2 = (testM T (mk3 T a)).2.2 ∨ (markV T a p).2.2 = takeA T (mk4 T a) 1 ∨ (markV T a p).2.2 = mk4 T a := by
    unfold markV
    repeat' split
    all_goals first | exact .inl rfl | exact .inr (.inl rfl) | exact .inr (.inr (.inl rfl)) | exact .inr (.inr (.inr (.inl rfl))) | exact .inr (.inr (.inr (.inr rfl)))
  rcases e with e | e | e | e | e <;> rw [e]
  · exact ⟨by omega, i1⟩
  · exact ⟨by omega, i6⟩
  · exact ⟨by omega, i7⟩
  · exact ⟨by omega, i5⟩
  · exact ⟨by omega, i4⟩
theorem marksV_ge {T : List TokV} {f0 : Int} : ∀ (n : Nat) (a : Int) (p : PartV), InT T a → a ≤ (marksV T f0 n a p).2.1 ∧ InT T (marksV T f0 n a p).2.1
  | 0, a, p, h => ⟨Int.le_refl _, h⟩
  | n + 1, a, p, h => by
    obtain ⟨q1, q2⟩ := markV_ge (p := p) h
    unfold marksV
    split
    · have := marksV_ge (f0 := f0) n _ (markV T a p).2.1 q2
      exact ⟨by omega, this.2⟩
    · exact ⟨q1, q2⟩
    · exact ⟨q1, q2⟩
theorem rprtV_ge {T : List TokV} {a c : Int} (h : InT T a) : a ≤ (rprtV T a c).2.1 ∧ InT T (rprtV T a c).2.1 := by
  have i1 : InT T (takeA T a 1) := takeA_in h (by decide)
  have k1 := takeA_ge T a 1
  have i2 : InT T (signA T (takeA T a 1) ⟨⟨[42]⟩⟩) := signA_in i1
  have k2 := signA_ge T (takeA T a 1) ⟨⟨[42]⟩⟩
  unfold rprtV prtV
  split
  · have := marksV_ge (f0 := a) (T.length + 1) _ (p0V c (takeS T a 1)) i1
    exact ⟨by omega, this.2⟩
  · have := marksV_ge (f0 := a) (T.length + 1) _ (p0V c ⟨⟨[]⟩⟩) i2
    exact ⟨by omega, this.2⟩
theorem cmbA_gt {T : List TokV} {a : Int} (h : InT T a) (hc : cmbI T a ≠ 0) : a < cmbA T a := by
  have h1 : InT T (cmB1 T a) := signA_in (skI_in h)
  have h2 : InT T (cmB2 T a) := signA_in h1
  have h3 : InT T (cmB3 T a) := signA_in h2
  have k0 := (skI_le h.1.1 h.1.2).1
  have k1 : skI T a ≤ cmB1 T a := signA_ge T _ _
  have k2 : cmB1 T a ≤ cmB2 T a := signA_ge T _ _
  have k3 : cmB2 T a ≤ cmB3 T a := signA_ge T _ _
  have l1 := (skI_le h1.1.1 h1.1.2).1
  have l2 := (skI_le h2.1.1 h2.1.2).1
  have l3 := (skI_le h3.1.1 h3.1.2).1
  unfold cmbI at hc
  unfold cmbA
  split
  · rename_i e
    have : cmB1 T a = skI T a + 1 := signA_t e
    omega
  · rename_i e1
    rw [if_neg e1] at hc
    split
    · rename_i e
      have : cmB2 T a = cmB1 T a + 1 := signA_t e
      omega
    · rename_i e2
      rw [if_neg e2] at hc
      split
      · rename_i e
        have : cmB3 T a = cmB2 T a + 1 := signA_t e
        omega
      · rename_i e3
        rw [if_neg e3] at hc
        split at hc
        · exact absurd rfl hc
        · rename_i e4
          rw [Bool.not_eq_true, leI_f] at e4
          omega
theorem room3 {n k : Nat} (h : n ≤ 1000000) (hk : k ≤ 100) : (Bool.true && (Nat.ble n n && (Nat.ble ((n + 1) * k) 140737488355328 && Nat.ble (n + 1) 17592186044416))) = true := by
  have h1 : (n + 1) * k ≤ 1000001 * 100 := Nat.mul_le_mul (by omega) hk
  simp only [Bool.and_eq_true, Nat.ble_eq]
  exact ⟨trivial, Nat.le_refl _, by generalize (n + 1) * k = x at h1; omega, by omega⟩
namespace Sy
def SelG (T : List TokV) (x : SelE) (ex : Ex) (F : Fr) (M : Mem) : Prop := (x.ret = true ∧ ex = .ret ∧ F = slF x.r x.ok ∧ M = slM T x.a (selB 4 x.ps.length) x.ps x.p) ∨ (x.ret = false ∧ ex = .exit 0 ∧ F = slF false x.ok ∧ M = slM T x.a zS x.ps x.p)
theorem rsel_loop (T : List TokV) (hT : RdOk T) : ∀ (n : Nat) (a : Int) (ok : Bool) (ps : List PartV) (p : PartV), InT T a → (ps.length : Int) ≤ a → T.length - a < n →
    LoopToT 4 Try.prog (theBody Try.prog 26 4) n (slF false ok) (slM T a zS ps p) (RG 4 (SelG T (selsV T n a ok ps p))) := by
  intro n
  induction n with
  | zero =>
    intro a ok ps p h hp hn
    have := h.1.2
    omega
  | succ n ih =>
    intro a ok ps p h hp hn
    have hl := hT.1
    unfold limT at hl
    have hle := h.1.2
    have hb := PRows.base ps
    refine roundT plain mixed 4 [cPart T, cRComb T] [] 400 30 26 4 Try.func26 rfl (by kernel_rfl) (true :: false :: true :: true :: true :: true :: true :: (ff40 [])) (.br (.yes (.br .done (.yes (.br .done (.yes .done))))) .done) (let e1 := ((ps).length + 1); let e2 := (some (@AV.ptr 0 0)); let e3 := (some (@AV.ptr 1 0)); let e4 := (some (@AV.ptr 2 0)); let e5 := (some (@AV.ptr 3 0)); let e6 := (@AV.lit (@Value.string (p).tag)); let e7 := (@AV.lit (@Value.string (p).id)); let e8 := (cview ((p).cls)); let e9 := (tview ((p).tests)); let e10 := (@Value.int IntKind.i64 (0 : Int)); let e11 := (@Value.string (@ByteArray.mk (@Array.mk _ []))); let e12 := (@Array.toList _ (@Array.mk _ [e10, e11, e11, (@Value.slice none 0 0), (@Value.slice none 0 0), e10])); let e13 := ((int (p).comb) :: e6 :: e7 :: e8 :: e9 :: (int (p).states) :: (@List.drop _ (0 + ([(int (p).comb), e6, e7, e8, e9, (int (p).states)]).length) (@List.map _ _ AV.lit (@Array.toList _ (@Array.mk _ [(@List.get _ e12 (@Fin.mk _ 0 (@Nat.le_of_ble_eq_true _ _ (@Eq.refl _ true)))), (@List.get _ e12 (@Fin.mk _ 1 (@Nat.le_of_ble_eq_true _ _ (@Eq.refl _ true)))), (@List.get _ e12 (@Fin.mk _ 2 (@Nat.le_of_ble_eq_true _ _ (@Eq.refl _ true)))), (@List.get _ e12 (@Fin.mk _ 3 (@Nat.le_of_ble_eq_true _ _ (@Eq.refl _ true)))), (@List.get _ e12 (@Fin.mk _ 4 (@Nat.le_of_ble_eq_true _ _ (@Eq.refl _ true)))), (@List.get _ e12 (@Fin.mk _ 5 (@Nat.le_of_ble_eq_true _ _ (@Eq.refl _ true))))]))))); let e14 := (some (@Blk.mk [] 55 (some (@Rw.mk e1 6 (@appc (ps).length (@pcell ps) (fun y0 => (fun y1 => (@getA (@List.take _ 6 e13) ((y0 * 6) + y1))))))))); let e15 := (some (@Blk.mk e13 55 none)); let e16 := (some (@Blk.mk [(int (p).comb), e6, e7, e8, e9, (int (p).states)] 55 none)); let e17 := (some (@Blk.mk [(@AV.own (5 + 1) e1 6)] 43 none)); let e18 := (@AV.view (T).length 3 (fun y0 => (fun y1 => (@AV.lit ([(@Value.int IntKind.i64 ((T.getD y0 tok0)).kind), (@Value.string ((T.getD y0 tok0)).text), (@Value.int IntKind.i64 ((T.getD y0 tok0)).n)].getD y1 (@Value.tuple (@Array.mk _ []))))))); let e19 := (some (@Blk.mk [e18, (int a)] 63 none)); let e20 := (some (boo false)); let e21 := (some (@Blk.mk [e18, (int (@cmbA T a))] 63 none)); let e22 := (((@rprtV T (@cmbA T a) (@cmbI T a))).snd); let e23 := (((@rprtV T (@cmbA T a) (@cmbI T a))).fst); (.fork ok (.need (Bool.true && ((@Nat.ble (ps).length (ps).length) && ((@Nat.ble (e1 * 96) 140737488355328) && (@Nat.ble e1 17592186044416)))) (.fork (eqI a (((T).length : Nat) : Int)) (.leaf (Ex.ret, ((e2 :: none :: e3 :: (some (boo (leI ((e1 : Nat) : Int) (8 : Int)))) :: e4 :: e5 :: (some (boo ok)) :: (nn40 [])), (@Mem.mk ((5 + 1) + 1) (((0 + 1) + 1) + 1) (e14 :: [e15, none, e16, e17, e17, e19]))))) (.need (@isSo (@And (e19 = e19) (@And (([] : List AV) = []) (@InT T a)))) (.fork (eqI (@cmbI T a) (0 : Int)) (.leaf (Ex.ret, ((e2 :: none :: e3 :: e20 :: e4 :: e5 :: (some (boo ok)) :: (nn40 [])), (@Mem.mk ((5 + 1) + 1) ((((0 + 1) + 1) + 1) + 1) (e14 :: [e15, none, e16, e17, e17, e21]))))) (.need (@isSo (@And (e21 = e21) (@And ([(int (@cmbI T a))] = [(int (@cmbI T a))]) (@And (@InT T (@cmbA T a)) (@RdOk T))))) (.leaf (Ex.norm, ((e2 :: none :: e3 :: e20 :: e4 :: e5 :: (some (boo e22.snd)) :: (nn40 [])), (@Mem.mk ((5 + 1) + 1) (((((0 + 1) + 1) + 1) + 1) + 1) (e14 :: [e15, none, (some (@Blk.mk [(int e23.comb), (@AV.lit (@Value.string e23.tag)), (@AV.lit (@Value.string e23.id)), (cview (e23.cls)), (tview (e23.tests)), (int e23.states)] 55 none)), e17, (some zS), (some (@Blk.mk [e18, (int e22.fst)] 63 none))])))))))))) (.leaf ((@Ex.exit 0), ((e2 :: none :: e3 :: e20 :: e4 :: e5 :: (some (boo ok)) :: (nn40 [])), (@Mem.mk 5 0 [(some (@Blk.mk [] 55 (some (@Rw.mk (ps).length 6 (@pcell ps))))), e16, (some (@Blk.mk [(@AV.own 4 (ps).length 6)] 43 none)), (some zS), e19])))))) (by kernel_rfl) ?_
    refine fork_ok (fun h1 => need_t (room3 (by omega) (by decide)) (fork_ok (fun h2 => ?_) (fun h2 => need_so ⟨rfl, rfl, h⟩ (fork_ok (fun h3 => ?_) (fun h3 => need_so ⟨rfl, rfl, cmbA_in h, hT⟩ ?_))))) (fun h1 => ?_)
    · have e : selsV T (n + 1) a ok ps p = ⟨true, leI (ps.length + 1 : Nat) 8, ok, ps ++ [p], p, a⟩ := by
        unfold selsV; rw [if_pos h1, if_pos h2]
      rw [e]
      exact ⟨_, _, [0, 1, 2, 3, 6], rfl, slF_ren _ ok 6, slM_ren (ps := ps ++ [p]) (p := p) rfl (by decide) rfl rfl rfl (selB_ren (by simp)) rfl rfl rfl (hb.app1 p fun j hj => by
        rcases j with _ | _ | _ | _ | _ | _ | j
        · rfl
        · rfl
        · rfl
        · rfl
        · rfl
        · rfl
        · omega), .inl ⟨rfl, rfl, rfl, rfl⟩⟩
    · have e : selsV T (n + 1) a ok ps p = ⟨true, false, ok, ps ++ [p], p, cmbA T a⟩ := by
        unfold selsV; rw [if_pos h1, if_neg (nt h2), if_pos h3]
      rw [e]
      exact ⟨_, _, [0, 1, 2, 3, 6], rfl, slF_ren _ ok 6, slM_ren (ps := ps ++ [p]) (p := p) rfl (by decide) rfl rfl rfl (selB_ren (by simp)) rfl rfl rfl (hb.app1 p fun j hj => by
        rcases j with _ | _ | _ | _ | _ | _ | j
        · rfl
        · rfl
        · rfl
        · rfl
        · rfl
        · rfl
        · omega), .inl ⟨rfl, rfl, rfl, rfl⟩⟩
    · have e : selsV T (n + 1) a ok ps p = selsV T n (rprtV T (cmbA T a) (cmbI T a)).2.1 (rprtV T (cmbA T a) (cmbI T a)).2.2 (ps ++ [p]) (rprtV T (cmbA T a) (cmbI T a)).1 := by
        rw [selsV]; rw [if_pos h1, if_neg (nt h2), if_neg (nt h3)]
      rw [e]
      obtain ⟨g1, g2⟩ := rprtV_ge (c := cmbI T a) (cmbA_in h)
      have g3 := cmbA_gt h (by rw [eqI_f] at h3; exact h3)
      exact LoopToT.ren [0, 1, 2, 3, 6] rfl (slF_ren false _ 6) (slM_ren (ps := ps ++ [p]) (p := (rprtV T (cmbA T a) (cmbI T a)).1) rfl (by decide) rfl rfl rfl (zS_ren _) rfl rfl rfl (hb.app1 p fun j hj => by
        rcases j with _ | _ | _ | _ | _ | _ | j
        · rfl
        · rfl
        · rfl
        · rfl
        · rfl
        · rfl
        · omega)) (ih _ _ _ _ g2 (by simp only [List.length_append, List.length_cons, List.length_nil]; omega) (by omega))
    · have e : selsV T (n + 1) a ok ps p = ⟨false, false, ok, ps, p, a⟩ := by
        unfold selsV; rw [if_neg (nt h1)]
      rw [e]
      exact ⟨_, _, [0, 1, 2, 3, 4], rfl, slF_ren _ ok 4, slM_ren (ps := ps) (p := p) rfl (by decide) rfl rfl rfl (zS_ren _) rfl rfl rfl hb, .inr ⟨rfl, rfl, rfl, rfl⟩⟩
end Sy
end Go.Proofs.Ytconlneohilnmaa
namespace Go.Proofs.Ytconlneohilnmaa
open Go Go.RowKit Pl Sy
set_option linter.unusedVariables false
set_option linter.unusedSimpArgs false
def rselV (T : List TokV) (a : Int) : SelE := selsV T (T.length + 1) (rprtV T a 0).2.1 (rprtV T a 0).2.2 [] (rprtV T a 0).1
namespace Sy
abbrev s0M (T : List TokV) (a : Int) (p : PartV) (k : Nat) : Mem := ⟨4, k, [some (pgB p), some zS, some zS, some (rdB T a)]⟩
theorem slM_nil {P : Program} {body : Code} {n : Nat} {F : Fr} {G : Ex → Fr → Mem → Prop} (T : List TokV) (a : Int) (p : PartV) (k : Nat) (h : LoopToT 4 P body n F (slM T a zS [] p) G) : LoopTo P body n F (s0M T a p k) G := by
  refine LoopToT.to (T := 4) ?_ (Nat.le_refl _)
  refine LoopToT.nilc 2 0 _ 55 6 (pcell []) (Nat.le_refl _) rfl rfl ?_
  exact LoopToT.stamp 0 h
noncomputable abbrev lpSel (T : List TokV) (a : Int) : Lp Try.prog where
  f := 26
  key := 4
  S := formS (fun _ M => some M.stamp) (fun _ => slF false (rprtV T a 0).2.2) (fun k => s0M T (rprtV T a 0).2.1 (rprtV T a 0).1 k) (fun _ => RdOk T ∧ InT T a) (fun _ => .fork (rselV T a).ret (.leaf (.ret, slF (rselV T a).r (rselV T a).ok, slM T (rselV T a).a (selB 4 (rselV T a).ps.length) (rselV T a).ps (rselV T a).p)) (.leaf (.exit 0, slF false (rselV T a).ok, slM T (rselV T a).a zS (rselV T a).ps (rselV T a).p))) (true :: false :: true :: true :: true :: true :: true :: (ff40 []))
  one := by kernel_rfl
  ok := formS_ok fun k ⟨h1, h2⟩ => by
    refine ⟨T.length + 1, ?_⟩
    obtain ⟨g1, g2⟩ := rprtV_ge (c := 0) h2
    have key := LoopToT.out (rsel_loop T h1 (T.length + 1) (rprtV T a 0).2.1 (rprtV T a 0).2.2 [] (rprtV T a 0).1 g2 (by have := g2.1.1; simpa using this) (by have := g2.1.1; omega))
    refine (slM_nil T _ _ k key).mono fun ex F M hg => ?_
    rcases hg with ⟨q, rfl, rfl, rfl⟩ | ⟨q, rfl, rfl, rfl⟩
    · exact .inl ⟨q, rfl⟩
    · exact .inr ⟨q, rfl⟩
end Sy
theorem Sy.rsel_t (T : List TokV) (hT : RdOk T) (a : Int) (h : InT T a) : CallTo Try.prog 26 [.ptr 0 0] (rdM T a) fun v M' => Frz true 1 M' v (.tup [.agg [pview (rselV T a).ps], boo ((rselV T a).ret && (rselV T a).r)]) ∧ M'.get 0 = some (rdB T (rselV T a).a) :=
  to (G := fun r => Frz true 1 r.2 r.1 (.tup [.agg [pview (rselV T a).ps], boo ((rselV T a).ret && (rselV T a).r)]) ∧ r.2.get 0 = some (rdB T (rselV T a).a)) [cPart T, cRComb T] [lpSel T a] 400 30 (.yes (.br .done .done)) (let e1 := (@AV.view (T).length 3 (fun y0 => (fun y1 => (@AV.lit ([(@Value.int IntKind.i64 ((T.getD y0 tok0)).kind), (@Value.string ((T.getD y0 tok0)).text), (@Value.int IntKind.i64 ((T.getD y0 tok0)).n)].getD y1 (@Value.tuple (@Array.mk _ []))))))); let e2 := (some (@Blk.mk [e1, (int a)] 63 none)); let e3 := (int (0 : Int)); let e4 := (((@rprtV T a (0 : Int))).snd); let e5 := (((@rprtV T a (0 : Int))).fst); let e6 := (@AV.lit (@Value.string e5.tag)); let e7 := (@AV.lit (@Value.string e5.id)); let e8 := (tview (e5.tests)); let e9 := (@AV.lit (@Value.string (@ByteArray.mk (@Array.mk _ [])))); let e10 := (@AV.lit (@Value.slice none 0 0)); let e11 := (some (@Blk.mk [e10] 43 none)); let e12 := (some (@Blk.mk [e1, (int e4.fst)] 63 none)); let e13 := (@AV.own 4 (((@rselV T a)).ps).length 6); let e14 := (some (@Blk.mk [] 55 (some (@Rw.mk (((@rselV T a)).ps).length 6 (@pcell ((@rselV T a)).ps))))); let e15 := (((@rselV T a)).p); let e16 := (some (@Blk.mk [(int e15.comb), (@AV.lit (@Value.string e15.tag)), (@AV.lit (@Value.string e15.id)), (cview (e15.cls)), (tview (e15.tests)), (int e15.states)] 55 none)); let e17 := (some (@Blk.mk [e13] 43 none)); let e18 := (some (@Blk.mk [e1, (int ((@rselV T a)).a)] 63 none)); (.need (@isSo (@And (e2 = e2) (@And ([e3] = [e3]) (@And (@InT T a) (@RdOk T))))) (.need (@isSo (@And (((some (@AV.ptr 0 0)) :: none :: (some (@AV.ptr 1 0)) :: (some (boo false)) :: (some (@AV.ptr (1 + 1) 0)) :: (some (@AV.ptr ((1 + 1) + 1) 0)) :: (some (boo e4.snd)) :: (nn40 [])) = ((some (@AV.ptr 0 0)) :: none :: (some (@AV.ptr 1 0)) :: (some (boo false)) :: (some (@AV.ptr 2 0)) :: (some (@AV.ptr 3 0)) :: (some (boo e4.snd)) :: (nn40 []))) ((@Mem.mk (((1 + 1) + 1) + 1) ((0 + 1) + 1) ((some (@Blk.mk ((int e5.comb) :: e6 :: e7 :: (cview (e5.cls)) :: e8 :: (int e5.states) :: (@List.drop _ (0 + ([(int e5.comb), e6, e7, (cview (e5.cls)), e8, (int e5.states)]).length) [e3, e9, e9, e10, e10, e3])) 55 none)) :: [e11, e11, e12])) = (@Mem.mk 4 ((0 + 1) + 1) [(some (@Blk.mk [(int e5.comb), e6, e7, (cview (e5.cls)), e8, (int e5.states)] 55 none)), (some zS), (some zS), e12])))) (.need (@isSo (@And (@RdOk T) (@InT T a))) (.fork ((@rselV T a)).ret (.leaf ((@AV.tup [(@AV.agg [e13]), (boo ((@rselV T a)).r)]), (@Mem.mk 5 0 [e14, e16, e17, e17, e18]))) (.leaf ((@AV.tup [(@AV.agg (@List.take _ 1 [e13])), (boo false)]), (@Mem.mk 5 (0 + 1) [e14, e16, e17, e17, e18])))))))) (by kernel_rfl) (by
    have fin : ∀ (M : Mem) (x : SelE) (r : Bool) c1, r = (x.ret && x.r) → M.get 4 = some ⟨[], 55, some ⟨x.ps.length, 6, c1⟩⟩ → (∀ i j, c1 i j = pcell x.ps i j) → Frz true 1 M (.tup [.agg [.own 4 x.ps.length 6], boo r]) (.tup [.agg [pview x.ps], boo (x.ret && x.r)]) := fun M x r c1 h0 h1 h2 => by
      rw [h0]
      exact Frz.tup ⟨Frz.agg ⟨Frz.own (by decide) h1 rfl (Nat.le_refl _) rfl fun i j _ _ => by
        show Frz _ _ _ (c1 i j) _
        rw [h2]; exact Frz.free _ _ (partA_free _ j), trivial⟩, Frz.lit _ _ _ _, trivial⟩
    refine need_so ⟨rfl, rfl, h, hT⟩ (need_so ⟨rfl, rfl⟩ (need_so ⟨hT, h⟩ (fork_ok (fun h1 => ?_) (fun h1 => ?_))))
    · exact ⟨fin _ (rselV T a) _ _ (by rw [h1]; rfl) rfl (fun _ _ => rfl), rfl⟩
    · exact ⟨fin _ (rselV T a) _ _ (by rw [h1]; rfl) rfl (fun _ _ => rfl), rfl⟩)
end Go.Proofs.Ytconlneohilnmaa
namespace Go.Proofs.Ytconlneohilnmaa
open Go Go.RowKit Pl Sy
set_option linter.unusedVariables false
set_option linter.unusedSimpArgs false
abbrev Sy.bxk : AV := .vptr 1 (fun _ => int 12)
def comB (t : TokV) : Bool := eqI t.kind 12
theorem Sy.spl1_t (t : TokV) : CallTo Try.prog 42 [tokA t, bxk] M0 fun v _ => v = boo (comB t) :=
  toV [] [] 400 30 (.br (.auto 6 .done) (.auto 2 .done)) (.fork (eqI (t).kind (12 : Int)) (.leaf (boo true)) (.leaf (boo false))) (by kernel_rfl) (by
    unfold comB
    refine fork_ok (fun h => ?_) (fun h => ?_)
    · rw [h]; exact rfl
    · rw [h]; exact rfl)
noncomputable abbrev Sy.cSpl1 : Con Try.prog :=
  atX 42 (fun args => match args with | [.agg [.lit (.int .i64 a), .lit (.string s), .lit (.int .i64 c)], _] => some (⟨a, s, c⟩ : TokV) | _ => none) (fun t => [tokA t, bxk]) (fun t => boo (comB t)) (fun _ => True) fun t _ => ⟨⟨⟨⟨trivial, trivial, trivial, trivial⟩, fun j => trivial, trivial⟩, trivial⟩, spl1_t t⟩
namespace Sy
abbrev fkF (l : List TokV) (k : Int) : Fr := (some ((@AV.view (l).length 3 (fun x564010 => (fun x256573 => (@AV.lit ([(@Value.int IntKind.i64 ((l.getD x564010 tok0)).kind), (@Value.string ((l.getD x564010 tok0)).text), (@Value.int IntKind.i64 ((l.getD x564010 tok0)).n)].getD x256573 (@Value.tuple (@Array.mk _ [])))))))) :: some (int k) :: some ((@AV.fn (@Fn.func 42) [] [(@AV.vptr 1 (fun x989285 => (int (12 : Int))))])) :: (nn25 []))
end Sy
theorem Sy.firstk_scan (l : List TokV) (hl : lim l) : ∀ k, k ≤ l.length → LoopTo Try.prog (theBody Try.prog 69 2) (l.length - k + 1) (fkF l k) M0 fun ex F' M' => M' = M0 ∧ ((tops comB l k < l.length ∧ ex = .exit 0 ∧ F' = fkF l (tops comB l k : Nat)) ∨ (tops comB l k = l.length ∧ ex = .exit 0 ∧ F' = fkF l l.length)) :=
  hopL l.length (fun j => comB (tokAt l j)) (nxt l) (nxt_gt l) (nxt_le l) (fun k => fkF l k) (fun k => fkF l k) (fun _ => M0) (.exit 0) fun κ n G h0 c1 c2 c3 => by
    generalize hκ : (κ : Int) = k at *
    refine roundL [cMatch l, cSpl1] [] 400 30 69 2 Try.func69 rfl (by kernel_rfl) (true :: true :: true :: (ff25 [])) (.br (.auto 2 (.yes (.auto 1 (.yes (.auto 1 (.br (.yes .done) .done)))))) (.auto 7 .done)) (let e1 := (((l).length : Nat) : Int); let e2 := (@AV.agg [(int ((l.getD (k).toNat tok0)).kind), (@AV.lit (@Value.string ((l.getD (k).toNat tok0)).text)), (int ((l.getD (k).toNat tok0)).n)]); let e3 := (@AV.vptr 1 (fun y0 => (int (12 : Int)))); let e4 := (@AV.view (l).length 3 (fun y0 => (fun y1 => (@AV.lit ([(@Value.int IntKind.i64 ((l.getD y0 tok0)).kind), (@Value.string ((l.getD y0 tok0)).text), (@Value.int IntKind.i64 ((l.getD y0 tok0)).n)].getD y1 (@Value.tuple (@Array.mk _ []))))))); let e5 := (w64 ((@mtI l k) + (1 : Int))); let e6 := (some (@AV.fn (@Fn.func 42) [] [e3])); (.fork (!(leI e1 k)) (.need (@inR k (l).length) (.need (@isSo (@And ((@HAppend.hAppend _ _ _ _ (@HAppend.hAppend _ _ _ _ [] [e2]) [e3]) = [e2, e3]) True)) (.fork (!(@comB (@TokV.mk ((l.getD (k).toNat tok0)).kind ((l.getD (k).toNat tok0)).text ((l.getD (k).toNat tok0)).n))) (.need (@isSo (@And ((@HAppend.hAppend _ _ _ _ (@HAppend.hAppend _ _ _ _ [] [e4, (int k)]) []) = [e4, (int k)]) (@lim l))) (.leaf (Ex.norm, (((some e4) :: (some (int (if (e1 < e5) then e1 else e5))) :: e6 :: (nn25 [])), (@Mem.mk 0 0 []))))) (.leaf ((@Ex.exit 0), (((some e4) :: (some (int k)) :: e6 :: (nn25 [])), (@Mem.mk 0 0 []))))))) (.leaf ((@Ex.exit 0), (((some e4) :: (some (int k)) :: e6 :: (nn25 [])), (@Mem.mk 0 0 [])))))) (by kernel_rfl) ?_
    have hl' : l.length ≤ 17592186044416 := hl
    refine fork_ok (fun h => ?_) (fun h => ?_)
    · simp only [Bool.not_eq_true', Bool.not_eq_false', leI_t, leI_f, eqI_t, eqI_f, inR_t, inR_f, isSo_t, isSo_f] at h
      have hk : κ < l.length := by omega
      have hr : inR k l.length = true := by rw [inR_t]; omega
      have hm := mt_le hk
      have hκ' : tokAt l κ = l.getD k.toNat tok0 := by rw [← hκ]; rfl
      refine need_t hr (need_so ⟨rfl, trivial⟩ (fork_ok (fun h2 => need_so ⟨rfl, hl⟩ ?_) (fun h2 => c2 hk (by rw [hκ']; simpa using h2))))
      have e : (if ((l.length : Nat) : Int) < w64 (mtI l k + 1) then ((l.length : Nat) : Int) else w64 (mtI l k + 1)) = (nxt l κ : Nat) := by
        have e1 : mtI l k = (mt l κ : Int) := by rw [← hκ]; exact (mt_int l κ).1
        rw [e1, w64_in (r := (mt l κ : Int) + 1) (by omega)]
        unfold nxt
        split <;> omega
      have := c1 hk (by rw [hκ']; simpa using h2)
      rw [← e] at this
      exact this
    · simp only [Bool.not_eq_true', Bool.not_eq_false', leI_t, leI_f, eqI_t, eqI_f, inR_t, inR_f, isSo_t, isSo_f] at h
      have hk : κ = l.length := by omega
      have := c3 hk
      rw [← hk, hκ] at this
      exact this
namespace Sy
noncomputable abbrev lp_firstk (l : List TokV) : Lp Try.prog where
  f := 69
  key := 2
  S := formS (fun F M => slotI F 1) (fun k => fkF l k) (fun _ => M0) (fun k => lim l ∧ 0 ≤ k ∧ k ≤ l.length) (fun k => .leaf (.exit 0, fkF l (tops comB l k.toNat : Nat), M0)) (true :: true :: true :: (ff25 []))
  one := by kernel_rfl
  ok := formS_ok fun k ⟨h1, h2, h3⟩ => by
    obtain ⟨k, rfl⟩ := Int.eq_ofNat_of_zero_le h2
    refine ⟨l.length - k + 1, ?_⟩
    refine (Sy.firstk_scan l h1 k (by omega)).mono fun ex F M hg => ?_
    obtain ⟨rfl, hg⟩ := hg
    rcases hg with ⟨q1, rfl, rfl⟩ | ⟨q1, rfl, rfl⟩
    · rfl
    · show _ = _
      rw [Int.toNat_natCast, q1]
end Sy
theorem Sy.firstk_t (l : List TokV) (hl : lim l) (i : Int) (h0 : 0 ≤ i) (h1 : i ≤ l.length) : CallTo Try.prog 69 [kv l, int i, .fn (.func 42) [] [bxk]] M0 fun v _ => v = int (tops comB l i.toNat : Nat) :=
  toV [] [lp_firstk l] 400 30 .done (let e1 := (some (@AV.view (l).length 3 (fun y0 => (fun y1 => (@AV.lit ([(@Value.int IntKind.i64 ((l.getD y0 tok0)).kind), (@Value.string ((l.getD y0 tok0)).text), (@Value.int IntKind.i64 ((l.getD y0 tok0)).n)].getD y1 (@Value.tuple (@Array.mk _ [])))))))); let e2 := (some (@AV.fn (@Fn.func 42) [] [(@AV.vptr 1 (fun y0 => (int (12 : Int))))])); (.need (@isSo (@And ((e1 :: (some (int i)) :: e2 :: (nn25 [])) = (e1 :: (some (int i)) :: e2 :: (nn25 []))) ((@Mem.mk 0 0 []) = M0))) (.need (@isSo (@And (@lim l) (@And ((0 : Int) ≤ i) (i ≤ (((l).length : Nat) : Int))))) (.leaf (int (((@tops comB l (i).toNat) : Nat) : Int)))))) (by kernel_rfl) (need_so ⟨rfl, rfl⟩ (need_so ⟨hl, h0, h1⟩ rfl))
theorem Sy.Conv1.ptr {M : Mem} {b : Nat} {B : Blk} {m : Nat} {cell : Nat → AV} (hb : M.get b = some B) (hc : ∀ j, j < m → ∃ v, B.cells[j]? = some v ∧ Free v ∧ v = cell j) : Conv1 M (.ptr b 0) (.vptr m cell) := fun w0 ρ w u hW hr => by
  simp only [rel] at hr ⊢
  obtain ⟨g, tot, hg, rfl⟩ := hr
  obtain ⟨q2, cur, q3, q4, q5⟩ := hW.holds hb hg
  refine ⟨g, 0, rfl, fun j hj => ?_⟩
  obtain ⟨v, r1, r2, r3⟩ := hc j hj
  obtain ⟨x, r4, r5⟩ := q5.1 j v r1
  have hlt : g < w.heap.size := (Array.getElem?_eq_some_iff.1 q3).1
  refine ⟨x, ?_, ?_⟩
  · simp only [rho0, if_pos hlt]
    rw [cell_at q3, Nat.zero_add]; exact r4
  · rw [← r3]; exact rel.free (rho0_still hW) r2 r5
noncomputable abbrev Sy.cFirstK (l : List TokV) : Con Try.prog := atM 69 (fun args _ => match args with | [_, .lit (.int .i64 i), _] => some i | _ => none) (fun i => [kv l, int i, .fn (.func 42) [] [bxk]]) (fun i => int (tops comB l i.toNat : Nat)) (fun i => lim l ∧ 0 ≤ i ∧ i ≤ l.length) fun i h => ⟨⟨_, rfl⟩, firstk_t l h.1 i h.2.1 h.2.2⟩
namespace Sy
abbrev lcell (ls : List (List TokV)) (i j : Nat) : AV := kv (ls.getD i [])
abbrev boxB : Blk := ⟨[int 12], 3, none⟩
abbrev splF : FuncId := 42
abbrev pcM (ls : List (List TokV)) : Mem := ⟨2, 0, [some ⟨[], 24, some ⟨ls.length, 1, lcell ls⟩⟩, some boxB]⟩
abbrev pcF (l : List TokV) (n : Nat) : Fr := (some (kv l) :: some (.fn (.func splF) [] [.ptr 0 0]) :: none :: none :: some ((@AV.lit (@Value.slice none 0 0))) :: some (.own 1 n 1) :: (nn20 []))
end Sy
theorem Sy.Conv1.fn {M : Mem} {f : Fn} {a a1 c c1 : List AV} (h : Conv M a a1) (h' : Conv M c c1) : Conv1 M (.fn f a c) (.fn f a1 c1) := fun w0 ρ w u hW hr => by
  simp only [rel] at hr ⊢
  obtain ⟨us, vs, rfl, q1, q2⟩ := hr
  exact ⟨us, vs, rfl, h w0 ρ w us hW q1, h' w0 ρ w vs hW q2⟩
namespace Sy
def LRows (n : Nat) (c : Nat → Nat → AV) (ls : List (List TokV)) : Prop := n = ls.length ∧ ∀ (σ : Nat → Option Nat) i j, i < n → j < 1 → RenV σ (c i j) (lcell ls i j)
theorem LRows.base (ls : List (List TokV)) : LRows ls.length (lcell ls) ls := ⟨rfl, fun σ _ _ _ _ => RenV.free σ (kv_free _)⟩
theorem LRows.app1 {n : Nat} {c c' : Nat → Nat → AV} {ls : List (List TokV)} (x : List TokV) (h : LRows n c ls) (hx : ∀ σ : Nat → Option Nat, RenV σ (c' 0 0) (kv x)) : LRows (n + 1) (appc n c c') (ls ++ [x]) := ⟨by rw [h.1]; simp, fun σ i j hi hj => by
  have hl := h.1
  obtain rfl : j = 0 := by omega
  by_cases hlt : i < n
  · rw [appc_lt hlt]
    have : (ls ++ [x]).getD i [] = ls.getD i [] := by
      simp only [List.getD_eq_getElem?_getD]
      rw [List.getElem?_append_left (by omega)]
    have h3 := h.2 σ i 0 hlt hj
    unfold lcell at h3 ⊢
    rw [this]
    exact h3
  · have e : i = n := by omega
    subst e
    rw [appc_ge (Nat.le_refl _), Nat.sub_self]
    have : (ls ++ [x]).getD i [] = x := by
      simp only [List.getD_eq_getElem?_getD]
      rw [List.getElem?_append_right (by omega), hl, Nat.sub_self]; rfl
    unfold lcell
    rw [this]
    exact hx σ⟩
abbrev pcE (l : List TokV) (n : Nat) : Fr := (some (kv l) :: some (.fn (.func splF) [] [.ptr 0 0]) :: none :: none :: some (.own 1 n 1) :: some (.own 1 n 1) :: (nn20 []))
theorem pcM_ren {M : Mem} {l : List Nat} {b n : Nat} {c : Nat → Nat → AV} {ls : List (List TokV)} (hl : l = [0, b]) (hn : 1 ≤ b) (h0 : M.get 0 = some boxB) (h1 : M.get b = some ⟨[], 24, some ⟨n, 1, c⟩⟩) (e1 : LRows n c ls) : RenM (nm l) M (pcM ls) := by
  subst hl
  refine .of rfl rfl (by simp; omega) ⟨⟨b, _, rfl, h1, rfl, trivial, e1.1.symm, rfl, fun i j hi hj => ?_⟩, ⟨0, _, rfl, h0, rfl, ⟨rfl, trivial⟩, trivial⟩, trivial⟩
  exact e1.2 _ i j (by have := e1.1; change i < ls.length at hi; omega) hj
theorem kv_take (l : List TokV) (k : Nat) (hk : k ≤ l.length) (σ : Nat → Option Nat) : RenV σ (.view k 3 (fun i j => .lit ((TokV.cells (l.getD i tok0)).getD j undef))) (kv (l.take k)) := by
  refine ⟨by rw [List.length_take]; omega, rfl, fun i j hi hj => ?_⟩
  have : (l.take k).getD i tok0 = l.getD i tok0 := by
    simp only [List.getD_eq_getElem?_getD]
    rw [List.getElem?_take, if_pos hi]
  simp only [this]
  exact RenV.free σ (v := .lit _) trivial
theorem kv_drop (l : List TokV) (k : Nat) (σ : Nat → Option Nat) : RenV σ (.view (l.length - k) 3 (fun i j => .lit ((TokV.cells (l.getD (k + i) tok0)).getD j undef))) (kv (l.drop k)) := by
  refine ⟨by rw [List.length_drop], rfl, fun i j hi hj => ?_⟩
  have : (l.drop k).getD i tok0 = l.getD (k + i) tok0 := by
    simp only [List.getD_eq_getElem?_getD]
    rw [List.getElem?_drop]
  simp only [this]
  exact RenV.free σ (v := .lit _) trivial
def PcG (LS : List (List TokV)) (ex : Ex) (F : Fr) (M : Mem) : Prop := ex = .ret ∧ (∃ l', F = pcE l' LS.length) ∧ M = pcM LS
theorem pcs_loop : ∀ (n : Nat) (l : List TokV) (ls : List (List TokV)), l.length < n → ls.length + l.length ≤ 1000000 →
    LoopToT 1 Try.prog (theBody Try.prog 41 3) n (pcF l ls.length) (pcM ls) (RG 1 (PcG (ls ++ pieces comB l))) := by
  intro n
  induction n with
  | zero => intro l ls h; omega
  | succ n ih =>
    intro l ls h hlim
    have hstep := pieces_step comB l
    have hk := tops_le comB l 0 (Nat.zero_le _)
    refine roundT plain mixed 1 [cFirstK l] [] 400 30 41 3 Try.func41 rfl (by kernel_rfl) (true :: true :: false :: false :: true :: true :: (ff20 [])) (.yes (.yes (.yes (.br .done (.yes .done))))) (let e1 := (@Value.tuple (@Array.mk _ [])); let e2 := (fun y0 => (fun y1 => (@AV.view ((ls.getD y0 [])).length 3 (fun y2 => (fun y3 => (@AV.lit ([(@Value.int IntKind.i64 (((ls.getD y0 []).getD y2 tok0)).kind), (@Value.string (((ls.getD y0 []).getD y2 tok0)).text), (@Value.int IntKind.i64 (((ls.getD y0 []).getD y2 tok0)).n)].getD y3 e1))))))); let e3 := (fun y0 => (fun y1 => (@AV.lit ([(@Value.int IntKind.i64 ((l.getD y0 tok0)).kind), (@Value.string ((l.getD y0 tok0)).text), (@Value.int IntKind.i64 ((l.getD y0 tok0)).n)].getD y1 e1)))); let e4 := (@AV.view (l).length 3 e3); let e5 := (0 : Int); let e6 := (@AV.fn (@Fn.func splF) [] [(@AV.ptr 0 0)]); let e7 := (((l).length : Nat) : Int); let e8 := (((@tops comB l 0) : Nat) : Int); let e9 := ((ls).length + 1); let e10 := (some (@AV.own (2 + 1) e9 1)); let e11 := (@AV.view (e8).toNat 3 (fun y2 => (fun y3 => (@AV.lit ([(@Value.int IntKind.i64 ((l.getD y2 tok0)).kind), (@Value.string ((l.getD y2 tok0)).text), (@Value.int IntKind.i64 ((l.getD y2 tok0)).n)].getD y3 e1))))); let e12 := (@List.map _ _ AV.lit (@Array.toList _ (@Array.mk _ [(@List.get _ (@Array.toList _ (@Array.mk _ [(@Value.slice none 0 0)])) (@Fin.mk _ 0 (@Nat.le_of_ble_eq_true _ _ (@Eq.refl _ true))))]))); let e13 := (@Mem.mk ((2 + 1) + 1) (0 + 1) ((some (@Blk.mk [] 24 (some (@Rw.mk e9 1 (@appc (ls).length e2 (fun y0 => (fun y1 => (@getA (@List.take _ 1 (e11 :: (@List.drop _ (0 + ([e11]).length) e12))) ((y0 * 1) + y1))))))))) :: [(some (@Blk.mk ((@AV.view (e8).toNat 3 e3) :: (@List.drop _ (0 + ([(@AV.view (e8).toNat 3 e3)]).length) e12)) 24 none)), none, (some boxB)])); let e14 := (w64 (e8 + (1 : Int))); (.need (@isSo (@And (@Conv (@Mem.mk 2 0 [(some (@Blk.mk [] 24 (some (@Rw.mk (ls).length 1 e2)))), (some boxB)]) (@HAppend.hAppend _ _ _ _ (@HAppend.hAppend _ _ _ _ [] [e4, (int e5), e6]) []) [e4, (int e5), (@AV.fn (@Fn.func 42) [] [(@AV.vptr 1 (fun y0 => (int (12 : Int))))])]) (@And (@lim l) (@And (e5 ≤ e5) (e5 ≤ e7))))) (.need ((leI e5 e8) && ((leI e8 e8) && (leI e8 e7))) (.need (Bool.true && ((@Nat.ble (ls).length (ls).length) && ((@Nat.ble (e9 * 24) 140737488355328) && (@Nat.ble e9 17592186044416)))) (.fork (eqI e8 e7) (.leaf (Ex.ret, (((some e4) :: (some e6) :: none :: none :: e10 :: e10 :: (nn20 [])), e13))) (.need ((leI e5 e14) && ((leI e14 e7) && (leI e7 e7))) (.leaf (Ex.norm, (((some (@AV.view ((e7).toNat - (e14).toNat) 3 (fun y0 => (fun y1 => (@AV.lit ([(@Value.int IntKind.i64 ((l.getD ((e14).toNat + y0) tok0)).kind), (@Value.string ((l.getD ((e14).toNat + y0) tok0)).text), (@Value.int IntKind.i64 ((l.getD ((e14).toNat + y0) tok0)).n)].getD y1 e1)))))) :: (some e6) :: none :: none :: (some (@AV.lit (@Value.slice none 0 0))) :: e10 :: (nn20 [])), e13))))))))) (by kernel_rfl) ?_
    have ht := kv_take l (tops comB l 0) hk.2
    have hd := kv_drop l (tops comB l 0 + 1)
    generalize tops comB l 0 = k at *
    have hb := LRows.base ls
    refine need_so ⟨Conv.cons (Conv1.free _ (kv_free l)) (Conv.cons (Conv1.lit _ _) (Conv.cons (Conv1.fn (Conv.nil _) (Conv.cons (Conv1.ptr rfl fun j hj => ⟨int 12, (by
      obtain rfl : j = 0 := by omega
      rfl), trivial, rfl⟩) (Conv.nil _))) (Conv.nil _))), show lim l by unfold lim; omega, by omega, by omega⟩ (need_t (by simp only [Bool.and_eq_true, leI_t]; omega) (need_t (room3 (by omega) (by decide)) (fork_ok (fun h2 => ?_) (fun h2 => ?_))))
    · simp only [Bool.not_eq_true', Bool.not_eq_false', leI_t, leI_f, eqI_t, eqI_f, inR_t, inR_f, isSo_t, isSo_f] at h2
      have hkl : k = l.length := by omega
      rw [if_pos hkl] at hstep
      rw [hstep]
      exact ⟨pcE l (ls ++ [l.take k]).length, _, [0, 3], rfl, by
        simp only [RenF, and_true]
        exact ⟨RenV.free _ (kv_free l), ⟨rfl, trivial, ⟨rfl, rfl⟩, trivial⟩, ⟨rfl, by simp, rfl⟩, ⟨rfl, by simp, rfl⟩⟩, pcM_ren (ls := ls ++ [l.take k]) rfl (by decide) rfl rfl (hb.app1 _ ht), rfl, ⟨l, rfl⟩, rfl⟩
    · simp only [Bool.not_eq_true', Bool.not_eq_false', leI_t, leI_f, eqI_t, eqI_f, inR_t, inR_f, isSo_t, isSo_f] at h2
      have hkl : ¬ k = l.length := by omega
      rw [if_neg hkl] at hstep
      have ew : w64 ((k : Int) + 1) = ((k + 1 : Nat) : Int) := by rw [w64_in (by omega)]; omega
      rw [ew]
      refine need_t (by simp only [Bool.and_eq_true, leI_t]; omega) ?_
      have key := ih (l.drop (k + 1)) (ls ++ [l.take k]) (by rw [List.length_drop]; omega) (by rw [List.length_drop, List.length_append]; simp only [List.length_cons, List.length_nil]; omega)
      rw [List.append_assoc] at key
      rw [hstep]
      refine LoopToT.ren [0, 3] rfl ?_ (pcM_ren (ls := ls ++ [l.take k]) rfl (by decide) rfl rfl (hb.app1 _ ht)) key
      simp only [RenF, and_true]
      exact ⟨hd _, ⟨rfl, trivial, ⟨rfl, rfl⟩, trivial⟩, rfl, ⟨rfl, by simp, rfl⟩⟩
end Sy
end Go.Proofs.Ytconlneohilnmaa
namespace Go.Proofs.Ytconlneohilnmaa
open Go Go.RowKit Pl Sy
set_option linter.unusedVariables false
set_option linter.unusedSimpArgs false
namespace Sy
abbrev pc0F (l : List TokV) : Fr := (some (kv l) :: some (.fn (.func splF) [] [.ptr 0 0]) :: none :: none :: some ((@AV.lit (@Value.slice none 0 0))) :: some ((@AV.lit (@Value.slice none 0 0))) :: (nn20 []))
abbrev pcR (n : Nat) : Fr := (none :: none :: none :: none :: some (.own 1 n 1) :: some (.own 1 n 1) :: (nn20 []))
theorem pc_nil {P : Program} {body : Code} {n : Nat} {G : Ex → Fr → Mem → Prop} (l : List TokV) (k : Nat) (h : LoopToT 1 P body n (pcF l 0) (pcM []) G) : LoopTo P body n (pc0F l) ⟨1, k, [some boxB]⟩ G := by
  refine LoopToT.to (T := 1) ?_ (Nat.le_refl _)
  refine LoopToT.nil 5 24 1 (lcell []) (Nat.le_refl _) rfl ?_
  exact LoopToT.stamp 0 h
noncomputable abbrev lpPc (l : List TokV) : Lp Try.prog where
  f := 41
  key := 3
  S := formS (fun _ M => some M.stamp) (fun _ => pc0F l) (fun k => ⟨1, k, [some boxB]⟩) (fun _ => limT l.length) (fun _ => .leaf (.ret, pcR (pieces comB l).length, pcM (pieces comB l))) (true :: true :: false :: false :: true :: true :: (ff20 []))
  one := by kernel_rfl
  ok := formS_ok fun k h1 => by
    unfold limT at h1
    refine ⟨l.length + 1, ?_⟩
    have key := LoopToT.out (pcs_loop (l.length + 1) l [] (by omega) (by simpa using h1))
    refine ((pc_nil l k key).out (false :: false :: false :: false :: true :: true :: (ff20 []))).mono fun ex F M hg => ?_
    obtain ⟨F0, ⟨rfl, ⟨l', rfl⟩, rfl⟩, rfl⟩ := hg
    rfl
end Sy
namespace Sy
abbrev spF (n : Nat) (k : Int) : Fr := (nn5 (some (.own 1 n 1) :: none :: none :: none :: none :: some (.own 1 n 1) :: some (int n) :: some (int k) :: (nn12 [])))
end Sy
theorem piecesF_le (p : TokV → Bool) : ∀ (n : Nat) (l x : List TokV), x ∈ piecesF p n l → x.length ≤ l.length
  | 0, l, x, h => by cases h
  | n + 1, l, x, h => by
    simp only [piecesF, List.mem_cons] at h
    rcases h with rfl | h
    · rw [List.length_take]; omega
    · split at h
      · cases h
      · have := piecesF_le p n _ x h
        rw [List.length_drop] at this
        omega
theorem pieces_le (p : TokV → Bool) (l x : List TokV) (h : x ∈ pieces p l) : x.length ≤ l.length := piecesF_le p _ l x h
theorem pieces_num (p : TokV → Bool) : ∀ (n : Nat) (l : List TokV), l.length ≤ n → (pieces p l).length ≤ l.length + 1 := by
  intro n
  induction n with
  | zero =>
    intro l h
    rw [pieces_step]
    have := tops_le p l 0 (Nat.zero_le _)
    rw [if_pos (by omega)]; simp
  | succ n ih =>
    intro l h
    rw [pieces_step]
    have := tops_le p l 0 (Nat.zero_le _)
    split
    · simp
    · have := ih (l.drop (tops p l 0 + 1)) (by rw [List.length_drop]; omega)
      rw [List.length_drop] at this
      simp only [List.length_cons]
      omega
theorem getD_le (ls : List (List TokV)) (h : ∀ x ∈ ls, x.length ≤ 100000) (k : Nat) : (ls.getD k []).length ≤ 100000 := by
  rw [List.getD_eq_getElem?_getD]
  cases hk : ls[k]? with
  | none => simp
  | some x => exact h x (List.mem_of_getElem? hk)
namespace Sy
theorem spF_ren (n : Nat) (k k' : Int) (h : k = k') : RenF (nm [0, 1]) (spF n k) (spF n k') := by
  subst h
  simp [RenF, RenV, RenVs, nm]
theorem LRows.set (ls : List (List TokV)) (k : Nat) {v : AV} (hv : ∀ σ : Nat → Option Nat, RenV σ v (lcell ls k 0)) : LRows ls.length (setc k 0 [v] (lcell ls)) ls := ⟨rfl, fun σ i j hi hj => by
  obtain rfl : j = 0 := by omega
  by_cases e : i = k
  · subst e
    rw [setc_in (by simp)]
    exact hv σ
  · rw [setc_out (fun q => e q.1)]
    exact RenV.free σ (kv_free _)⟩
theorem spl_loop (ls : List (List TokV)) (hn : ls.length ≤ 1000000) (hs : ∀ x ∈ ls, x.length ≤ 100000) : ∀ (n k : Nat), k ≤ ls.length → ls.length - k < n →
    LoopToT 2 Try.prog (theBody Try.prog 24 4) n (spF ls.length k) (pcM ls) (RG 2 fun ex F M => ex = .exit 0 ∧ F = spF ls.length ls.length ∧ M = pcM ls) := by
  intro n
  induction n with
  | zero => intro k h1 h2; omega
  | succ n ih =>
    intro k h1 h2
    have hb := LRows.base ls
    refine roundT plain mixed 2 [cCloneD (ls.getD (k : Int).toNat [])] [] 400 30 24 4 Try.func24 rfl (by kernel_rfl) (ff5 (true :: false :: false :: false :: false :: true :: true :: true :: (ff12 []))) ((.br (.yes (.yes (.yes (.yes (.yes .done))))) .done)) (let k : Int := k; (let e1 := (@Nat.blt (k).toNat (ls).length); let e2 := (@Value.tuple (@Array.mk _ [])); let e3 := (@AV.view ((ls.getD (k).toNat [])).length 3 (fun y0 => (fun y1 => (@AV.lit ([(@Value.int IntKind.i64 (((ls.getD (k).toNat []).getD y0 tok0)).kind), (@Value.string (((ls.getD (k).toNat []).getD y0 tok0)).text), (@Value.int IntKind.i64 (((ls.getD (k).toNat []).getD y0 tok0)).n)].getD y1 e2))))); let e4 := (some (@AV.own 1 (ls).length 1)); let e5 := (some (int (((ls).length : Nat) : Int))); let e6 := (fun y0 => (fun y1 => (@AV.view ((ls.getD y0 [])).length 3 (fun y2 => (fun y3 => (@AV.lit ([(@Value.int IntKind.i64 (((ls.getD y0 []).getD y2 tok0)).kind), (@Value.string (((ls.getD y0 []).getD y2 tok0)).text), (@Value.int IntKind.i64 (((ls.getD y0 []).getD y2 tok0)).n)].getD y3 e2))))))); (.fork (!(leI (((ls).length : Nat) : Int) k)) (.need (@inR k (ls).length) (.need e1 (.need (@isSo (@And ((@HAppend.hAppend _ _ _ _ (@HAppend.hAppend _ _ _ _ [] [e3]) []) = [e3]) (((ls.getD (k).toNat [])).length ≤ 100000))) (.need (@inR k (ls).length) (.need e1 (.leaf (Ex.norm, ((nn5 (e4 :: none :: none :: none :: none :: e4 :: e5 :: (some (int (w64 (k + (1 : Int))))) :: (nn12 []))), (@Mem.mk 2 (0 + 1) [(some (@Blk.mk [] 24 (some (@Rw.mk (ls).length 1 (@setc (k).toNat 0 [e3] e6))))), (some boxB)]))))))))) (.leaf ((@Ex.exit 0), ((nn5 (e4 :: none :: none :: none :: none :: e4 :: e5 :: (some (int k)) :: (nn12 []))), (@Mem.mk 2 0 [(some (@Blk.mk [] 24 (some (@Rw.mk (ls).length 1 e6)))), (some boxB)]))))))) (by kernel_rfl) ?_
    refine fork_ok (fun h3 => ?_) (fun h3 => ?_)
    · simp only [Bool.not_eq_true', Bool.not_eq_false', leI_t, leI_f, eqI_t, eqI_f, inR_t, inR_f, isSo_t, isSo_f] at h3
      have hin : inR (k : Int) ls.length = true := by rw [inR_t]; omega
      have hlt : Nat.blt (k : Int).toNat ls.length = true := by rw [Nat.blt_eq]; omega
      refine need_t hin (need_t hlt (need_so ⟨rfl, getD_le ls hs _⟩ (need_t hin (need_t hlt ?_))))
      refine LoopToT.ren [0, 1] rfl (spF_ren _ _ _ (by rw [w64_in (by omega)]; rfl)) (pcM_ren (ls := ls) rfl (by decide) rfl rfl (LRows.set ls (k : Int).toNat fun σ => RenV.free σ (kv_free _))) (ih (k + 1) (by omega) (by omega))
    · simp only [Bool.not_eq_true', Bool.not_eq_false', leI_t, leI_f, eqI_t, eqI_f, inR_t, inR_f, isSo_t, isSo_f] at h3
      have hk : k = ls.length := by omega
      subst hk
      exact ⟨_, _, [0, 1], rfl, spF_ren _ _ _ rfl, pcM_ren (ls := ls) rfl (by decide) rfl rfl hb, rfl, rfl, rfl⟩
noncomputable abbrev lpSpl (ls : List (List TokV)) : Lp Try.prog where
  f := 24
  key := 4
  S := formS (fun _ M => some M.stamp) (fun _ => spF ls.length 0) (fun k => ⟨2, k, [some ⟨[], 24, some ⟨ls.length, 1, lcell ls⟩⟩, some boxB]⟩) (fun _ => ls.length ≤ 1000000 ∧ ∀ x ∈ ls, x.length ≤ 100000) (fun _ => .leaf (.exit 0, spF ls.length ls.length, pcM ls)) (ff5 (true :: false :: false :: false :: false :: true :: true :: true :: (ff12 [])))
  one := by kernel_rfl
  ok := formS_ok fun k ⟨h1, h2⟩ => by
    refine ⟨ls.length + 1, ?_⟩
    have key := LoopToT.out (spl_loop ls h1 h2 (ls.length + 1) 0 (by omega) (by omega))
    have key2 := LoopToT.to (T := 2) key (Nat.le_refl 2)
    exact (LoopTo.stampA 0 key2).mono fun ex F M hg => by
      obtain ⟨rfl, rfl, rfl⟩ := hg
      rfl
end Sy
theorem Sy.split_t (l : List TokV) (h : limC l) : CallTo Try.prog 24 [kv l, int 12] M0 fun v M' => Frz true 0 M' v (.view (pieces comB l).length 1 (lcell (pieces comB l))) :=
  to (G := fun r => Frz true 0 r.2 r.1 (.view (pieces comB l).length 1 (lcell (pieces comB l)))) [] [lpPc l, lpSpl (pieces comB l)] 400 30 .done (let e1 := (@Value.tuple (@Array.mk _ [])); let e2 := (some (@AV.view (l).length 3 (fun y0 => (fun y1 => (@AV.lit ([(@Value.int IntKind.i64 ((l.getD y0 tok0)).kind), (@Value.string ((l.getD y0 tok0)).text), (@Value.int IntKind.i64 ((l.getD y0 tok0)).n)].getD y1 e1)))))); let e3 := (some (@AV.lit (@Value.slice none 0 0))); let e4 := (@AV.own 1 ((@pieces comB l)).length 1); let e5 := (some (int ((((@pieces comB l)).length : Nat) : Int))); let e6 := (@Mem.mk 2 0 [(some (@Blk.mk [] 24 (some (@Rw.mk ((@pieces comB l)).length 1 (fun y0 => (fun y1 => (@AV.view (((@pieces comB l).getD y0 [])).length 3 (fun y2 => (fun y3 => (@AV.lit ([(@Value.int IntKind.i64 ((((@pieces comB l).getD y0 []).getD y2 tok0)).kind), (@Value.string ((((@pieces comB l).getD y0 []).getD y2 tok0)).text), (@Value.int IntKind.i64 ((((@pieces comB l).getD y0 []).getD y2 tok0)).n)].getD y3 e1))))))))))), (some boxB)]); (.need (@isSo (@And ((e2 :: (some (@AV.fn (@Fn.func 42) [] [(@AV.ptr 0 0)])) :: (none :: none :: e3 :: e3 :: (nn20 []))) = (e2 :: (some (@AV.fn (@Fn.func splF) [] [(@AV.ptr 0 0)])) :: none :: none :: e3 :: e3 :: (nn20 []))) ((@Mem.mk 1 0 [(some (@Blk.mk [(int (12 : Int))] 3 none))]) = (@Mem.mk 1 0 [(some boxB)])))) (.need (@isSo ((l).length ≤ 1000000)) (.need (@isSo (@And ((none :: none :: (none :: none :: none :: (some e4) :: none :: none :: none :: none :: (some e4) :: e5 :: (some (int (0 : Int))) :: (nn12 []))) = (nn5 ((some e4) :: none :: none :: none :: none :: (some e4) :: e5 :: (some (int (0 : Int))) :: (nn12 [])))) (e6 = e6))) (.need (@isSo (@And (((@pieces comB l)).length ≤ 1000000) (∀ (x : List TokV), x ∈ pieces comB l → x.length ≤ 100000))) (.leaf (e4, e6))))))) (by kernel_rfl) (by
    unfold limC at h
    have h1 := pieces_num comB _ l (Nat.le_refl _)
    refine need_so ⟨rfl, rfl⟩ (need_so (show l.length ≤ 1000000 by omega) (need_so ⟨rfl, rfl⟩ (need_so ⟨by omega, fun x hx => Nat.le_trans (pieces_le comB l x hx) h⟩ ?_)))
    exact Frz.own (b := 1) (by decide) rfl rfl (Nat.le_refl _) rfl fun i j _ _ => Frz.free _ _ (kv_free _))
abbrev Sy.lview (ls : List (List TokV)) : AV := .view ls.length 1 (lcell ls)
theorem Sy.lview_free (ls : List (List TokV)) : Free (lview ls) := fun i j => kv_free _
theorem Sy.split_v (l : List TokV) (h : limC l) : CallTo Try.prog 24 [kv l, int 12] M0 fun v _ => v = lview (pieces comB l) :=
  CallTo.frz0 (split_t l h) ⟨kv_free l, trivial, trivial⟩ (lview_free _)
noncomputable abbrev Sy.cSplit (l : List TokV) : Con Try.prog := at1 24 [kv l, int 12] (lview (pieces comB l)) (limC l) fun h => ⟨⟨⟨kv_free l, trivial, trivial⟩, lview_free _⟩, split_v l h⟩
end Go.Proofs.Ytconlneohilnmaa
namespace Go.Proofs.Ytconlneohilnmaa
open Go Go.RowKit Pl Sy
set_option linter.unusedVariables false
set_option linter.unusedSimpArgs false
noncomputable abbrev Sy.cTrimW (l : List TokV) : Con Try.prog := at1 25 [kv l] (kv (trim l)) (limC l) fun h => ⟨⟨⟨kv_free l, trivial⟩, kv_free _⟩, trimp_t l h⟩
noncomputable abbrev Sy.cRSel (T : List TokV) : Con Try.prog := conR T 26 (fun r => match r with | [] => some () | _ => none) (fun _ => []) (fun a _ => .tup [.agg [pview (rselV T a).ps], boo ((rselV T a).ret && (rselV T a).r)]) (fun a _ => (rselV T a).a) (fun a _ => InT T a ∧ RdOk T) fun a c h =>
  ⟨⟨trivial, ⟨⟨pview_free _, trivial⟩, trivial, trivial⟩⟩, rsel_t T h.2 a h.1⟩
namespace Sy
abbrev sscell (ss : List (List PartV)) (i j : Nat) : AV := pview (ss.getD i [])
abbrev paM (ss : List (List PartV)) : Mem := ⟨1, 0, [some ⟨[], 43, some ⟨ss.length, 1, sscell ss⟩⟩]⟩
abbrev paF (ls : List (List TokV)) (n : Nat) (k : Int) : Fr := (none :: none :: some ((@AV.lit (@Value.slice none 0 0))) :: some ((int (0 : Int))) :: some (.own 0 n 1) :: (nn6 (some (lview ls) :: some (int ls.length) :: some (int k) :: (nn20 []))))
end Sy
def selOk (x : List TokV) : Bool := (rselV (trim x) 0).ret && (rselV (trim x) 0).r
def selPs (x : List TokV) : List PartV := (rselV (trim x) 0).ps
def ToksOk (l : List TokV) : Prop := ∀ t ∈ l, t.text.size ≤ maxLen
theorem trim_sub {l : List TokV} {t : TokV} (h : t ∈ trim l) : t ∈ l := by
  unfold trim at h
  rw [List.mem_reverse] at h
  have h1 := (List.dropWhile_sublist spB (l := (l.dropWhile spB).reverse)).subset h
  rw [List.mem_reverse] at h1
  exact (List.dropWhile_sublist spB).subset h1
theorem piecesF_mem (p : TokV → Bool) (t : TokV) : ∀ (n : Nat) (l x : List TokV), x ∈ piecesF p n l → t ∈ x → t ∈ l
  | 0, l, x, h, _ => by cases h
  | n + 1, l, x, h, ht => by
    simp only [piecesF, List.mem_cons] at h
    rcases h with rfl | h
    · exact List.mem_of_mem_take ht
    · split at h
      · cases h
      · exact List.mem_of_mem_drop (piecesF_mem p t n _ x h ht)
theorem rdOk_of {x : List TokV} (h : limC x) (hx : ToksOk x) : RdOk (trim x) := by
  have := trim_len x
  unfold limC at h
  refine ⟨by unfold limT; omega, fun i => ?_⟩
  rw [List.getD_eq_getElem?_getD]
  cases hk : (trim x)[i]? with
  | none => exact Nat.zero_le _
  | some t => exact hx t (trim_sub (List.mem_of_getElem? hk))
def PcOk (ls : List (List TokV)) : Prop := ls.length ≤ 1000000 ∧ ∀ x ∈ ls, limC x ∧ ToksOk x
namespace Sy
def SRows (n : Nat) (c : Nat → Nat → AV) (ss : List (List PartV)) : Prop := n = ss.length ∧ ∀ (σ : Nat → Option Nat) i j, i < n → j < 1 → RenV σ (c i j) (sscell ss i j)
theorem SRows.base (ss : List (List PartV)) : SRows ss.length (sscell ss) ss := ⟨rfl, fun σ _ _ _ _ => RenV.free σ (pview_free _)⟩
theorem SRows.app1 {n : Nat} {c c' : Nat → Nat → AV} {ss : List (List PartV)} (x : List PartV) (h : SRows n c ss) (hx : ∀ σ : Nat → Option Nat, RenV σ (c' 0 0) (pview x)) : SRows (n + 1) (appc n c c') (ss ++ [x]) := ⟨by rw [h.1]; simp, fun σ i j hi hj => by
  have hl := h.1
  obtain rfl : j = 0 := by omega
  by_cases hlt : i < n
  · rw [appc_lt hlt]
    have : (ss ++ [x]).getD i [] = ss.getD i [] := by
      simp only [List.getD_eq_getElem?_getD]
      rw [List.getElem?_append_left (by omega)]
    have h3 := h.2 σ i 0 hlt hj
    unfold sscell at h3 ⊢
    rw [this]
    exact h3
  · have e : i = n := by omega
    subst e
    rw [appc_ge (Nat.le_refl _), Nat.sub_self]
    have : (ss ++ [x]).getD i [] = x := by
      simp only [List.getD_eq_getElem?_getD]
      rw [List.getElem?_append_right (by omega), hl, Nat.sub_self]; rfl
    unfold sscell
    rw [this]
    exact hx σ⟩
theorem paM_ren {M : Mem} {l : List Nat} {b n : Nat} {c : Nat → Nat → AV} {ss : List (List PartV)} (hl : l = [b]) (h1 : M.get b = some ⟨[], 43, some ⟨n, 1, c⟩⟩) (e1 : SRows n c ss) : RenM (nm l) M (paM ss) := by
  subst hl
  refine .of rfl rfl (by simp) ⟨⟨b, _, rfl, h1, rfl, trivial, e1.1.symm, rfl, fun i j hi hj => ?_⟩, trivial⟩
  exact e1.2 _ i j (by have := e1.1; change i < ss.length at hi; omega) hj
abbrev paX : Fr := (none :: none :: some ((@AV.lit (@Value.slice none 0 0))) :: some (int 20) :: (nn30 []))
abbrev paN (n : Nat) : Fr := (none :: none :: some ((@AV.lit (@Value.slice none 0 0))) :: some ((int (0 : Int))) :: some (.own 0 n 1) :: (nn29 []))
def PaG (ls : List (List TokV)) (ss : List (List PartV)) (ex : Ex) (F : Fr) (M : Mem) : Prop := (ls.all selOk = true ∧ ex = .exit 0 ∧ F = paN (ss ++ ls.map selPs).length ∧ M = paM (ss ++ ls.map selPs)) ∨ (ls.all selOk = false ∧ ex = .ret ∧ F = paX ∧ M = ⟨0, 0, []⟩)
theorem par_loop (ls : List (List TokV)) (hls : PcOk ls) : ∀ (l pre : List (List TokV)) (ss : List (List PartV)), ls = pre ++ l → ss.length ≤ pre.length →
    LoopToT 0 Try.prog (theBody Try.prog 9 4) (l.length + 1) (paF ls ss.length pre.length) (paM ss) (RG 0 (PaG l ss)) := by
  intro l
  induction l with
  | nil =>
    intro pre ss h hn
    have hb := SRows.base ss
    have hp : ls.length = pre.length := by rw [h]; simp
    refine roundT plain mixed 0 [cTrimW (ls.getD (pre.length : Int).toNat []), cRSel (trim (ls.getD (pre.length : Int).toNat []))] [] 400 30 9 4 Try.func9 rfl (by kernel_rfl) (false :: false :: true :: true :: true :: (ff6 (true :: true :: true :: (ff20 [])))) ((.br (.yes (.yes (.yes (.br .done (.yes .done))))) .done)) (let k : Int := pre.length; (let e1 := (ls.getD (k).toNat []); let e2 := (@Value.tuple (@Array.mk _ [])); let e3 := (@AV.view (e1).length 3 (fun y0 => (fun y1 => (@AV.lit ([(@Value.int IntKind.i64 ((e1.getD y0 tok0)).kind), (@Value.string ((e1.getD y0 tok0)).text), (@Value.int IntKind.i64 ((e1.getD y0 tok0)).n)].getD y1 e2))))); let e4 := (@AV.view ((@trim e1)).length 3 (fun y0 => (fun y1 => (@AV.lit ([(@Value.int IntKind.i64 (((@trim e1).getD y0 tok0)).kind), (@Value.string (((@trim e1).getD y0 tok0)).text), (@Value.int IntKind.i64 (((@trim e1).getD y0 tok0)).n)].getD y1 e2))))); let e5 := (@Value.slice none 0 0); let e6 := (some (@AV.lit e5)); let e7 := (some (@AV.own 0 (ss).length 1)); let e8 := (some (@AV.view (ls).length 1 (fun y0 => (fun y1 => (@AV.view ((ls.getD y0 [])).length 3 (fun y2 => (fun y3 => (@AV.lit ([(@Value.int IntKind.i64 (((ls.getD y0 []).getD y2 tok0)).kind), (@Value.string (((ls.getD y0 []).getD y2 tok0)).text), (@Value.int IntKind.i64 (((ls.getD y0 []).getD y2 tok0)).n)].getD y3 e2))))))))); let e9 := (some (int (((ls).length : Nat) : Int))); let e10 := (@AV.view (((@rselV (@trim e1) (Int.ofNat 0))).ps).length 6 (@pcell ((@rselV (@trim e1) (Int.ofNat 0))).ps)); let e11 := (some (@Blk.mk (e10 :: (@List.drop _ (0 + ([e10]).length) [(@AV.lit e5)])) 43 none)); let e12 := (some (@Blk.mk [e4, (int ((@rselV (@trim e1) (Int.ofNat 0))).a)] 63 none)); let e13 := (fun y0 => (fun y1 => (@AV.view ((ss.getD y0 [])).length 6 (@pcell (ss.getD y0 []))))); let e14 := (some (@Blk.mk [] 43 (some (@Rw.mk (ss).length 1 e13)))); let e15 := ((ss).length + 1); let e16 := (e10 :: (@List.drop _ (0 + ([e10]).length) (@List.map _ _ AV.lit (@Array.toList _ (@Array.mk _ [(@List.get _ (@Array.toList _ (@Array.mk _ [e5])) (@Fin.mk _ 0 (@Nat.le_of_ble_eq_true _ _ (@Eq.refl _ true))))]))))); (.fork (!(leI (((ls).length : Nat) : Int) k)) (.need (@inR k (ls).length) (.need (@isSo (@And ((@HAppend.hAppend _ _ _ _ (@HAppend.hAppend _ _ _ _ [] [e3]) []) = [e3]) ((e1).length ≤ 100000))) (.need (@isSo (@And ((some (@Blk.mk (e4 :: (@List.drop _ (0 + ([e4]).length) (@List.map _ _ AV.lit (@Array.toList _ (@Array.mk _ [e5, (@Value.int IntKind.i64 (0 : Int))]))))) 63 none)) = (some (@Blk.mk [e4, (int (Int.ofNat 0))] 63 none))) (@And (([] : List AV) = []) (@And (@InT (@trim e1) (Int.ofNat 0)) (@RdOk (@trim e1)))))) (.fork (!(((@rselV (@trim e1) (Int.ofNat 0))).ret && ((@rselV (@trim e1) (Int.ofNat 0))).r)) (.leaf (Ex.ret, ((none :: none :: e6 :: (some (int (20 : Int))) :: e7 :: (nn6 (e8 :: e9 :: (some (int k)) :: (nn20 [])))), (@Mem.mk ((1 + 1) + 1) ((0 + 1) + 1) (e11 :: [e12, e14]))))) (.need (Bool.true && ((@Nat.ble (ss).length (ss).length) && ((@Nat.ble (e15 * 24) 140737488355328) && (@Nat.ble e15 17592186044416)))) (.leaf (Ex.norm, ((none :: none :: e6 :: (some (int (0 : Int))) :: (some (@AV.own (((1 + 1) + 1) + 1) e15 1)) :: (nn6 (e8 :: e9 :: (some (int (w64 (k + (1 : Int))))) :: (nn20 [])))), (@Mem.mk ((((1 + 1) + 1) + 1) + 1) (((0 + 1) + 1) + 1) ((some (@Blk.mk [] 43 (some (@Rw.mk e15 1 (@appc (ss).length e13 (fun y0 => (fun y1 => (@getA (@List.take _ 1 e16) ((y0 * 1) + y1))))))))) :: ((some (@Blk.mk e16 43 none)) :: (e11 :: [e12, none])))))))))))) (.leaf ((@Ex.exit 0), ((none :: none :: e6 :: (some (int (0 : Int))) :: e7 :: (nn6 (e8 :: e9 :: (some (int k)) :: (nn20 [])))), (@Mem.mk 1 0 [e14]))))))) (by kernel_rfl) ?_
    refine fork_ok (fun h3 => ?_) (fun h3 => ?_)
    · simp only [Bool.not_eq_true', Bool.not_eq_false', leI_t, leI_f, eqI_t, eqI_f, inR_t, inR_f, isSo_t, isSo_f] at h3
      omega
    · refine ⟨paN ss.length, paM ss, [0], rfl, ?_, paM_ren rfl rfl hb, .inl ⟨rfl, rfl, by simp, by simp⟩⟩
      simp [RenF, RenV, RenVs, nm]
  | cons x l ih =>
    intro pre ss h hn
    have hb := SRows.base ss
    have hp : ls.length = pre.length + l.length + 1 := by rw [h]; simp; omega
    have hg : ls.getD (pre.length : Int).toNat [] = x := by rw [h]; exact getD_at _ _ _ _ _ rfl
    have hx := hls.2 x (by rw [h]; simp)
    have hln := hls.1
    refine roundT plain mixed 0 [cTrimW (ls.getD (pre.length : Int).toNat []), cRSel (trim (ls.getD (pre.length : Int).toNat []))] [] 400 30 9 4 Try.func9 rfl (by kernel_rfl) (false :: false :: true :: true :: true :: (ff6 (true :: true :: true :: (ff20 [])))) ((.br (.yes (.yes (.yes (.br .done (.yes .done))))) .done)) (let k : Int := pre.length; (let e1 := (ls.getD (k).toNat []); let e2 := (@Value.tuple (@Array.mk _ [])); let e3 := (@AV.view (e1).length 3 (fun y0 => (fun y1 => (@AV.lit ([(@Value.int IntKind.i64 ((e1.getD y0 tok0)).kind), (@Value.string ((e1.getD y0 tok0)).text), (@Value.int IntKind.i64 ((e1.getD y0 tok0)).n)].getD y1 e2))))); let e4 := (@AV.view ((@trim e1)).length 3 (fun y0 => (fun y1 => (@AV.lit ([(@Value.int IntKind.i64 (((@trim e1).getD y0 tok0)).kind), (@Value.string (((@trim e1).getD y0 tok0)).text), (@Value.int IntKind.i64 (((@trim e1).getD y0 tok0)).n)].getD y1 e2))))); let e5 := (@Value.slice none 0 0); let e6 := (some (@AV.lit e5)); let e7 := (some (@AV.own 0 (ss).length 1)); let e8 := (some (@AV.view (ls).length 1 (fun y0 => (fun y1 => (@AV.view ((ls.getD y0 [])).length 3 (fun y2 => (fun y3 => (@AV.lit ([(@Value.int IntKind.i64 (((ls.getD y0 []).getD y2 tok0)).kind), (@Value.string (((ls.getD y0 []).getD y2 tok0)).text), (@Value.int IntKind.i64 (((ls.getD y0 []).getD y2 tok0)).n)].getD y3 e2))))))))); let e9 := (some (int (((ls).length : Nat) : Int))); let e10 := (@AV.view (((@rselV (@trim e1) (Int.ofNat 0))).ps).length 6 (@pcell ((@rselV (@trim e1) (Int.ofNat 0))).ps)); let e11 := (some (@Blk.mk (e10 :: (@List.drop _ (0 + ([e10]).length) [(@AV.lit e5)])) 43 none)); let e12 := (some (@Blk.mk [e4, (int ((@rselV (@trim e1) (Int.ofNat 0))).a)] 63 none)); let e13 := (fun y0 => (fun y1 => (@AV.view ((ss.getD y0 [])).length 6 (@pcell (ss.getD y0 []))))); let e14 := (some (@Blk.mk [] 43 (some (@Rw.mk (ss).length 1 e13)))); let e15 := ((ss).length + 1); let e16 := (e10 :: (@List.drop _ (0 + ([e10]).length) (@List.map _ _ AV.lit (@Array.toList _ (@Array.mk _ [(@List.get _ (@Array.toList _ (@Array.mk _ [e5])) (@Fin.mk _ 0 (@Nat.le_of_ble_eq_true _ _ (@Eq.refl _ true))))]))))); (.fork (!(leI (((ls).length : Nat) : Int) k)) (.need (@inR k (ls).length) (.need (@isSo (@And ((@HAppend.hAppend _ _ _ _ (@HAppend.hAppend _ _ _ _ [] [e3]) []) = [e3]) ((e1).length ≤ 100000))) (.need (@isSo (@And ((some (@Blk.mk (e4 :: (@List.drop _ (0 + ([e4]).length) (@List.map _ _ AV.lit (@Array.toList _ (@Array.mk _ [e5, (@Value.int IntKind.i64 (0 : Int))]))))) 63 none)) = (some (@Blk.mk [e4, (int (Int.ofNat 0))] 63 none))) (@And (([] : List AV) = []) (@And (@InT (@trim e1) (Int.ofNat 0)) (@RdOk (@trim e1)))))) (.fork (!(((@rselV (@trim e1) (Int.ofNat 0))).ret && ((@rselV (@trim e1) (Int.ofNat 0))).r)) (.leaf (Ex.ret, ((none :: none :: e6 :: (some (int (20 : Int))) :: e7 :: (nn6 (e8 :: e9 :: (some (int k)) :: (nn20 [])))), (@Mem.mk ((1 + 1) + 1) ((0 + 1) + 1) (e11 :: [e12, e14]))))) (.need (Bool.true && ((@Nat.ble (ss).length (ss).length) && ((@Nat.ble (e15 * 24) 140737488355328) && (@Nat.ble e15 17592186044416)))) (.leaf (Ex.norm, ((none :: none :: e6 :: (some (int (0 : Int))) :: (some (@AV.own (((1 + 1) + 1) + 1) e15 1)) :: (nn6 (e8 :: e9 :: (some (int (w64 (k + (1 : Int))))) :: (nn20 [])))), (@Mem.mk ((((1 + 1) + 1) + 1) + 1) (((0 + 1) + 1) + 1) ((some (@Blk.mk [] 43 (some (@Rw.mk e15 1 (@appc (ss).length e13 (fun y0 => (fun y1 => (@getA (@List.take _ 1 e16) ((y0 * 1) + y1))))))))) :: ((some (@Blk.mk e16 43 none)) :: (e11 :: [e12, none])))))))))))) (.leaf ((@Ex.exit 0), ((none :: none :: e6 :: (some (int (0 : Int))) :: e7 :: (nn6 (e8 :: e9 :: (some (int k)) :: (nn20 [])))), (@Mem.mk 1 0 [e14]))))))) (by kernel_rfl) ?_
    refine fork_ok (fun h3 => ?_) (fun h3 => ?_)
    · have hin : inR (pre.length : Int) ls.length = true := by rw [inR_t]; omega
      refine need_t hin (need_so ⟨rfl, by rw [hg]; exact hx.1⟩ (need_so ⟨rfl, rfl, ?_, ?_⟩ (fork_ok (fun h4 => ?_) (fun h4 => need_t (room3 (by omega) (by decide)) ?_))))
      · have hr : RdOk (trim x) := rdOk_of hx.1 hx.2
        have hrl := hr.1
        unfold limT at hrl
        rw [hg]
        exact ⟨⟨by decide, by show (0 : Int) ≤ _; omega⟩, by unfold lim; omega⟩
      · rw [hg]; exact rdOk_of hx.1 hx.2
      · rw [hg] at h4
        have e : selOk x = false := nb h4
        refine ⟨paX, ⟨0, 0, []⟩, [], rfl, ?_, .of rfl rfl (by simp) trivial, .inr ⟨by simp [e], rfl, rfl, rfl⟩⟩
        simp [RenF, RenV, RenVs, nm]
      · rw [hg] at h4
        have e : selOk x = true := nc h4
        have key := ih (pre ++ [x]) (ss ++ [selPs x]) (by rw [h]; simp) (by simp; omega)
        have key2 : LoopToT 0 Try.prog (theBody Try.prog 9 4) (l.length + 1) (paF ls (ss ++ [selPs x]).length (pre ++ [x]).length) (paM (ss ++ [selPs x])) (RG 0 (PaG (x :: l) ss)) := key.mono fun ex F M ⟨F2, M2, q, q1, q2, q3, q4⟩ => ⟨F2, M2, q, q1, q2, q3, by
          rcases q4 with ⟨r1, r2, r3, r4⟩ | ⟨r1, r2, r3, r4⟩
          · exact .inl ⟨by rw [List.all_cons, e, r1]; rfl, r2, by rw [r3]; simp, by rw [r4]; simp⟩
          · exact .inr ⟨by rw [List.all_cons, e, r1]; rfl, r2, r3, r4⟩⟩
        refine LoopToT.ren [4] rfl ?_ (paM_ren (ss := ss ++ [selPs x]) rfl rfl (hb.app1 _ fun σ => ?_)) key2
        · simp only [RenF, and_true]
          refine ⟨rfl, rfl, ⟨rfl, by simp, rfl⟩, RenV.free _ (lview_free ls), rfl, ?_⟩
          rw [w64_in (by omega), show ((pre ++ [x]).length : Int) = (pre.length : Int) + 1 by simp]
          exact rfl
        · rw [show selPs x = (rselV (trim (ls.getD (pre.length : Int).toNat [])) 0).ps by rw [hg]; rfl]
          exact RenV.free σ (pview_free _)
    · simp only [Bool.not_eq_true', Bool.not_eq_false', leI_t, leI_f, eqI_t, eqI_f, inR_t, inR_f, isSo_t, isSo_f] at h3
      omega
abbrev pa0F (ls : List (List TokV)) : Fr := (none :: none :: some ((@AV.lit (@Value.slice none 0 0))) :: some ((int (0 : Int))) :: some ((@AV.lit (@Value.slice none 0 0))) :: (nn6 (some (lview ls) :: some (int ls.length) :: some (int 0) :: (nn20 []))))
theorem pa_nil {P : Program} {body : Code} {n : Nat} {G : Ex → Fr → Mem → Prop} (ls : List (List TokV)) (k : Nat) (h : LoopToT 0 P body n (paF ls 0 0) (paM []) G) : LoopTo P body n (pa0F ls) ⟨0, k, []⟩ G := by
  refine LoopToT.to (T := 0) ?_ (Nat.le_refl _)
  refine LoopToT.nil 4 43 1 (sscell []) (Nat.le_refl _) rfl ?_
  exact LoopToT.stamp 0 h
noncomputable abbrev lpPar (ls : List (List TokV)) : Lp Try.prog where
  f := 9
  key := 4
  S := formS (fun _ M => some M.stamp) (fun _ => pa0F ls) (fun k => ⟨0, k, []⟩) (fun _ => PcOk ls) (fun _ => .fork (ls.all selOk) (.leaf (.exit 0, paN (ls.map selPs).length, paM (ls.map selPs))) (.leaf (.ret, paX, ⟨0, 0, []⟩))) (false :: false :: true :: true :: true :: (ff6 (true :: true :: true :: (ff20 []))))
  one := by kernel_rfl
  ok := formS_ok fun k h1 => by
    refine ⟨ls.length + 1, ?_⟩
    have key := LoopToT.out (par_loop ls h1 ls [] [] rfl (Nat.le_refl _))
    refine (pa_nil ls k key).mono fun ex F M hg => ?_
    rcases hg with ⟨r1, rfl, rfl, rfl⟩ | ⟨r1, rfl, rfl, rfl⟩
    · exact .inl ⟨r1, rfl⟩
    · exact .inr ⟨r1, rfl⟩
end Sy
def parseV (l : List TokV) : List (List PartV) := if (pieces comB l).all selOk = true then (pieces comB l).map selPs else []
def parseE (l : List TokV) : Int := if (pieces comB l).all selOk = true then 0 else 20
theorem pcOk_of {l : List TokV} (h : limC l) (hx : ToksOk l) : PcOk (pieces comB l) := by
  have h1 := pieces_num comB _ l (Nat.le_refl _)
  unfold limC at h
  refine ⟨by omega, fun x hxm => ⟨?_, fun t ht => hx t (piecesF_mem comB t _ l x hxm ht)⟩⟩
  have := pieces_le comB l x hxm
  unfold limC
  omega
theorem Sy.parse_f (l : List TokV) (h : limC l) (hx : ToksOk l) : CallTo Try.prog 9 [kv l] M0 fun v M' => Frz true 0 M' v (.tup [sview (parseV l), int (parseE l)]) :=
  to (G := fun r => Frz true 0 r.2 r.1 (.tup [sview (parseV l), int (parseE l)])) [cSplit l] [lpPar (pieces comB l)] 400 30 (.yes (.br .done .done)) (let e1 := (@Value.tuple (@Array.mk _ [])); let e2 := (@AV.view (l).length 3 (fun y0 => (fun y1 => (@AV.lit ([(@Value.int IntKind.i64 ((l.getD y0 tok0)).kind), (@Value.string ((l.getD y0 tok0)).text), (@Value.int IntKind.i64 ((l.getD y0 tok0)).n)].getD y1 e1))))); let e3 := (@AV.lit (@Value.slice none 0 0)); let e4 := (some (int (0 : Int))); let e5 := (@pieces comB l); let e6 := (some (@AV.view (e5).length 1 (fun y0 => (fun y1 => (@AV.view ((e5.getD y0 [])).length 3 (fun y2 => (fun y3 => (@AV.lit ([(@Value.int IntKind.i64 (((e5.getD y0 []).getD y2 tok0)).kind), (@Value.string (((e5.getD y0 []).getD y2 tok0)).text), (@Value.int IntKind.i64 (((e5.getD y0 []).getD y2 tok0)).n)].getD y3 e1))))))))); let e7 := (some (int (((e5).length : Nat) : Int))); (.need (@isSo (@And ((@HAppend.hAppend _ _ _ _ (@HAppend.hAppend _ _ _ _ [] [e2, (int (12 : Int))]) []) = [e2, (int (12 : Int))]) ((l).length ≤ 100000))) (.need (@isSo (@And ((none :: (none :: (some e3) :: e4 :: (some e3) :: (nn6 (e6 :: e7 :: e4 :: (nn20 []))))) = (none :: none :: (some e3) :: e4 :: (some e3) :: (nn6 (e6 :: e7 :: e4 :: (nn20 []))))) ((@Mem.mk 0 0 []) = (@Mem.mk 0 0 [])))) (.need (@isSo (@PcOk e5)) (.fork (@List.all _ e5 selOk) (.leaf ((@AV.tup [(@AV.own 0 ((@List.map _ _ selPs e5)).length 1), (int (0 : Int))]), (@Mem.mk 1 0 [(some (@Blk.mk [] 43 (some (@Rw.mk ((@List.map _ _ selPs e5)).length 1 (fun y0 => (fun y1 => (@AV.view (((@List.map _ _ selPs e5).getD y0 [])).length 6 (@pcell ((@List.map _ _ selPs e5).getD y0 [])))))))))]))) (.leaf ((@AV.tup [e3, (int (20 : Int))]), (@Mem.mk 0 0 [])))))))) (by kernel_rfl) (by
    refine need_so ⟨rfl, h⟩ (need_so ⟨rfl, rfl⟩ (need_so (pcOk_of h hx) (fork_ok (fun h1 => ?_) (fun h1 => ?_))))
    · unfold parseV parseE
      rw [if_pos h1, if_pos h1]
      exact Frz.tup ⟨Frz.own (b := 0) (by decide) rfl rfl (Nat.le_refl _) rfl fun i j _ _ => Frz.free _ _ (pview_free _), Frz.lit _ _ _ _, trivial⟩
    · unfold parseV parseE
      rw [if_neg (nt h1), if_neg (nt h1)]
      exact Frz.tup ⟨Frz.nil _ _ _ _ _, Frz.lit _ _ _ _, trivial⟩)
theorem Sy.parse_v (l : List TokV) (h : limC l) (hx : ToksOk l) : CallTo Try.prog 9 [kv l] M0 fun v _ => v = .tup [sview (parseV l), int (parseE l)] :=
  CallTo.frz0 (parse_f l h hx) ⟨kv_free l, trivial⟩ ⟨sview_free _, trivial, trivial⟩
end Go.Proofs.Ytconlneohilnmaa
namespace Go.Proofs.Ytconlneohilnmaa
open Go Go.RowKit Pl Sy
set_option linter.unusedVariables false
set_option linter.unusedSimpArgs false
theorem Sy.WR.giveO {w0 : World} {ρ : Rho} {M : Mem} {w : World} (h : WR w0 ρ M w) {b n s : Nat} {B : Blk} {R : Rw} {u : Value} (hb : M.get b = some B) (hR : B.rows = some R) (hn : n ≤ R.n) (hs : R.s = s) (hr : rel ρ (.own b n s) u) {cell : Nat → Nat → AV} (hc : ∀ i j, i < n → j < s → Sub (R.cell i j) (cell i j)) :
    ∃ ρ', Ext ρ ρ' ∧ WR w0 ρ' (M.put b none) w ∧ rel ρ' (.view n s cell) u := by
  have hr' := hr
  simp only [rel] at hr'
  rcases hr' with ⟨_, rfl, rfl⟩ | ⟨g, tot, cap, hg, rfl, h1, h2, h3⟩
  · refine ⟨ρ, Ext.refl ρ, h.die (Mem.get_lt hb), ?_⟩
    simp only [rel]
    exact ⟨none, 0, rfl, Nat.le_refl _, by unfold maxLen; omega, fun _ => rfl, fun h => by omega⟩
  · obtain ⟨cur, q1, q2, q3, q4, q5⟩ := h.freeze hb hg
    refine ⟨_, q4, q5, ?_⟩
    simp only [rel]
    refine ⟨_, cap, rfl, h1, h2, (fun h => by cases h), fun _ => ⟨g, 0, rfl, fun i j hi hj => ?_⟩⟩
    obtain ⟨x, r1, r2, r3⟩ := q3.2 R hR i j (by omega) (by omega)
    refine ⟨x, ?_, hc i j hi hj _ _ (r2.ext q4), r3⟩
    show (quiet ρ g cur).still g _ = _
    simp only [quiet, if_true]
    rw [Nat.zero_add, ← hs]; exact r1
theorem Sy.CallTo.give {P : Program} {f : FuncId} {args args' : List AV} {G : AV → Prop} {b : Nat} {M : Mem} (h : CallTo P f args' ⟨0, 0, []⟩ fun v _ => Free v ∧ G v) (hf : Frees args')
    (hs : ∀ w0 ρ w us, WR w0 ρ M w → rels ρ args us → ∃ ρ', Ext ρ ρ' ∧ WR w0 ρ' (M.put b none) w ∧ rels ρ' args' us) : CallTo P f args M fun v M' => M' = M.put b none ∧ G v := fun w0 ρ us w hr hW => by
  obtain ⟨ρ', q1, q2, q3⟩ := hs w0 ρ w us hW hr
  refine (h.frame hf (M.put b none) w0 ρ' us w q3 q2).mono ?_
  rintro e w' ⟨ρ2, u, v, M', r1, r2, r3, r4, r5, r6⟩
  exact ⟨ρ2, u, v, M', r1, q1.trans r2, r3, r4, r5, r6⟩
theorem Sy.CallTo.sub {P : Program} {f : FuncId} {args args' : List AV} {G : AV → Mem → Prop} {M : Mem} (h : CallTo P f args' M G) (hs : ∀ ρ us, rels ρ args us → rels ρ args' us) : CallTo P f args M G := fun w0 ρ us w hr hW => h w0 ρ us w (hs ρ us hr) hW
def intA : AV → Int
  | .lit (.int _ k) => k
  | _ => 0
def strA : AV → ByteArray
  | .lit (.string s) => s
  | _ => ⟨#[]⟩
def toksOf (n : Nat) (c : Nat → Nat → AV) : List TokV := (List.range n).map fun i => ⟨intA (c i 0), strA (c i 1), intA (c i 2)⟩
theorem toksOf_is {n : Nat} {c : Nat → Nat → AV} {L : List TokV} (h : CellIs n c L) : toksOf n c = L := by
  obtain ⟨h1, h2⟩ := h
  unfold toksOf
  refine List.ext_getElem (by simp [h1]) fun i q1 q2 => ?_
  simp only [List.getElem_map, List.getElem_range]
  have hi : i < n := by omega
  rw [h2 i 0 hi (by decide), h2 i 1 hi (by decide), h2 i 2 hi (by decide)]
  have e : L.getD i tok0 = L[i] := by rw [List.getD_eq_getElem?_getD, List.getElem?_eq_getElem q2]; rfl
  show (⟨(L.getD i tok0).kind, (L.getD i tok0).text, (L.getD i tok0).n⟩ : TokV) = _
  rw [e]
namespace Sy
structure GX where
  b : Option Nat
  n : Nat
  m : Nat
  c : Nat → Nat → AV
def gGet3 (b n : Nat) : Option Blk → Option GX
  | some ⟨_, _, some R⟩ => match Nat.beq R.s 3 with
    | true => some ⟨some b, n, R.n, R.cell⟩
    | false => none
  | _ => none
noncomputable def gGet (M : Mem) : AV → Option GX
  | .view n s c => match Nat.beq s 3 with
    | true => some ⟨none, n, n, c⟩
    | false => none
  | .own b n s => match Nat.beq s 3 with
    | true => gGet3 b n (M.get b)
    | false => none
  | _ => none
noncomputable def gMem (M : Mem) : Option Nat → Mem
  | none => M
  | some b => M.put b none
end Sy
theorem gGet_ok {M : Mem} {v : AV} {x : GX} (h : gGet M v = some x) : (x.b = none ∧ v = .view x.n 3 x.c) ∨ ∃ b B R, x.b = some b ∧ v = .own b x.n 3 ∧ M.get b = some B ∧ B.rows = some R ∧ R.s = 3 ∧ x.m = R.n ∧ x.c = R.cell := by
  unfold gGet at h
  split at h
  · rename_i n s c
    split at h
    · rename_i hs
      have hs := Nat.eq_of_beq_eq_true hs
      subst hs
      simp at h
      subst h
      exact .inl ⟨rfl, rfl⟩
    · cases h
  · rename_i b n s
    split at h
    · rename_i hs
      have hs := Nat.eq_of_beq_eq_true hs
      subst hs
      cases hg : M.get b with
      | none => rw [hg] at h; cases h
      | some B =>
        rw [hg] at h
        unfold gGet3 at h
        split at h
        · rename_i cs e R heq
          simp at heq
          subst heq
          split at h
          · rename_i hb
            have h1 := Nat.eq_of_beq_eq_true hb
            simp at h
            subst h
            exact .inr ⟨b, _, R, rfl, rfl, hg, rfl, h1, rfl, rfl⟩
          · cases h
        · cases h
    · cases h
  · cases h
noncomputable def Sy.conG (f : FuncId) (v0 : List TokV → AV) (C : List TokV → Prop) (h : ∀ L, C L → Free (v0 L) ∧ CallTo Try.prog f [kv L] M0 fun v _ => v = v0 L) : Con Try.prog where
  f := f
  run := fun args M => match args with
    | [v] => (match gGet M v with | some x => some (v0 (toksOf x.n x.c), gMem M x.b) | none => none)
    | _ => none
  ob := fun args M => match args with
    | [v] => (match gGet M v with | some x => some (isSo (x.n ≤ x.m ∧ TokRows x.n x.c ∧ C (toksOf x.n x.c))) | none => none)
    | _ => none
  ok := fun args M v M' hr hob => by
    match args, hr, hob with
    | [a], hr, hob =>
      have hr : (match gGet M a with | some x => some (v0 (toksOf x.n x.c), gMem M x.b) | none => none) = some (v, M') := hr
      have hob : owed (match gGet M a with | some x => some (isSo (x.n ≤ x.m ∧ TokRows x.n x.c ∧ C (toksOf x.n x.c))) | none => none) := hob
      cases hg : gGet M a with
      | none => rw [hg] at hr; cases hr
      | some x =>
        rw [hg] at hr hob
        simp at hr
        obtain ⟨rfl, rfl⟩ := hr
        have h1 := hob _ rfl
        rw [isSo_t] at h1
        obtain ⟨hm, ⟨L, hL⟩, hC⟩ := h1
        rw [toksOf_is hL] at hC ⊢
        obtain ⟨q1, q2⟩ := h L hC
        rcases gGet_ok hg with ⟨e1, e2⟩ | ⟨b, B, R, e1, e2, e3, e4, e5, e6, e7⟩
        · rw [e1, e2]
          refine ⟨Grow.refl _, ?_⟩
          have k := ((q2.mono fun v _ e => (⟨e ▸ q1, e⟩ : Free v ∧ v = v0 L)).frame ⟨kv_free L, trivial⟩ M).mono fun v' M' (hx : M' = M ∧ v' = v0 L) => (⟨hx.2, hx.1⟩ : v' = v0 L ∧ M' = M)
          refine k.sub fun ρ us hr => ?_
          simp only [rels] at hr ⊢
          obtain ⟨u, us', r1, r2, r3⟩ := hr
          refine ⟨u, us', r1, ?_, r3⟩
          simp only [rel] at r2 ⊢
          obtain ⟨o1, o2, o3, o4, o5, o6, o7⟩ := r2
          refine ⟨o1, o2, by rw [← hL.1]; exact o3, by rw [← hL.1]; exact o4, o5, o6, fun hn => ?_⟩
          obtain ⟨g, o, s1, s2⟩ := o7 (by rw [hL.1]; exact hn)
          refine ⟨g, o, s1, fun i j hi hj => ?_⟩
          obtain ⟨y, t1, t2, t3⟩ := s2 i j (by rw [hL.1]; exact hi) hj
          refine ⟨y, t1, ?_, t3⟩
          rw [hL.2 i j (by rw [hL.1]; exact hi) hj] at t2
          exact t2
        · rw [e1, e2]
          refine ⟨Grow.put M b none, ?_⟩
          refine (CallTo.give (b := b) (q2.mono fun v _ e => (⟨e ▸ q1, e⟩ : Free v ∧ v = v0 L)) ⟨kv_free L, trivial⟩ fun w0 ρ w us hW hr => ?_).mono fun v' M' hx => ⟨hx.2, hx.1⟩
          simp only [rels] at hr
          obtain ⟨u, us', r1, r2, r3⟩ := hr
          obtain ⟨ρ', z1, z2, z3⟩ := WR.giveO hW e3 e4 (by omega) e5 r2 (cell := kcell L) (fun i j hi hj => Sub.of_eq (by rw [← e7]; exact hL.2 i j hi hj))
          refine ⟨ρ', z1, z2, ?_⟩
          simp only [rels]
          refine ⟨u, us', r1, ?_, r3⟩
          have e : kv L = .view L.length 3 (kcell L) := rfl
          rw [e, ← hL.1]
          exact z3
end Go.Proofs.Ytconlneohilnmaa
namespace Go.Proofs.Ytconlneohilnmaa
open Go Go.RowKit Pl Sy
set_option linter.unusedVariables false
set_option linter.unusedSimpArgs false
namespace Sy
end Sy
namespace Sy
end Sy
theorem anyN_iff (g : Nat → Bool) (n : Nat) : anyN g n = true ↔ ∃ k, k < n ∧ g k = true := by
  unfold anyN
  rw [List.any_eq_true]
  simp
theorem anyN_no (g : Nat → Bool) (n : Nat) : anyN g n = false ↔ ∀ k, k < n → g k = false := by
  rw [← Bool.not_eq_true, anyN_iff]
  constructor
  · intro h k hk
    cases hg : g k with
    | false => rfl
    | true => exact absurd ⟨k, hk, hg⟩ h
  · rintro h ⟨k, hk, hg⟩
    rw [h k hk] at hg; cases hg
end Go.Proofs.Ytconlneohilnmaa
namespace Go.Proofs.Ytconlneohilnmaa
open Go Go.RowKit Pl Sy
set_option linter.unusedVariables false
set_option linter.unusedSimpArgs false
def brB (t : TokV) : Bool := eqI t.kind 15 || eqI t.kind 16
def brP (L : List TokV) (k : Nat) : Nat := hops (fun j => brB (L.getD j tok0)) (fun j => j + 1) L.length k
def shutB (L : List TokV) : Bool := !leI L.length (brP L 1) && !eqI (L.getD (brP L 1) tok0).kind 15
namespace Sy
abbrev shF (L : List TokV) (k : Int) : Fr := [some ((@AV.view (L).length 3 (fun x106325 => (fun x237922 => (@AV.lit ([(@Value.int IntKind.i64 ((L.getD x106325 tok0)).kind), (@Value.string ((L.getD x106325 tok0)).text), (@Value.int IntKind.i64 ((L.getD x106325 tok0)).n)].getD x237922 (@Value.tuple (@Array.mk _ [])))))))), none, some ((boo false)), some (int k), none, none, none, none, none, none, none, none, none, none, none, none, none, none, none, none, none, none]
end Sy
theorem brP_step (L : List TokV) (k : Nat) : brP L k = if k < L.length ∧ brB (L.getD k tok0) = false then brP L (k + 1) else k := by
  unfold brP
  rw [hops_step (fun k _ => Nat.lt_succ_self k)]
namespace Sy
abbrev shE (L : List TokV) (b : Bool) (k : Int) : Fr := [some ((@AV.view (L).length 3 (fun x106325 => (fun x237922 => (@AV.lit ([(@Value.int IntKind.i64 ((L.getD x106325 tok0)).kind), (@Value.string ((L.getD x106325 tok0)).text), (@Value.int IntKind.i64 ((L.getD x106325 tok0)).n)].getD x237922 (@Value.tuple (@Array.mk _ [])))))))), none, some (boo b), some (int k), none, none, none, none, none, none, none, none, none, none, none, none, none, none, none, none, none, none]
end Sy
theorem Sy.sh_scan (L : List TokV) (hL : lim L) : ∀ (n k : Nat), L.length - k ≤ n → k ≤ L.length + 1 → LoopTo Try.prog (theBody Try.prog 32 3) (n + 1) (shF L k) M0 fun ex F' M' => M' = M0 ∧ ((leI L.length (brP L k) = true ∧ ex = .exit 0 ∧ ∃ q, F' = shE L false q) ∨ (leI L.length (brP L k) = false ∧ ex = .ret ∧ ∃ q, F' = shE L (!eqI (L.getD (brP L k) tok0).kind 15) q)) := by
  unfold lim at hL
  have step : ∀ (κ n : Nat) (G : Ex → Fr → Mem → Prop), (κ < L.length → brB (L.getD κ tok0) = true → ∀ b, b = (!eqI (L.getD κ tok0).kind 15) → G .ret (shE L b κ) M0) → (κ < L.length → brB (L.getD κ tok0) = false → LoopTo Try.prog (theBody Try.prog 32 3) n (shF L (κ + 1 : Nat)) M0 G) → (L.length ≤ κ → G (.exit 0) (shE L false κ) M0) → LoopTo Try.prog (theBody Try.prog 32 3) (n + 1) (shF L κ) M0 G := fun κ n G c1 c2 c3 => by
    have hg : L.getD ((κ : Int)).toNat tok0 = L.getD κ tok0 := rfl
    rw [← hg] at c1 c2
    generalize hk : (κ : Int) = k at *
    refine roundL [] [] 400 30 32 3 Try.func32 rfl (by kernel_rfl) [true, false, true, true, false, false, false, false, false, false, false, false, false, false, false, false, false, false, false, false, false, false] (.br (.yes (.br .done (.yes (.br .done .done)))) .done) (.fork (!(leI (((L).length : Nat) : Int) k)) (.need (@inR k (L).length) (.fork (eqI ((L.getD (k).toNat tok0)).kind (15 : Int)) (.leaf (Ex.ret, ([(some (@AV.view (L).length 3 (fun x11852 => (fun x514740 => (@AV.lit ([(@Value.int IntKind.i64 ((L.getD x11852 tok0)).kind), (@Value.string ((L.getD x11852 tok0)).text), (@Value.int IntKind.i64 ((L.getD x11852 tok0)).n)].getD x514740 (@Value.tuple (@Array.mk _ [])))))))), none, (some (boo false)), (some (int k)), none, none, none, none, none, none, none, none, none, none, none, none, none, none, none, none, none, none], (@Mem.mk 0 0 [])))) (.need (@inR k (L).length) (.fork (eqI ((L.getD (k).toNat tok0)).kind (16 : Int)) (.leaf (Ex.ret, ([(some (@AV.view (L).length 3 (fun x436698 => (fun x273521 => (@AV.lit ([(@Value.int IntKind.i64 ((L.getD x436698 tok0)).kind), (@Value.string ((L.getD x436698 tok0)).text), (@Value.int IntKind.i64 ((L.getD x436698 tok0)).n)].getD x273521 (@Value.tuple (@Array.mk _ [])))))))), none, (some (boo true)), (some (int k)), none, none, none, none, none, none, none, none, none, none, none, none, none, none, none, none, none, none], (@Mem.mk 0 0 [])))) (.leaf (Ex.norm, ([(some (@AV.view (L).length 3 (fun x494447 => (fun x857934 => (@AV.lit ([(@Value.int IntKind.i64 ((L.getD x494447 tok0)).kind), (@Value.string ((L.getD x494447 tok0)).text), (@Value.int IntKind.i64 ((L.getD x494447 tok0)).n)].getD x857934 (@Value.tuple (@Array.mk _ [])))))))), none, (some (boo false)), (some (int (w64 (k + (1 : Int))))), none, none, none, none, none, none, none, none, none, none, none, none, none, none, none, none, none, none], (@Mem.mk 0 0 [])))))))) (.leaf ((@Ex.exit 0), ([(some (@AV.view (L).length 3 (fun x470400 => (fun x980347 => (@AV.lit ([(@Value.int IntKind.i64 ((L.getD x470400 tok0)).kind), (@Value.string ((L.getD x470400 tok0)).text), (@Value.int IntKind.i64 ((L.getD x470400 tok0)).n)].getD x980347 (@Value.tuple (@Array.mk _ [])))))))), none, (some (boo false)), (some (int k)), none, none, none, none, none, none, none, none, none, none, none, none, none, none, none, none, none, none], (@Mem.mk 0 0 []))))) (by kernel_rfl) ?_
    unfold brB at c1 c2
    refine fork_ok (fun h => ?_) (fun h => ?_)
    · simp only [Bool.not_eq_true', Bool.not_eq_false', leI_t, leI_f, eqI_t, eqI_f, inR_t, inR_f, isSo_t, isSo_f] at h
      have hr : inR k L.length = true := by rw [inR_t]; omega
      refine need_t hr (fork_ok (fun u => ?_) (fun u => need_t hr (fork_ok (fun v => ?_) (fun v => ?_))))
      · exact c1 (by omega) (by rw [u]; rfl) false (by rw [u]; rfl)
      · exact c1 (by omega) (by rw [u, v]; rfl) true (by rw [u]; rfl)
      · have := c2 (by omega) (by rw [u, v]; rfl)
        rw [w64_in (r := k + 1) (by omega), show k + 1 = ((κ + 1 : Nat) : Int) by omega]
        exact this
    · simp only [Bool.not_eq_true', Bool.not_eq_false', leI_t, leI_f, eqI_t, eqI_f, inR_t, inR_f, isSo_t, isSo_f] at h
      exact c3 (by omega)
  intro n
  induction n with
  | zero =>
    intro k h1 h2
    refine step k 0 _ (fun h => absurd h (by omega)) (fun h => absurd h (by omega)) (fun h => ⟨rfl, .inl ⟨?_, rfl, _, rfl⟩⟩)
    rw [brP_step, if_neg (fun x => by omega), leI_t]
    omega
  | succ n ih =>
    intro k h1 h2
    refine step k (n + 1) _ (fun q1 q2 b hb => ⟨rfl, .inr ?_⟩) (fun q1 q2 => ?_) (fun h => ⟨rfl, .inl ⟨?_, rfl, _, rfl⟩⟩)
    · rw [brP_step, if_neg (fun x => by rw [q2] at x; exact absurd x.2 (by simp))]
      exact ⟨by rw [leI_f]; omega, rfl, _, by rw [hb]⟩
    · rw [brP_step, if_pos ⟨q1, q2⟩]
      exact ih (k + 1) (by omega) (by omega)
    · rw [brP_step, if_neg (fun x => by omega), leI_t]
      omega
namespace Sy
noncomputable abbrev lp_shu (L : List TokV) : Lp Try.prog where
  f := 32
  key := 3
  S := formS (fun F M => some ()) (fun _ => shF L 1) (fun _ => M0) (fun _ => lim L) (fun _ => .fork (leI L.length (brP L 1)) (.leaf (.exit 0, [some ((@AV.view (L).length 3 (fun x106325 => (fun x237922 => (@AV.lit ([(@Value.int IntKind.i64 ((L.getD x106325 tok0)).kind), (@Value.string ((L.getD x106325 tok0)).text), (@Value.int IntKind.i64 ((L.getD x106325 tok0)).n)].getD x237922 (@Value.tuple (@Array.mk _ [])))))))), none, some (boo false), none, none, none, none, none, none, none, none, none, none, none, none, none, none, none, none, none, none, none], M0)) (.leaf (.ret, [some ((@AV.view (L).length 3 (fun x106325 => (fun x237922 => (@AV.lit ([(@Value.int IntKind.i64 ((L.getD x106325 tok0)).kind), (@Value.string ((L.getD x106325 tok0)).text), (@Value.int IntKind.i64 ((L.getD x106325 tok0)).n)].getD x237922 (@Value.tuple (@Array.mk _ [])))))))), none, some (boo (!eqI (L.getD (brP L 1) tok0).kind 15)), none, none, none, none, none, none, none, none, none, none, none, none, none, none, none, none, none, none, none], M0))) [true, false, true, true, false, false, false, false, false, false, false, false, false, false, false, false, false, false, false, false, false, false]
  one := by kernel_rfl
  ok := formS_ok fun _ h1 => by
    refine ⟨L.length + 1, ?_⟩
    refine ((Sy.sh_scan L h1 L.length 1 (by omega) (by omega)).out [true, false, true, false, false, false, false, false, false, false, false, false, false, false, false, false, false, false, false, false, false, false]).mono fun ex F M hg => ?_
    obtain ⟨F0, ⟨rfl, ⟨q1, rfl, q, rfl⟩ | ⟨q1, rfl, q, rfl⟩⟩, rfl⟩ := hg
    · exact .inl ⟨q1, rfl⟩
    · exact .inr ⟨q1, rfl⟩
end Sy
theorem Sy.shu_t (L : List TokV) (h : lim L) : CallTo Try.prog 32 [kv L] M0 fun v _ => v = boo (shutB L) :=
  toV [] [lp_shu L] 400 30 (.br .done .done) (.need (@isSo (@And (((some (@AV.view (L).length 3 (fun x393910 => (fun x671601 => (@AV.lit ([(@Value.int IntKind.i64 ((L.getD x393910 tok0)).kind), (@Value.string ((L.getD x393910 tok0)).text), (@Value.int IntKind.i64 ((L.getD x393910 tok0)).n)].getD x671601 (@Value.tuple (@Array.mk _ [])))))))) :: [none, (some (boo false)), (some (int (1 : Int))), none, none, none, none, none, none, none, none, none, none, none, none, none, none, none, none, none, none]) = [(some (@AV.view (L).length 3 (fun x588804 => (fun x378852 => (@AV.lit ([(@Value.int IntKind.i64 ((L.getD x588804 tok0)).kind), (@Value.string ((L.getD x588804 tok0)).text), (@Value.int IntKind.i64 ((L.getD x588804 tok0)).n)].getD x378852 (@Value.tuple (@Array.mk _ [])))))))), none, (some (boo false)), (some (int (1 : Int))), none, none, none, none, none, none, none, none, none, none, none, none, none, none, none, none, none, none]) ((@Mem.mk 0 0 []) = M0))) (.need (@isSo (@lim L)) (.fork (leI (((L).length : Nat) : Int) (((@brP L 1) : Nat) : Int)) (.leaf (boo false)) (.leaf (boo (!(eqI ((L.getD (@brP L 1) tok0)).kind (15 : Int)))))))) (by kernel_rfl) (by
    unfold shutB
    refine need_so ⟨rfl, rfl⟩ (need_so h (fork_ok (fun q => ?_) (fun q => ?_)))
    · rw [q]; exact rfl
    · rw [q]; exact rfl)
noncomputable abbrev Sy.cShu : Con Try.prog := conG 32 (fun L => boo (shutB L)) lim fun L h => ⟨trivial, shu_t L h⟩
theorem drop_is (l : List TokV) (k : Nat) (hk : k ≤ l.length) : CellIs (l.length - k) (fun i j => .lit ((TokV.cells (l.getD (k + i) tok0)).getD j undef)) (l.drop k) := ⟨by rw [List.length_drop], fun i j hi hj => by
  have : (l.drop k).getD i tok0 = l.getD (k + i) tok0 := by
    simp only [List.getD_eq_getElem?_getD]
    rw [List.getElem?_drop]
  show _ = AV.lit ((TokV.cells ((l.drop k).getD i tok0)).getD j undef)
  rw [this]⟩
def badAt (l : List TokV) (k : Nat) : Bool := eqI (l.getD k tok0).kind 13 || (eqI (l.getD k tok0).kind 2 || (eqI (l.getD k tok0).kind 17 || (eqI (l.getD k tok0).kind 15 && !shutB (l.drop k))))
namespace Sy
abbrev clF (l : List TokV) (k : Int) : Fr := [some ((@AV.view (l).length 3 (fun x373713 => (fun x180153 => (@AV.lit ([(@Value.int IntKind.i64 ((l.getD x373713 tok0)).kind), (@Value.string ((l.getD x373713 tok0)).text), (@Value.int IntKind.i64 ((l.getD x373713 tok0)).n)].getD x180153 (@Value.tuple (@Array.mk _ [])))))))), none, some ((boo false)), some (int k), none, none, none, none, none, none, none, none, none, none, none, none, none, none, none, none, none, none, none, none, none, none, none, none, none, none, none, none, none, none, none, none, none]
end Sy
theorem Sy.cl_scan (l : List TokV) (hl : lim l) : LoopTo Try.prog (theBody Try.prog 15 3) (l.length + 1) (clF l 0) M0 fun ex F' M' => M' = M0 ∧ ((0 ≤ idxN (badAt l) l.length ∧ ex = .ret ∧ F' = clF l (idxN (badAt l) l.length)) ∨ (idxN (badAt l) l.length = -1 ∧ ex = .exit 0 ∧ F' = clF l l.length)) :=
  scanN l.length (badAt l) (fun k => clF l k) (fun k => clF l k) M0 fun k n G h0 h1 c1 c2 c3 => by
    refine roundL [cShu] [] 400 30 15 3 Try.func15 rfl (by kernel_rfl) [true, false, true, true, false, false, false, false, false, false, false, false, false, false, false, false, false, false, false, false, false, false, false, false, false, false, false, false, false, false, false, false, false, false, false, false, false] (.br (.yes (.br (.auto 1 (.br (.auto 1 (.br (.auto 1 (.br (.auto 1 (.yes (.auto 0 (.yes (.auto 3 (.br .done .done)))))) (.auto 7 .done))) (.auto 9 .done))) (.auto 12 .done))) (.auto 15 .done))) .done) (.fork (!(leI (((l).length : Nat) : Int) k)) (.need (@inR k (l).length) (.fork (!(eqI ((l.getD (k).toNat tok0)).kind (13 : Int))) (.fork (!(eqI ((l.getD (k).toNat tok0)).kind (2 : Int))) (.fork (!(eqI ((l.getD (k).toNat tok0)).kind (17 : Int))) (.fork (eqI ((l.getD (k).toNat tok0)).kind (15 : Int)) (.need ((leI (0 : Int) k) && ((leI k (((l).length : Nat) : Int)) && (leI (((l).length : Nat) : Int) (((l).length : Nat) : Int)))) (.need (@isSo (@And ((((((l).length : Nat) : Int)).toNat - (k).toNat) ≤ (((((l).length : Nat) : Int)).toNat - (k).toNat)) (@And (@TokRows (((((l).length : Nat) : Int)).toNat - (k).toNat) (fun x145163 => (fun x659488 => (@AV.lit ([(@Value.int IntKind.i64 ((l.getD ((k).toNat + x145163) tok0)).kind), (@Value.string ((l.getD ((k).toNat + x145163) tok0)).text), (@Value.int IntKind.i64 ((l.getD ((k).toNat + x145163) tok0)).n)].getD x659488 (@Value.tuple (@Array.mk _ []))))))) (@lim (@toksOf (((((l).length : Nat) : Int)).toNat - (k).toNat) (fun x453149 => (fun x922485 => (@AV.lit ([(@Value.int IntKind.i64 ((l.getD ((k).toNat + x453149) tok0)).kind), (@Value.string ((l.getD ((k).toNat + x453149) tok0)).text), (@Value.int IntKind.i64 ((l.getD ((k).toNat + x453149) tok0)).n)].getD x922485 (@Value.tuple (@Array.mk _ []))))))))))) (.fork (!(@shutB (@toksOf (((((l).length : Nat) : Int)).toNat - (k).toNat) (fun x19842 => (fun x278982 => (@AV.lit ([(@Value.int IntKind.i64 ((l.getD ((k).toNat + x19842) tok0)).kind), (@Value.string ((l.getD ((k).toNat + x19842) tok0)).text), (@Value.int IntKind.i64 ((l.getD ((k).toNat + x19842) tok0)).n)].getD x278982 (@Value.tuple (@Array.mk _ []))))))))) (.leaf (Ex.ret, ([(some (@AV.view (l).length 3 (fun x928484 => (fun x500049 => (@AV.lit ([(@Value.int IntKind.i64 ((l.getD x928484 tok0)).kind), (@Value.string ((l.getD x928484 tok0)).text), (@Value.int IntKind.i64 ((l.getD x928484 tok0)).n)].getD x500049 (@Value.tuple (@Array.mk _ [])))))))), none, (some (boo false)), (some (int k)), none, none, none, none, none, none, none, none, none, none, none, none, none, none, none, none, none, none, none, none, none, none, none, none, none, none, none, none, none, none, none, none, none], (@Mem.mk 0 0 [])))) (.leaf (Ex.norm, ([(some (@AV.view (l).length 3 (fun x946311 => (fun x468804 => (@AV.lit ([(@Value.int IntKind.i64 ((l.getD x946311 tok0)).kind), (@Value.string ((l.getD x946311 tok0)).text), (@Value.int IntKind.i64 ((l.getD x946311 tok0)).n)].getD x468804 (@Value.tuple (@Array.mk _ [])))))))), none, (some (boo false)), (some (int (w64 (k + (1 : Int))))), none, none, none, none, none, none, none, none, none, none, none, none, none, none, none, none, none, none, none, none, none, none, none, none, none, none, none, none, none, none, none, none, none], (@Mem.mk 0 0 []))))))) (.leaf (Ex.norm, ([(some (@AV.view (l).length 3 (fun x145198 => (fun x53487 => (@AV.lit ([(@Value.int IntKind.i64 ((l.getD x145198 tok0)).kind), (@Value.string ((l.getD x145198 tok0)).text), (@Value.int IntKind.i64 ((l.getD x145198 tok0)).n)].getD x53487 (@Value.tuple (@Array.mk _ [])))))))), none, (some (boo false)), (some (int (w64 (k + (1 : Int))))), none, none, none, none, none, none, none, none, none, none, none, none, none, none, none, none, none, none, none, none, none, none, none, none, none, none, none, none, none, none, none, none, none], (@Mem.mk 0 0 []))))) (.leaf (Ex.ret, ([(some (@AV.view (l).length 3 (fun x817985 => (fun x274745 => (@AV.lit ([(@Value.int IntKind.i64 ((l.getD x817985 tok0)).kind), (@Value.string ((l.getD x817985 tok0)).text), (@Value.int IntKind.i64 ((l.getD x817985 tok0)).n)].getD x274745 (@Value.tuple (@Array.mk _ [])))))))), none, (some (boo false)), (some (int k)), none, none, none, none, none, none, none, none, none, none, none, none, none, none, none, none, none, none, none, none, none, none, none, none, none, none, none, none, none, none, none, none, none], (@Mem.mk 0 0 []))))) (.leaf (Ex.ret, ([(some (@AV.view (l).length 3 (fun x36500 => (fun x47420 => (@AV.lit ([(@Value.int IntKind.i64 ((l.getD x36500 tok0)).kind), (@Value.string ((l.getD x36500 tok0)).text), (@Value.int IntKind.i64 ((l.getD x36500 tok0)).n)].getD x47420 (@Value.tuple (@Array.mk _ [])))))))), none, (some (boo false)), (some (int k)), none, none, none, none, none, none, none, none, none, none, none, none, none, none, none, none, none, none, none, none, none, none, none, none, none, none, none, none, none, none, none, none, none], (@Mem.mk 0 0 []))))) (.leaf (Ex.ret, ([(some (@AV.view (l).length 3 (fun x774058 => (fun x622995 => (@AV.lit ([(@Value.int IntKind.i64 ((l.getD x774058 tok0)).kind), (@Value.string ((l.getD x774058 tok0)).text), (@Value.int IntKind.i64 ((l.getD x774058 tok0)).n)].getD x622995 (@Value.tuple (@Array.mk _ [])))))))), none, (some (boo false)), (some (int k)), none, none, none, none, none, none, none, none, none, none, none, none, none, none, none, none, none, none, none, none, none, none, none, none, none, none, none, none, none, none, none, none, none], (@Mem.mk 0 0 [])))))) (.leaf ((@Ex.exit 0), ([(some (@AV.view (l).length 3 (fun x229573 => (fun x433702 => (@AV.lit ([(@Value.int IntKind.i64 ((l.getD x229573 tok0)).kind), (@Value.string ((l.getD x229573 tok0)).text), (@Value.int IntKind.i64 ((l.getD x229573 tok0)).n)].getD x433702 (@Value.tuple (@Array.mk _ [])))))))), none, (some (boo false)), (some (int k)), none, none, none, none, none, none, none, none, none, none, none, none, none, none, none, none, none, none, none, none, none, none, none, none, none, none, none, none, none, none, none, none, none], (@Mem.mk 0 0 []))))) (by kernel_rfl) ?_
    have hl' : l.length ≤ 17592186044416 := hl
    unfold badAt at c1 c2
    refine fork_ok (fun h => ?_) (fun h => ?_)
    · simp only [Bool.not_eq_true', Bool.not_eq_false', leI_t, leI_f, eqI_t, eqI_f, inR_t, inR_f, isSo_t, isSo_f] at h
      have hr : inR k l.length = true := by rw [inR_t]; omega
      have c1 := c1 (by omega)
      have c2 := c2 (by omega)
      have hd := drop_is l k.toNat (by omega)
      have ht := toksOf_is hd
      refine need_t hr (fork_ok (fun e1 => ?_) (fun e1 => c2 (by rw [Bool.not_eq_false'] at e1; rw [e1]; rfl)))
      rw [Bool.not_eq_true'] at e1
      rw [e1] at c1 c2
      refine fork_ok (fun e2 => ?_) (fun e2 => c2 (by rw [Bool.not_eq_false'] at e2; rw [e2]; rfl))
      rw [Bool.not_eq_true'] at e2
      rw [e2] at c1 c2
      refine fork_ok (fun e3 => ?_) (fun e3 => c2 (by rw [Bool.not_eq_false'] at e3; rw [e3]; rfl))
      rw [Bool.not_eq_true'] at e3
      rw [e3] at c1 c2
      refine fork_ok (fun e4 => ?_) (fun e4 => ?_)
      · rw [e4] at c1 c2
        have hlm : lim (toksOf (l.length - k.toNat) fun i j => .lit ((TokV.cells (l.getD (k.toNat + i) tok0)).getD j undef)) := by
          rw [ht]
          show (l.drop k.toNat).length ≤ 17592186044416
          rw [List.length_drop]; omega
        refine need_t (by simp only [Bool.and_eq_true, leI_t]; omega) (need_so ⟨Nat.le_refl _, hd.rows, hlm⟩ (fork_ok (fun e5 => ?_) (fun e5 => ?_)))
        · have e6 : (!shutB (l.drop k.toNat)) = true := by rw [← ht]; exact e5
          exact c2 (by rw [e6]; rfl)
        · have e6 : (!shutB (l.drop k.toNat)) = false := by rw [← ht]; exact e5
          rw [w64_in (r := k + 1) (by omega)]
          exact c1 (by rw [e6]; rfl)
      · rw [e4] at c1
        rw [w64_in (r := k + 1) (by omega)]
        exact c1 rfl
    · simp only [Bool.not_eq_true', Bool.not_eq_false', leI_t, leI_f, eqI_t, eqI_f, inR_t, inR_f, isSo_t, isSo_f] at h
      exact c3 (by omega)
def closedB (l : List TokV) : Bool := !anyN (badAt l) l.length
namespace Sy
noncomputable abbrev lp_clo (l : List TokV) : Lp Try.prog where
  f := 15
  key := 3
  S := formS (fun F M => slotI F 3) (fun k => clF l k) (fun _ => M0) (fun k => lim l ∧ k = 0) (fun k => .fork (anyN (badAt l) l.length) (.leaf (.ret, [some ((@AV.view (l).length 3 (fun x373713 => (fun x180153 => (@AV.lit ([(@Value.int IntKind.i64 ((l.getD x373713 tok0)).kind), (@Value.string ((l.getD x373713 tok0)).text), (@Value.int IntKind.i64 ((l.getD x373713 tok0)).n)].getD x180153 (@Value.tuple (@Array.mk _ [])))))))), none, some ((boo false)), none, none, none, none, none, none, none, none, none, none, none, none, none, none, none, none, none, none, none, none, none, none, none, none, none, none, none, none, none, none, none, none, none, none], M0)) (.leaf (.exit 0, [some ((@AV.view (l).length 3 (fun x373713 => (fun x180153 => (@AV.lit ([(@Value.int IntKind.i64 ((l.getD x373713 tok0)).kind), (@Value.string ((l.getD x373713 tok0)).text), (@Value.int IntKind.i64 ((l.getD x373713 tok0)).n)].getD x180153 (@Value.tuple (@Array.mk _ [])))))))), none, some ((boo false)), none, none, none, none, none, none, none, none, none, none, none, none, none, none, none, none, none, none, none, none, none, none, none, none, none, none, none, none, none, none, none, none, none, none], M0))) [true, false, true, true, false, false, false, false, false, false, false, false, false, false, false, false, false, false, false, false, false, false, false, false, false, false, false, false, false, false, false, false, false, false, false, false, false]
  one := by kernel_rfl
  ok := formS_ok fun k ⟨h1, h2⟩ => by
    subst h2
    refine ⟨l.length + 1, ?_⟩
    refine ((Sy.cl_scan l h1).out [true, false, true, false, false, false, false, false, false, false, false, false, false, false, false, false, false, false, false, false, false, false, false, false, false, false, false, false, false, false, false, false, false, false, false, false, false]).mono fun ex F M hg => ?_
    obtain ⟨F0, ⟨hM, hg⟩, rfl⟩ := hg
    rcases hg with ⟨q1, rfl, rfl⟩ | ⟨q1, rfl, rfl⟩
    · exact .inl ⟨by rw [← anyN_idx, leI_t]; exact q1, by rw [hM]; rfl⟩
    · exact .inr ⟨by rw [← anyN_idx, leI_f, q1]; omega, by rw [hM]; rfl⟩
end Sy
theorem Sy.clo_t (l : List TokV) (h : lim l) : CallTo Try.prog 15 [kv l] M0 fun v _ => v = boo (closedB l) :=
  toV [] [lp_clo l] 400 30 (.br .done .done) (.need (@isSo (@And (((some (@AV.view (l).length 3 (fun x690790 => (fun x986711 => (@AV.lit ([(@Value.int IntKind.i64 ((l.getD x690790 tok0)).kind), (@Value.string ((l.getD x690790 tok0)).text), (@Value.int IntKind.i64 ((l.getD x690790 tok0)).n)].getD x986711 (@Value.tuple (@Array.mk _ [])))))))) :: [none, (some (boo false)), (some (int (0 : Int))), none, none, none, none, none, none, none, none, none, none, none, none, none, none, none, none, none, none, none, none, none, none, none, none, none, none, none, none, none, none, none, none, none]) = [(some (@AV.view (l).length 3 (fun x593488 => (fun x204488 => (@AV.lit ([(@Value.int IntKind.i64 ((l.getD x593488 tok0)).kind), (@Value.string ((l.getD x593488 tok0)).text), (@Value.int IntKind.i64 ((l.getD x593488 tok0)).n)].getD x204488 (@Value.tuple (@Array.mk _ [])))))))), none, (some (boo false)), (some (int (0 : Int))), none, none, none, none, none, none, none, none, none, none, none, none, none, none, none, none, none, none, none, none, none, none, none, none, none, none, none, none, none, none, none, none, none]) ((@Mem.mk 0 0 []) = M0))) (.need (@isSo (@And (@lim l) ((0 : Int) = (0 : Int)))) (.fork (@anyN (@badAt l) (l).length) (.leaf (boo false)) (.leaf (boo true))))) (by kernel_rfl) (by
    unfold closedB
    refine need_so ⟨rfl, rfl⟩ (need_so ⟨h, rfl⟩ (fork_ok (fun q => ?_) (fun q => ?_)))
    · rw [q]; exact rfl
    · rw [q]; exact rfl)
noncomputable abbrev Sy.cClo (l : List TokV) : Con Try.prog := at1 15 [kv l] (boo (closedB l)) (lim l) fun h => ⟨⟨⟨kv_free l, trivial⟩, trivial⟩, clo_t l h⟩
end Go.Proofs.Ytconlneohilnmaa
namespace Go.Proofs.Ytconlneohilnmaa
open Go Go.RowKit Pl Sy
set_option linter.unusedVariables false
set_option linter.unusedSimpArgs false
def blankB (c : Int) : Bool := eqI c 32 || (eqI c 9 || (eqI c 10 || (eqI c 12 || eqI c 13)))
theorem Sy.bl_t (c : Int) : CallTo Try.prog 52 [.lit (.int .u8 c)] M0 fun v _ => v = boo (blankB c) :=
  toV [] [] 400 30 (.br (.auto 1 (.br (.auto 1 (.br (.auto 1 (.br (.auto 1 .done) (.auto 1 .done))) (.auto 4 .done))) (.auto 7 .done))) (.auto 10 .done)) (.fork (!(eqI c (32 : Int))) (.fork (!(eqI c (9 : Int))) (.fork (!(eqI c (10 : Int))) (.fork (!(eqI c (12 : Int))) (.leaf (boo (eqI c (13 : Int)))) (.leaf (boo true))) (.leaf (boo true))) (.leaf (boo true))) (.leaf (boo true))) (by kernel_rfl) (by
    unfold blankB
    repeat' (first | refine fork_ok (fun _ => ?_) (fun _ => ?_))
    all_goals refine leaf_boo ?_
    all_goals simp_all)
theorem Sy.beg_t (c : Int) : CallTo Try.prog 81 [.lit (.int .u8 c)] M0 fun v _ => v = boo (begB c) :=
  toV [] [] 400 30 (.br (.auto 1 (.br (.auto 1 (.br (.auto 3 (.br (.auto 1 (.br (.auto 1 .done) (.auto 1 .done))) (.auto 4 .done))) (.auto 6 (.br (.auto 1 .done) (.auto 1 .done))))) (.auto 11 .done))) (.auto 4 (.br (.auto 3 (.br (.auto 1 (.br (.auto 1 .done) (.auto 1 .done))) (.auto 4 .done))) (.auto 6 (.br (.auto 1 .done) (.auto 1 .done)))))) (.fork (leI (97 : Int) c) (.fork (!(leI c (122 : Int))) (.fork (leI (65 : Int) c) (.fork (!(leI c (90 : Int))) (.fork (!(eqI c (95 : Int))) (.leaf (boo (leI (128 : Int) c))) (.leaf (boo true))) (.leaf (boo true))) (.fork (!(eqI c (95 : Int))) (.leaf (boo (leI (128 : Int) c))) (.leaf (boo true)))) (.leaf (boo true))) (.fork (leI (65 : Int) c) (.fork (!(leI c (90 : Int))) (.fork (!(eqI c (95 : Int))) (.leaf (boo (leI (128 : Int) c))) (.leaf (boo true))) (.leaf (boo true))) (.fork (!(eqI c (95 : Int))) (.leaf (boo (leI (128 : Int) c))) (.leaf (boo true))))) (by kernel_rfl) (by
    repeat' (first
      | refine fork_ok (fun _ => ?_) (fun _ => ?_)
      | refine need_so ⟨rfl, by (first | assumption | trivial | (try simp only [eqI_t, eqI_f, leI_t, leI_f, inR_t, inR_f, isSo_t, isSo_f, eqI_d, leI_d, decide_eq_true_eq, decide_eq_false_iff_not, Bool.not_eq_true', Bool.not_eq_false', Bool.false_eq_true, Bool.and_eq_true, Bool.or_eq_true, Bool.not_not, iff_false, false_iff, iff_true, true_iff] at *) <;> first | omega | grind)⟩ ?_
      | refine need_so (by (first | assumption | trivial | (try simp only [eqI_t, eqI_f, leI_t, leI_f, inR_t, inR_f, isSo_t, isSo_f, eqI_d, leI_d, decide_eq_true_eq, decide_eq_false_iff_not, Bool.not_eq_true', Bool.not_eq_false', Bool.false_eq_true, Bool.and_eq_true, Bool.or_eq_true, Bool.not_not, iff_false, false_iff, iff_true, true_iff] at *) <;> first | omega | grind)) ?_
      | refine need_t (by (first | assumption | trivial | (try simp only [eqI_t, eqI_f, leI_t, leI_f, inR_t, inR_f, isSo_t, isSo_f, eqI_d, leI_d, decide_eq_true_eq, decide_eq_false_iff_not, Bool.not_eq_true', Bool.not_eq_false', Bool.false_eq_true, Bool.and_eq_true, Bool.or_eq_true, Bool.not_not, iff_false, false_iff, iff_true, true_iff] at *) <;> first | omega | grind)) ?_)
    all_goals (first | refine leaf_boo ?_ | refine leaf_int ?_)
    all_goals (unfold begB; try simp only [eqI_t, eqI_f, leI_t, leI_f, inR_t, inR_f, isSo_t, isSo_f, eqI_d, leI_d, decide_eq_true_eq, decide_eq_false_iff_not, Bool.not_eq_true', Bool.not_eq_false', Bool.false_eq_true, Bool.and_eq_true, Bool.or_eq_true, Bool.not_not, iff_false, false_iff, iff_true, true_iff] at *)
    all_goals (first | omega | grind))
def u8_get (args : List AV) : Option Int := match args with | [.lit (.int .u8 c)] => some c | _ => none
noncomputable abbrev Sy.cBlank : Con Try.prog := atX 52 (fun args => match args with | [.lit (.int .u8 c)] => some c | _ => none) (fun c => [.lit (.int .u8 c)]) (fun c => boo (blankB c)) (fun _ => True) fun c _ => ⟨⟨⟨trivial, trivial⟩, trivial⟩, bl_t c⟩
noncomputable abbrev Sy.cBeg : Con Try.prog := atX 81 (fun args => match args with | [.lit (.int .u8 c)] => some c | _ => none) (fun c => [.lit (.int .u8 c)]) (fun c => boo (begB c)) (fun _ => True) fun c _ => ⟨⟨⟨trivial, trivial⟩, trivial⟩, beg_t c⟩
theorem Sy.goe_t (c : Int) : CallTo Try.prog 80 [.lit (.int .u8 c)] M0 fun v _ => v = boo (goesB c) :=
  toV [cBeg] [] 400 30 (.yes (.br (.auto 1 (.br (.auto 3 (.br (.auto 1 .done) (.auto 1 .done))) (.auto 6 .done))) (.auto 8 .done))) (.need (@isSo (@And ((@HAppend.hAppend _ _ _ _ (@HAppend.hAppend _ _ _ _ [] [(@AV.lit (@Value.int IntKind.u8 c))]) []) = [(@AV.lit (@Value.int IntKind.u8 c))]) True)) (.fork (!(@Pl.begB c)) (.fork (leI (48 : Int) c) (.fork (!(leI c (57 : Int))) (.leaf (boo (eqI c (45 : Int)))) (.leaf (boo true))) (.leaf (boo (eqI c (45 : Int))))) (.leaf (boo true)))) (by kernel_rfl) (by
    unfold goesB
    refine need_so ⟨rfl, trivial⟩ ?_
    generalize begB c = B
    exact (by
    repeat' (first
      | refine fork_ok (fun _ => ?_) (fun _ => ?_)
      | refine need_so ⟨rfl, by (first | assumption | trivial | (try simp only [eqI_t, eqI_f, leI_t, leI_f, inR_t, inR_f, isSo_t, isSo_f, eqI_d, leI_d, decide_eq_true_eq, decide_eq_false_iff_not, Bool.not_eq_true', Bool.not_eq_false', Bool.false_eq_true, Bool.and_eq_true, Bool.or_eq_true, Bool.not_not, iff_false, false_iff, iff_true, true_iff] at *) <;> first | omega | grind)⟩ ?_
      | refine need_so (by (first | assumption | trivial | (try simp only [eqI_t, eqI_f, leI_t, leI_f, inR_t, inR_f, isSo_t, isSo_f, eqI_d, leI_d, decide_eq_true_eq, decide_eq_false_iff_not, Bool.not_eq_true', Bool.not_eq_false', Bool.false_eq_true, Bool.and_eq_true, Bool.or_eq_true, Bool.not_not, iff_false, false_iff, iff_true, true_iff] at *) <;> first | omega | grind)) ?_
      | refine need_t (by (first | assumption | trivial | (try simp only [eqI_t, eqI_f, leI_t, leI_f, inR_t, inR_f, isSo_t, isSo_f, eqI_d, leI_d, decide_eq_true_eq, decide_eq_false_iff_not, Bool.not_eq_true', Bool.not_eq_false', Bool.false_eq_true, Bool.and_eq_true, Bool.or_eq_true, Bool.not_not, iff_false, false_iff, iff_true, true_iff] at *) <;> first | omega | grind)) ?_)
    all_goals (first | refine leaf_boo ?_ | refine leaf_int ?_)
    all_goals (try simp only [eqI_t, eqI_f, leI_t, leI_f, inR_t, inR_f, isSo_t, isSo_f, eqI_d, leI_d, decide_eq_true_eq, decide_eq_false_iff_not, Bool.not_eq_true', Bool.not_eq_false', Bool.false_eq_true, Bool.and_eq_true, Bool.or_eq_true, Bool.not_not, iff_false, false_iff, iff_true, true_iff] at *)
    all_goals (first | omega | grind)))
noncomputable abbrev Sy.cGoe : Con Try.prog := atX 80 (fun args => match args with | [.lit (.int .u8 c)] => some c | _ => none) (fun c => [.lit (.int .u8 c)]) (fun c => boo (goesB c)) (fun _ => True) fun c _ => ⟨⟨⟨trivial, trivial⟩, trivial⟩, goe_t c⟩
namespace Sy
abbrev blsF (s : ByteArray) (a m : Int) : Fr := (some ((@AV.lit (@Value.string s))) :: some (int a) :: none :: none :: some ((int (0 : Int))) :: some (int m) :: (nn15 []))
abbrev runF (s : ByteArray) (a m : Int) : Fr := (some ((@AV.lit (@Value.string s))) :: some (int a) :: none :: none :: some ((int (0 : Int))) :: some (int m) :: (nn15 []))
abbrev digF (s : ByteArray) (a m : Int) : Fr := (some ((@AV.lit (@Value.string s))) :: some (int a) :: none :: none :: some ((int (0 : Int))) :: some (int m) :: (nn21 []))
end Sy
noncomputable def upI (g : Int → Bool) (s : ByteArray) (a : Int) : Int := (hops (fun j => !g (byteAt s j)) (fun j => j + 1) s.size a.toNat : Nat)
theorem upI_step (g : Int → Bool) (s : ByteArray) (a : Int) (h0 : 0 ≤ a) : upI g s a = if a < s.size ∧ g (byteAt s a.toNat) = true then upI g s (a + 1) else a := by
  unfold upI
  rw [hops_step (fun k _ => Nat.lt_succ_self k)]
  by_cases h : a < s.size ∧ g (byteAt s a.toNat) = true
  · rw [if_pos h, if_pos ⟨by omega, by rw [h.2]; rfl⟩, show (a + 1).toNat = a.toNat + 1 by omega]
  · rw [if_neg h, if_neg (fun ⟨q1, q2⟩ => h ⟨by omega, by simpa using q2⟩)]
    omega
theorem upI_le (g : Int → Bool) (s : ByteArray) (a : Int) (h0 : 0 ≤ a) (h : a ≤ s.size) : a ≤ upI g s a ∧ upI g s a ≤ s.size := by
  have := hops1_le (fun j => !g (byteAt s j)) s.size a.toNat (by omega)
  unfold upI
  omega
theorem span_scan {P : Program} {body : Code} (s : ByteArray) (g : Int → Bool) (F : Int → Int → Fr) (hs : limT s.size)
    (step : ∀ (a m : Int) (n : Nat) (G : Ex → Fr → Mem → Prop), 0 ≤ a → a ≤ s.size → 0 ≤ m → m ≤ a → (a < s.size → g (byteAt s a.toNat) = true → LoopTo P body n (F (a + 1) (m + 1)) M0 G) → (¬ (a < s.size ∧ g (byteAt s a.toNat) = true) → G (.exit 0) (F a m) M0) → LoopTo P body (n + 1) (F a m) M0 G) :
    ∀ (k : Nat) (a m : Int), s.size - a.toNat ≤ k → 0 ≤ a → a ≤ s.size → 0 ≤ m → m ≤ a → LoopTo P body (k + 1) (F a m) M0 fun ex F' M' => ex = .exit 0 ∧ M' = M0 ∧ F' = F (upI g s a) (m + (upI g s a - a)) := by
  intro k
  induction k with
  | zero =>
    intro a m h1 h2 h3 h4 h5
    refine step a m 0 _ h2 h3 h4 h5 (fun h => absurd h (by omega)) (fun h => ⟨rfl, rfl, ?_⟩)
    rw [upI_step g s a h2, if_neg h, show m + (a - a) = m by omega]
  | succ k ih =>
    intro a m h1 h2 h3 h4 h5
    refine step a m (k + 1) _ h2 h3 h4 h5 (fun q1 q2 => ?_) (fun h => ⟨rfl, rfl, ?_⟩)
    · refine (ih (a + 1) (m + 1) (by omega) (by omega) (by omega) (by omega) (by omega)).mono fun ex F' M' ⟨e1, e2, e3⟩ => ⟨e1, e2, ?_⟩
      rw [upI_step g s a h2, if_pos ⟨q1, q2⟩, e3, show m + 1 + (upI g s (a + 1) - (a + 1)) = m + (upI g s (a + 1) - a) by omega]
    · rw [upI_step g s a h2, if_neg h, show m + (a - a) = m by omega]
noncomputable def spanI (g : Int → Bool) (s : ByteArray) (a : Int) : Int := upI g s a - a
def digB (c : Int) : Bool := leI 48 c && leI c 57
theorem Sy.bls_scan (s : ByteArray) (hs : limT s.size) (a : Int) (h0 : 0 ≤ a) (h1 : a ≤ s.size) : LoopTo Try.prog (theBody Try.prog 53 3) (s.size + 1) (blsF s a 0) M0 fun ex F' M' => ex = .exit 0 ∧ M' = M0 ∧ F' = blsF s (upI blankB s a) (spanI blankB s a) := by
  unfold limT at hs
  refine (span_scan s blankB (fun a m => blsF s a m) hs (fun a m n G q0 q1 q2 q3 c1 c2 => ?_) s.size a 0 (by omega) h0 h1 (by omega) h0).mono fun ex F' M' ⟨e1, e2, e3⟩ => ⟨e1, e2, by rw [e3]; unfold spanI; rw [show (0 : Int) + (upI blankB s a - a) = upI blankB s a - a by omega]⟩
  refine roundL [cBlank] [] 400 30 53 3 Try.func53 rfl (by kernel_rfl) (true :: true :: false :: false :: true :: true :: (ff15 [])) (.br (.auto 1 (.yes (.auto 0 (.yes (.auto 0 (.br .done .done)))))) (.auto 4 .done)) (let e1 := (@AV.lit (@Value.int IntKind.u8 (@byteAt s (a).toNat))); let e2 := (some (@AV.lit (@Value.string s))); (.fork (!(leI (((@ByteArray.size s) : Nat) : Int) a)) (.need (@inR a (@ByteArray.size s)) (.need (@isSo (@And ((@HAppend.hAppend _ _ _ _ (@HAppend.hAppend _ _ _ _ [] [e1]) []) = [e1]) True)) (.fork (@blankB (@byteAt s (a).toNat)) (.leaf (Ex.norm, ((e2 :: (some (int (w64 (a + (1 : Int))))) :: none :: none :: (some (int (0 : Int))) :: (some (int (w64 (m + (1 : Int))))) :: (nn15 [])), (@Mem.mk 0 0 [])))) (.leaf ((@Ex.exit 0), ((e2 :: (some (int a)) :: none :: none :: (some (int (0 : Int))) :: (some (int m)) :: (nn15 [])), (@Mem.mk 0 0 []))))))) (.leaf ((@Ex.exit 0), ((e2 :: (some (int a)) :: none :: none :: (some (int (0 : Int))) :: (some (int m)) :: (nn15 [])), (@Mem.mk 0 0 [])))))) (by kernel_rfl) ?_
  refine fork_ok (fun h => ?_) (fun h => ?_)
  · simp only [Bool.not_eq_true', Bool.not_eq_false', leI_t, leI_f, eqI_t, eqI_f, inR_t, inR_f, isSo_t, isSo_f] at h
    have hr : inR a s.size = true := by rw [inR_t]; omega
    refine need_t hr (need_so ⟨rfl, trivial⟩ (fork_ok (fun h2 => ?_) (fun h2 => c2 (fun x => by rw [h2] at x; exact absurd x.2 (by simp)))))
    rw [w64_in (r := a + 1) (by omega), w64_in (r := m + 1) (by omega)]
    exact c1 (by omega) h2
  · simp only [Bool.not_eq_true', Bool.not_eq_false', leI_t, leI_f, eqI_t, eqI_f, inR_t, inR_f, isSo_t, isSo_f] at h
    exact c2 (fun x => by omega)
namespace Sy
noncomputable abbrev lp_bls (s : ByteArray) : Lp Try.prog where
  f := 53
  key := 3
  S := formS (fun F M => slotI F 1) (fun a => blsF s a 0) (fun _ => M0) (fun a => limT s.size ∧ 0 ≤ a ∧ a ≤ s.size) (fun a => .leaf (.exit 0, blsF s (upI blankB s a) (spanI blankB s a), M0)) (true :: true :: false :: false :: true :: true :: (ff15 []))
  one := by kernel_rfl
  ok := formS_ok fun a ⟨h1, h2, h3⟩ => by
    refine ⟨s.size + 1, ?_⟩
    refine (Sy.bls_scan s h1 a h2 h3).mono fun ex F M hg => ?_
    obtain ⟨rfl, rfl, rfl⟩ := hg
    rfl
end Sy
theorem Sy.bls_t (s : ByteArray) (hs : limT s.size) (a : Int) (h0 : 0 ≤ a) (h1 : a ≤ s.size) : CallTo Try.prog 53 [.lit (.string s), int a] M0 fun v _ => v = int (spanI blankB s a) :=
  toV [] [lp_bls s] 400 30 .done (.need (@isSo (@And (((some (@AV.lit (@Value.string s))) :: (some (int a)) :: (none :: none :: (some (int (0 : Int))) :: (some (int (0 : Int))) :: (nn15 []))) = ((some (@AV.lit (@Value.string s))) :: (some (int a)) :: none :: none :: (some (int (0 : Int))) :: (some (int (0 : Int))) :: (nn15 []))) ((@Mem.mk 0 0 []) = M0))) (.need (@isSo (@And ((@ByteArray.size s) ≤ 1000000) (@And ((0 : Int) ≤ a) (a ≤ (((@ByteArray.size s) : Nat) : Int))))) (.leaf (int (@spanI blankB s a))))) (by kernel_rfl) (need_so ⟨rfl, rfl⟩ (need_so ⟨hs, h0, h1⟩ rfl))
theorem Sy.run_scan (s : ByteArray) (hs : limT s.size) (a : Int) (h0 : 0 ≤ a) (h1 : a ≤ s.size) : LoopTo Try.prog (theBody Try.prog 57 3) (s.size + 1) (runF s a 0) M0 fun ex F' M' => ex = .exit 0 ∧ M' = M0 ∧ F' = runF s (upI goesB s a) (spanI goesB s a) := by
  unfold limT at hs
  refine (span_scan s goesB (fun a m => runF s a m) hs (fun a m n G q0 q1 q2 q3 c1 c2 => ?_) s.size a 0 (by omega) h0 h1 (by omega) h0).mono fun ex F' M' ⟨e1, e2, e3⟩ => ⟨e1, e2, by rw [e3]; unfold spanI; rw [show (0 : Int) + (upI goesB s a - a) = upI goesB s a - a by omega]⟩
  refine roundL [cGoe] [] 400 30 57 3 Try.func57 rfl (by kernel_rfl) (true :: true :: false :: false :: true :: true :: (ff15 [])) (.br (.auto 1 (.yes (.auto 0 (.yes (.auto 0 (.br .done .done)))))) (.auto 4 .done)) (let e1 := (@AV.lit (@Value.int IntKind.u8 (@byteAt s (a).toNat))); let e2 := (some (@AV.lit (@Value.string s))); (.fork (!(leI (((@ByteArray.size s) : Nat) : Int) a)) (.need (@inR a (@ByteArray.size s)) (.need (@isSo (@And ((@HAppend.hAppend _ _ _ _ (@HAppend.hAppend _ _ _ _ [] [e1]) []) = [e1]) True)) (.fork (@Pl.goesB (@byteAt s (a).toNat)) (.leaf (Ex.norm, ((e2 :: (some (int (w64 (a + (1 : Int))))) :: none :: none :: (some (int (0 : Int))) :: (some (int (w64 (m + (1 : Int))))) :: (nn15 [])), (@Mem.mk 0 0 [])))) (.leaf ((@Ex.exit 0), ((e2 :: (some (int a)) :: none :: none :: (some (int (0 : Int))) :: (some (int m)) :: (nn15 [])), (@Mem.mk 0 0 []))))))) (.leaf ((@Ex.exit 0), ((e2 :: (some (int a)) :: none :: none :: (some (int (0 : Int))) :: (some (int m)) :: (nn15 [])), (@Mem.mk 0 0 [])))))) (by kernel_rfl) ?_
  refine fork_ok (fun h => ?_) (fun h => ?_)
  · simp only [Bool.not_eq_true', Bool.not_eq_false', leI_t, leI_f, eqI_t, eqI_f, inR_t, inR_f, isSo_t, isSo_f] at h
    have hr : inR a s.size = true := by rw [inR_t]; omega
    refine need_t hr (need_so ⟨rfl, trivial⟩ (fork_ok (fun h2 => ?_) (fun h2 => c2 (fun x => by rw [h2] at x; exact absurd x.2 (by simp)))))
    rw [w64_in (r := a + 1) (by omega), w64_in (r := m + 1) (by omega)]
    exact c1 (by omega) h2
  · simp only [Bool.not_eq_true', Bool.not_eq_false', leI_t, leI_f, eqI_t, eqI_f, inR_t, inR_f, isSo_t, isSo_f] at h
    exact c2 (fun x => by omega)
namespace Sy
noncomputable abbrev lp_run (s : ByteArray) : Lp Try.prog where
  f := 57
  key := 3
  S := formS (fun F M => slotI F 1) (fun a => runF s a 0) (fun _ => M0) (fun a => limT s.size ∧ 0 ≤ a ∧ a ≤ s.size) (fun a => .leaf (.exit 0, runF s (upI goesB s a) (spanI goesB s a), M0)) (true :: true :: false :: false :: true :: true :: (ff15 []))
  one := by kernel_rfl
  ok := formS_ok fun a ⟨h1, h2, h3⟩ => by
    refine ⟨s.size + 1, ?_⟩
    refine (Sy.run_scan s h1 a h2 h3).mono fun ex F M hg => ?_
    obtain ⟨rfl, rfl, rfl⟩ := hg
    rfl
end Sy
theorem Sy.run_t (s : ByteArray) (hs : limT s.size) (a : Int) (h0 : 0 ≤ a) (h1 : a ≤ s.size) : CallTo Try.prog 57 [.lit (.string s), int a] M0 fun v _ => v = int (spanI goesB s a) :=
  toV [] [lp_run s] 400 30 .done (.need (@isSo (@And (((some (@AV.lit (@Value.string s))) :: (some (int a)) :: (none :: none :: (some (int (0 : Int))) :: (some (int (0 : Int))) :: (nn15 []))) = ((some (@AV.lit (@Value.string s))) :: (some (int a)) :: none :: none :: (some (int (0 : Int))) :: (some (int (0 : Int))) :: (nn15 []))) ((@Mem.mk 0 0 []) = M0))) (.need (@isSo (@And ((@ByteArray.size s) ≤ 1000000) (@And ((0 : Int) ≤ a) (a ≤ (((@ByteArray.size s) : Nat) : Int))))) (.leaf (int (@spanI Pl.goesB s a))))) (by kernel_rfl) (need_so ⟨rfl, rfl⟩ (need_so ⟨hs, h0, h1⟩ rfl))
theorem Sy.dig_scan (s : ByteArray) (hs : limT s.size) (a : Int) (h0 : 0 ≤ a) (h1 : a ≤ s.size) : LoopTo Try.prog (theBody Try.prog 78 3) (s.size + 1) (digF s a 0) M0 fun ex F' M' => ex = .exit 0 ∧ M' = M0 ∧ F' = digF s (upI digB s a) (spanI digB s a) := by
  unfold limT at hs
  refine (span_scan s digB (fun a m => digF s a m) hs (fun a m n G q0 q1 q2 q3 c1 c2 => ?_) s.size a 0 (by omega) h0 h1 (by omega) h0).mono fun ex F' M' ⟨e1, e2, e3⟩ => ⟨e1, e2, by rw [e3]; unfold spanI; rw [show (0 : Int) + (upI digB s a - a) = upI digB s a - a by omega]⟩
  refine roundL [] [] 400 30 78 3 Try.func78 rfl (by kernel_rfl) (true :: true :: false :: false :: true :: true :: (ff21 [])) (.br (.auto 1 (.yes (.auto 1 (.br (.auto 1 (.yes (.auto 1 (.br .done .done)))) (.auto 4 .done))))) (.auto 9 .done)) (let e1 := (some (@AV.lit (@Value.string s))); (.fork (!(leI (((@ByteArray.size s) : Nat) : Int) a)) (.need (@inR a (@ByteArray.size s)) (.fork (leI (48 : Int) (@byteAt s (a).toNat)) (.need (@inR a (@ByteArray.size s)) (.fork (leI (@byteAt s (a).toNat) (57 : Int)) (.leaf (Ex.norm, ((e1 :: (some (int (w64 (a + (1 : Int))))) :: none :: none :: (some (int (0 : Int))) :: (some (int (w64 (m + (1 : Int))))) :: (nn21 [])), (@Mem.mk 0 0 [])))) (.leaf ((@Ex.exit 0), ((e1 :: (some (int a)) :: none :: none :: (some (int (0 : Int))) :: (some (int m)) :: (nn21 [])), (@Mem.mk 0 0 [])))))) (.leaf ((@Ex.exit 0), ((e1 :: (some (int a)) :: none :: none :: (some (int (0 : Int))) :: (some (int m)) :: (nn21 [])), (@Mem.mk 0 0 [])))))) (.leaf ((@Ex.exit 0), ((e1 :: (some (int a)) :: none :: none :: (some (int (0 : Int))) :: (some (int m)) :: (nn21 [])), (@Mem.mk 0 0 [])))))) (by kernel_rfl) ?_
  refine fork_ok (fun h => ?_) (fun h => ?_)
  · simp only [Bool.not_eq_true', Bool.not_eq_false', leI_t, leI_f, eqI_t, eqI_f, inR_t, inR_f, isSo_t, isSo_f] at h
    have hr : inR a s.size = true := by rw [inR_t]; omega
    refine need_t hr (fork_ok (fun h2 => need_t hr (fork_ok (fun h3 => ?_) (fun h3 => c2 (fun x => by unfold digB at x; rw [h3] at x; simp at x)))) (fun h2 => c2 (fun x => by unfold digB at x; rw [h2] at x; simp at x)))
    rw [w64_in (r := a + 1) (by omega), w64_in (r := m + 1) (by omega)]
    exact c1 (by omega) (by unfold digB; rw [h2, h3]; rfl)
  · simp only [Bool.not_eq_true', Bool.not_eq_false', leI_t, leI_f, eqI_t, eqI_f, inR_t, inR_f, isSo_t, isSo_f] at h
    exact c2 (fun x => by omega)
namespace Sy
noncomputable abbrev lp_dig (s : ByteArray) : Lp Try.prog where
  f := 78
  key := 3
  S := formS (fun F M => slotI F 1) (fun a => digF s a 0) (fun _ => M0) (fun a => limT s.size ∧ 0 ≤ a ∧ a ≤ s.size) (fun a => .leaf (.exit 0, digF s (upI digB s a) (spanI digB s a), M0)) (true :: true :: false :: false :: true :: true :: (ff21 []))
  one := by kernel_rfl
  ok := formS_ok fun a ⟨h1, h2, h3⟩ => by
    refine ⟨s.size + 1, ?_⟩
    refine (Sy.dig_scan s h1 a h2 h3).mono fun ex F M hg => ?_
    obtain ⟨rfl, rfl, rfl⟩ := hg
    rfl
end Sy
theorem Sy.dig_t (s : ByteArray) (hs : limT s.size) (a : Int) (h0 : 0 ≤ a) (h1 : a ≤ s.size) : CallTo Try.prog 78 [.lit (.string s), int a] M0 fun v _ => v = int (spanI digB s a) :=
  toV [] [lp_dig s] 400 30 .done (.need (@isSo (@And (((some (@AV.lit (@Value.string s))) :: (some (int a)) :: (none :: none :: (some (int (0 : Int))) :: (some (int (0 : Int))) :: (nn21 []))) = ((some (@AV.lit (@Value.string s))) :: (some (int a)) :: none :: none :: (some (int (0 : Int))) :: (some (int (0 : Int))) :: (nn21 []))) ((@Mem.mk 0 0 []) = M0))) (.need (@isSo (@And ((@ByteArray.size s) ≤ 1000000) (@And ((0 : Int) ≤ a) (a ≤ (((@ByteArray.size s) : Nat) : Int))))) (.leaf (int (@spanI digB s a))))) (by kernel_rfl) (need_so ⟨rfl, rfl⟩ (need_so ⟨hs, h0, h1⟩ rfl))
end Go.Proofs.Ytconlneohilnmaa
namespace Go.Proofs.Ytconlneohilnmaa
open Go Go.RowKit Pl Sy
set_option linter.unusedVariables false
set_option linter.unusedSimpArgs false
noncomputable abbrev Sy.cRun (s : ByteArray) : Con Try.prog := atX 57 (fun args => match args with | [_, .lit (.int _ a)] => some a | _ => none) (fun a => [.lit (.string s), int a]) (fun a => int (spanI goesB s a)) (fun a => limT s.size ∧ 0 ≤ a ∧ a ≤ s.size) fun a h => ⟨⟨⟨trivial, trivial, trivial⟩, trivial⟩, run_t s h.1 a h.2.1 h.2.2⟩
noncomputable abbrev Sy.cBls (s : ByteArray) : Con Try.prog := atX 53 (fun args => match args with | [_, .lit (.int _ a)] => some a | _ => none) (fun a => [.lit (.string s), int a]) (fun a => int (spanI blankB s a)) (fun a => limT s.size ∧ 0 ≤ a ∧ a ≤ s.size) fun a h => ⟨⟨⟨trivial, trivial, trivial⟩, trivial⟩, bls_t s h.1 a h.2.1 h.2.2⟩
noncomputable abbrev Sy.cDig (s : ByteArray) : Con Try.prog := atX 78 (fun args => match args with | [_, .lit (.int _ a)] => some a | _ => none) (fun a => [.lit (.string s), int a]) (fun a => int (spanI digB s a)) (fun a => limT s.size ∧ 0 ≤ a ∧ a ≤ s.size) fun a h => ⟨⟨⟨trivial, trivial, trivial⟩, trivial⟩, dig_t s h.1 a h.2.1 h.2.2⟩
noncomputable def startsI (s : ByteArray) (a : Int) : Bool := !leI s.size a && (if eqI (byteAt s a.toNat) 45 = true then !leI s.size (a + 1) && (begB (byteAt s (a + 1).toNat) || eqI (byteAt s (a + 1).toNat) 45) else begB (byteAt s a.toNat))
theorem Sy.sta_t (s : ByteArray) (hs : limT s.size) (a : Int) (h0 : 0 ≤ a) (h1 : a ≤ s.size) : CallTo Try.prog 58 [.lit (.string s), int a] M0 fun v _ => v = boo (startsI s a) := by
  unfold limT at hs
  refine toV [cBeg] [] 400 30 (.br .done (.yes (.br (.br (.auto 2 (.yes (.auto 0 (.yes (.auto 0 (.br (.auto 2 (.yes (.auto 3 .done))) (.auto 6 .done))))))) (.auto 11 .done)) (.yes (.yes .done))))) (.fork (leI (((@ByteArray.size s) : Nat) : Int) a) (.leaf (boo false)) (.need (@inR a (@ByteArray.size s)) (.fork (eqI (@byteAt s (a).toNat) (45 : Int)) (.fork (!(leI (((@ByteArray.size s) : Nat) : Int) (w64 (a + (1 : Int))))) (.need (@inR (w64 (a + (1 : Int))) (@ByteArray.size s)) (.need (@isSo (@And ((@HAppend.hAppend _ _ _ _ (@HAppend.hAppend _ _ _ _ [] [(@AV.lit (@Value.int IntKind.u8 (@byteAt s ((w64 (a + (1 : Int)))).toNat)))]) []) = [(@AV.lit (@Value.int IntKind.u8 (@byteAt s ((w64 (a + (1 : Int)))).toNat)))]) True)) (.fork (!(@Pl.begB (@byteAt s ((w64 (a + (1 : Int)))).toNat))) (.need (@inR (w64 (a + (1 : Int))) (@ByteArray.size s)) (.leaf (boo (eqI (@byteAt s ((w64 (a + (1 : Int)))).toNat) (45 : Int))))) (.leaf (boo true))))) (.leaf (boo false))) (.need (@inR a (@ByteArray.size s)) (.need (@isSo (@And ((@HAppend.hAppend _ _ _ _ (@HAppend.hAppend _ _ _ _ [] [(@AV.lit (@Value.int IntKind.u8 (@byteAt s (a).toNat)))]) []) = [(@AV.lit (@Value.int IntKind.u8 (@byteAt s (a).toNat)))]) True)) (.leaf (boo (@Pl.begB (@byteAt s (a).toNat))))))))) (by kernel_rfl) ?_
  unfold startsI
  rw [w64_in (r := a + 1) (by omega)]
  refine fork_ok (fun q => by rw [q]; exact rfl) (fun q => ?_)
  have ha : a < s.size := by simp only [Bool.not_eq_true', Bool.not_eq_false', leI_t, leI_f, eqI_t, eqI_f, inR_t, inR_f, isSo_t, isSo_f] at q; omega
  have hr : inR a s.size = true := by rw [inR_t]; omega
  rw [q]
  refine need_t hr (fork_ok (fun e => ?_) (fun e => ?_))
  · rw [e]
    refine fork_ok (fun f => ?_) (fun f => ?_)
    · have hr2 : inR (a + 1) s.size = true := by simp only [Bool.not_eq_true', Bool.not_eq_false', leI_t, leI_f, eqI_t, eqI_f, inR_t, inR_f, isSo_t, isSo_f] at f; rw [inR_t]; omega
      refine need_t hr2 (need_so ⟨rfl, trivial⟩ (fork_ok (fun g => need_t hr2 ?_) (fun g => ?_)))
      · refine leaf_boo ?_
        simp only [Bool.not_eq_true'] at f g
        rw [f, g]; simp
      · refine leaf_boo ?_
        simp only [Bool.not_eq_true', Bool.not_eq_false'] at f g
        rw [f, g]; simp
    · refine leaf_boo ?_
      simp only [Bool.not_eq_false'] at f
      rw [f]; simp
  · rw [e]
    refine need_t hr (need_so ⟨rfl, trivial⟩ ?_)
    refine leaf_boo ?_
    simp
noncomputable abbrev Sy.cSta (s : ByteArray) : Con Try.prog := atX 58 (fun args => match args with | [_, .lit (.int _ a)] => some a | _ => none) (fun a => [.lit (.string s), int a]) (fun a => boo (startsI s a)) (fun a => limT s.size ∧ 0 ≤ a ∧ a ≤ s.size) fun a h => ⟨⟨⟨trivial, trivial, trivial⟩, trivial⟩, sta_t s h.1 a h.2.1 h.2.2⟩
def hasI (s t : ByteArray) (a : Int) : Bool := leI t.size (s.size - a) && bytesEq (s.extract a.toNat (a + t.size).toNat).data.toList t.data.toList
theorem Sy.hst_t (s t : ByteArray) (hs : limT s.size) (ht : limT t.size) (a : Int) (h0 : 0 ≤ a) (h1 : a ≤ s.size) : CallTo Try.prog 50 [.lit (.string s), int a, .lit (.string t)] M0 fun v _ => v = boo (hasI s t a) := by
  unfold limT at hs ht
  have hx : (fun (at_ : Int) => True) a := trivial
  generalize hat : a = at_ at *
  refine toV [] [] 400 30 (.br (.auto 5 (.yes (.auto 2 .done))) (.auto 8 .done)) (.fork (leI (((@ByteArray.size t) : Nat) : Int) (w64 ((((@ByteArray.size s) : Nat) : Int) - at_))) (.need ((leI (0 : Int) at_) && ((leI at_ (w64 (at_ + (((@ByteArray.size t) : Nat) : Int)))) && (leI (w64 (at_ + (((@ByteArray.size t) : Nat) : Int))) (((@ByteArray.size s) : Nat) : Int)))) (.leaf (boo (@bytesEq (@Array.toList _ (@ByteArray.data (@ByteArray.extract s (at_).toNat ((w64 (at_ + (((@ByteArray.size t) : Nat) : Int)))).toNat))) (@Array.toList _ (@ByteArray.data t)))))) (.leaf (boo false))) (by kernel_rfl) ?_
  unfold hasI
  rw [w64_in (r := (s.size : Int) - at_) (by omega), w64_in (r := at_ + (t.size : Int)) (by omega)]
  refine fork_ok (fun q => ?_) (fun q => ?_)
  · refine need_t (by simp only [Bool.not_eq_true', Bool.not_eq_false', leI_t, leI_f, eqI_t, eqI_f, inR_t, inR_f, isSo_t, isSo_f] at q; simp only [Bool.and_eq_true, leI_t]; omega) ?_
    refine leaf_boo ?_
    rw [q]; simp
  · refine leaf_boo ?_
    rw [q]; simp
noncomputable abbrev Sy.cHst (s : ByteArray) : Con Try.prog := atX 50 (fun args => match args with | [_, .lit (.int _ a), .lit (.string t)] => some (a, t) | _ => none) (fun x => [.lit (.string s), int x.1, .lit (.string x.2)]) (fun x => boo (hasI s x.2 x.1)) (fun x => (limT s.size ∧ limT x.2.size) ∧ 0 ≤ x.1 ∧ x.1 ≤ s.size) fun x h => ⟨⟨⟨trivial, trivial, trivial, trivial⟩, trivial⟩, hst_t s x.2 h.1.1 h.1.2 x.1 h.2.1 h.2.2⟩
theorem upI_end (g : Int → Bool) (s : ByteArray) (a : Int) (h0 : 0 ≤ a) (h : s.size ≤ a) : upI g s a = a := by
  unfold upI
  rw [hops_end _ _ (by omega)]
  omega
theorem spanI_bd (g : Int → Bool) (s : ByteArray) (a : Int) (h0 : 0 ≤ a) : 0 ≤ spanI g s a ∧ (a ≤ s.size → a + spanI g s a ≤ s.size) ∧ spanI g s a ≤ s.size := by
  unfold spanI
  by_cases h : a ≤ s.size
  · have := upI_le g s a h0 h
    omega
  · rw [upI_end g s a h0 (by omega)]
    omega
noncomputable def numB (s : ByteArray) (b a : Int) : Int :=
  if (!leI s.size (b + spanI digB s b) && (eqI (byteAt s (b + spanI digB s b).toNat) 46 && !leI (spanI digB s (b + spanI digB s b + 1)) 0)) = true then b + spanI digB s b + 1 + spanI digB s (b + spanI digB s b + 1) - a
  else if eqI (spanI digB s b) 0 = true then 0 else b + spanI digB s b - a
noncomputable def numI (s : ByteArray) (a : Int) : Int := if (!leI s.size a && (eqI (byteAt s a.toNat) 43 || eqI (byteAt s a.toNat) 45)) = true then numB s (a + 1) a else numB s a a
theorem Sy.num_t (s : ByteArray) (hs : limT s.size) (a : Int) (h0 : 0 ≤ a) (h1 : a ≤ s.size) : CallTo Try.prog 55 [.lit (.string s), int a] M0 fun v _ => v = int (numI s a) := by
  have hs' := hs
  unfold limT at hs
  refine toV [cDig s] [] 400 30 (.br (.auto 1 (.yes (.auto 1 (.br (.auto 1 (.yes (.auto 3 (.br (.yes (.br (.auto 1 (.yes (.auto 1 (.br (.auto 2 (.yes (.auto 1 (.br (.yes .done) (.br .done .done))))) (.auto 5 (.br .done .done)))))) (.auto 10 (.br .done .done)))) (.yes (.br (.auto 1 (.yes (.auto 1 (.br (.auto 2 (.yes (.auto 1 (.br (.yes .done) (.br .done .done))))) (.auto 5 (.br .done .done)))))) (.auto 10 (.br .done .done)))))))) (.auto 6 (.yes (.br (.auto 1 (.yes (.auto 1 (.br (.auto 2 (.yes (.auto 1 (.br (.yes .done) (.br .done .done))))) (.auto 5 (.br .done .done)))))) (.auto 10 (.br .done .done))))))))) (.auto 10 (.yes (.br (.auto 1 (.yes (.auto 1 (.br (.auto 2 (.yes (.auto 1 (.br (.yes .done) (.br .done .done))))) (.auto 5 (.br .done .done)))))) (.auto 10 (.br .done .done)))))) (.fork (!(leI (((@ByteArray.size s) : Nat) : Int) a)) (.need (@inR a (@ByteArray.size s)) (.fork (!(eqI (@byteAt s (a).toNat) (43 : Int))) (.need (@inR a (@ByteArray.size s)) (.fork (eqI (@byteAt s (a).toNat) (45 : Int)) (.need (@isSo (@And ((@HAppend.hAppend _ _ _ _ (@HAppend.hAppend _ _ _ _ [] [(@AV.lit (@Value.string s)), (int (w64 (a + (1 : Int))))]) []) = [(@AV.lit (@Value.string s)), (int (w64 (a + (1 : Int))))]) (@And ((@ByteArray.size s) ≤ 1000000) (@And ((0 : Int) ≤ (w64 (a + (1 : Int)))) ((w64 (a + (1 : Int))) ≤ (((@ByteArray.size s) : Nat) : Int)))))) (.fork (!(leI (((@ByteArray.size s) : Nat) : Int) (w64 ((w64 (a + (1 : Int))) + (@spanI digB s (w64 (a + (1 : Int)))))))) (.need (@inR (w64 ((w64 (a + (1 : Int))) + (@spanI digB s (w64 (a + (1 : Int)))))) (@ByteArray.size s)) (.fork (eqI (@byteAt s ((w64 ((w64 (a + (1 : Int))) + (@spanI digB s (w64 (a + (1 : Int))))))).toNat) (46 : Int)) (.need (@isSo (@And ((@HAppend.hAppend _ _ _ _ (@HAppend.hAppend _ _ _ _ [] [(@AV.lit (@Value.string s)), (int (w64 ((w64 ((w64 (a + (1 : Int))) + (@spanI digB s (w64 (a + (1 : Int)))))) + (1 : Int))))]) []) = [(@AV.lit (@Value.string s)), (int (w64 ((w64 ((w64 (a + (1 : Int))) + (@spanI digB s (w64 (a + (1 : Int)))))) + (1 : Int))))]) (@And ((@ByteArray.size s) ≤ 1000000) (@And ((0 : Int) ≤ (w64 ((w64 ((w64 (a + (1 : Int))) + (@spanI digB s (w64 (a + (1 : Int)))))) + (1 : Int)))) ((w64 ((w64 ((w64 (a + (1 : Int))) + (@spanI digB s (w64 (a + (1 : Int)))))) + (1 : Int))) ≤ (((@ByteArray.size s) : Nat) : Int)))))) (.fork (!(leI (@spanI digB s (w64 ((w64 ((w64 (a + (1 : Int))) + (@spanI digB s (w64 (a + (1 : Int)))))) + (1 : Int)))) (0 : Int))) (.need (@isSo (@And ((@HAppend.hAppend _ _ _ _ (@HAppend.hAppend _ _ _ _ [] [(@AV.lit (@Value.string s)), (int (w64 ((w64 ((w64 (a + (1 : Int))) + (@spanI digB s (w64 (a + (1 : Int)))))) + (1 : Int))))]) []) = [(@AV.lit (@Value.string s)), (int (w64 ((w64 ((w64 (a + (1 : Int))) + (@spanI digB s (w64 (a + (1 : Int)))))) + (1 : Int))))]) (@And ((@ByteArray.size s) ≤ 1000000) (@And ((0 : Int) ≤ (w64 ((w64 ((w64 (a + (1 : Int))) + (@spanI digB s (w64 (a + (1 : Int)))))) + (1 : Int)))) ((w64 ((w64 ((w64 (a + (1 : Int))) + (@spanI digB s (w64 (a + (1 : Int)))))) + (1 : Int))) ≤ (((@ByteArray.size s) : Nat) : Int)))))) (.leaf (int (w64 ((w64 ((w64 ((w64 ((w64 (a + (1 : Int))) + (@spanI digB s (w64 (a + (1 : Int)))))) + (1 : Int))) + (@spanI digB s (w64 ((w64 ((w64 (a + (1 : Int))) + (@spanI digB s (w64 (a + (1 : Int)))))) + (1 : Int)))))) - a))))) (.fork (eqI (@spanI digB s (w64 (a + (1 : Int)))) (0 : Int)) (.leaf (int (0 : Int))) (.leaf (int (w64 ((w64 ((w64 (a + (1 : Int))) + (@spanI digB s (w64 (a + (1 : Int)))))) - a))))))) (.fork (eqI (@spanI digB s (w64 (a + (1 : Int)))) (0 : Int)) (.leaf (int (0 : Int))) (.leaf (int (w64 ((w64 ((w64 (a + (1 : Int))) + (@spanI digB s (w64 (a + (1 : Int)))))) - a))))))) (.fork (eqI (@spanI digB s (w64 (a + (1 : Int)))) (0 : Int)) (.leaf (int (0 : Int))) (.leaf (int (w64 ((w64 ((w64 (a + (1 : Int))) + (@spanI digB s (w64 (a + (1 : Int)))))) - a))))))) (.need (@isSo (@And ((@HAppend.hAppend _ _ _ _ (@HAppend.hAppend _ _ _ _ [] [(@AV.lit (@Value.string s)), (int a)]) []) = [(@AV.lit (@Value.string s)), (int a)]) (@And ((@ByteArray.size s) ≤ 1000000) (@And ((0 : Int) ≤ a) (a ≤ (((@ByteArray.size s) : Nat) : Int)))))) (.fork (!(leI (((@ByteArray.size s) : Nat) : Int) (w64 (a + (@spanI digB s a))))) (.need (@inR (w64 (a + (@spanI digB s a))) (@ByteArray.size s)) (.fork (eqI (@byteAt s ((w64 (a + (@spanI digB s a)))).toNat) (46 : Int)) (.need (@isSo (@And ((@HAppend.hAppend _ _ _ _ (@HAppend.hAppend _ _ _ _ [] [(@AV.lit (@Value.string s)), (int (w64 ((w64 (a + (@spanI digB s a))) + (1 : Int))))]) []) = [(@AV.lit (@Value.string s)), (int (w64 ((w64 (a + (@spanI digB s a))) + (1 : Int))))]) (@And ((@ByteArray.size s) ≤ 1000000) (@And ((0 : Int) ≤ (w64 ((w64 (a + (@spanI digB s a))) + (1 : Int)))) ((w64 ((w64 (a + (@spanI digB s a))) + (1 : Int))) ≤ (((@ByteArray.size s) : Nat) : Int)))))) (.fork (!(leI (@spanI digB s (w64 ((w64 (a + (@spanI digB s a))) + (1 : Int)))) (0 : Int))) (.need (@isSo (@And ((@HAppend.hAppend _ _ _ _ (@HAppend.hAppend _ _ _ _ [] [(@AV.lit (@Value.string s)), (int (w64 ((w64 (a + (@spanI digB s a))) + (1 : Int))))]) []) = [(@AV.lit (@Value.string s)), (int (w64 ((w64 (a + (@spanI digB s a))) + (1 : Int))))]) (@And ((@ByteArray.size s) ≤ 1000000) (@And ((0 : Int) ≤ (w64 ((w64 (a + (@spanI digB s a))) + (1 : Int)))) ((w64 ((w64 (a + (@spanI digB s a))) + (1 : Int))) ≤ (((@ByteArray.size s) : Nat) : Int)))))) (.leaf (int (w64 ((w64 ((w64 ((w64 (a + (@spanI digB s a))) + (1 : Int))) + (@spanI digB s (w64 ((w64 (a + (@spanI digB s a))) + (1 : Int)))))) - a))))) (.fork (eqI (@spanI digB s a) (0 : Int)) (.leaf (int (0 : Int))) (.leaf (int (w64 ((w64 (a + (@spanI digB s a))) - a))))))) (.fork (eqI (@spanI digB s a) (0 : Int)) (.leaf (int (0 : Int))) (.leaf (int (w64 ((w64 (a + (@spanI digB s a))) - a))))))) (.fork (eqI (@spanI digB s a) (0 : Int)) (.leaf (int (0 : Int))) (.leaf (int (w64 ((w64 (a + (@spanI digB s a))) - a))))))))) (.need (@isSo (@And ((@HAppend.hAppend _ _ _ _ (@HAppend.hAppend _ _ _ _ [] [(@AV.lit (@Value.string s)), (int (w64 (a + (1 : Int))))]) []) = [(@AV.lit (@Value.string s)), (int (w64 (a + (1 : Int))))]) (@And ((@ByteArray.size s) ≤ 1000000) (@And ((0 : Int) ≤ (w64 (a + (1 : Int)))) ((w64 (a + (1 : Int))) ≤ (((@ByteArray.size s) : Nat) : Int)))))) (.fork (!(leI (((@ByteArray.size s) : Nat) : Int) (w64 ((w64 (a + (1 : Int))) + (@spanI digB s (w64 (a + (1 : Int)))))))) (.need (@inR (w64 ((w64 (a + (1 : Int))) + (@spanI digB s (w64 (a + (1 : Int)))))) (@ByteArray.size s)) (.fork (eqI (@byteAt s ((w64 ((w64 (a + (1 : Int))) + (@spanI digB s (w64 (a + (1 : Int))))))).toNat) (46 : Int)) (.need (@isSo (@And ((@HAppend.hAppend _ _ _ _ (@HAppend.hAppend _ _ _ _ [] [(@AV.lit (@Value.string s)), (int (w64 ((w64 ((w64 (a + (1 : Int))) + (@spanI digB s (w64 (a + (1 : Int)))))) + (1 : Int))))]) []) = [(@AV.lit (@Value.string s)), (int (w64 ((w64 ((w64 (a + (1 : Int))) + (@spanI digB s (w64 (a + (1 : Int)))))) + (1 : Int))))]) (@And ((@ByteArray.size s) ≤ 1000000) (@And ((0 : Int) ≤ (w64 ((w64 ((w64 (a + (1 : Int))) + (@spanI digB s (w64 (a + (1 : Int)))))) + (1 : Int)))) ((w64 ((w64 ((w64 (a + (1 : Int))) + (@spanI digB s (w64 (a + (1 : Int)))))) + (1 : Int))) ≤ (((@ByteArray.size s) : Nat) : Int)))))) (.fork (!(leI (@spanI digB s (w64 ((w64 ((w64 (a + (1 : Int))) + (@spanI digB s (w64 (a + (1 : Int)))))) + (1 : Int)))) (0 : Int))) (.need (@isSo (@And ((@HAppend.hAppend _ _ _ _ (@HAppend.hAppend _ _ _ _ [] [(@AV.lit (@Value.string s)), (int (w64 ((w64 ((w64 (a + (1 : Int))) + (@spanI digB s (w64 (a + (1 : Int)))))) + (1 : Int))))]) []) = [(@AV.lit (@Value.string s)), (int (w64 ((w64 ((w64 (a + (1 : Int))) + (@spanI digB s (w64 (a + (1 : Int)))))) + (1 : Int))))]) (@And ((@ByteArray.size s) ≤ 1000000) (@And ((0 : Int) ≤ (w64 ((w64 ((w64 (a + (1 : Int))) + (@spanI digB s (w64 (a + (1 : Int)))))) + (1 : Int)))) ((w64 ((w64 ((w64 (a + (1 : Int))) + (@spanI digB s (w64 (a + (1 : Int)))))) + (1 : Int))) ≤ (((@ByteArray.size s) : Nat) : Int)))))) (.leaf (int (w64 ((w64 ((w64 ((w64 ((w64 (a + (1 : Int))) + (@spanI digB s (w64 (a + (1 : Int)))))) + (1 : Int))) + (@spanI digB s (w64 ((w64 ((w64 (a + (1 : Int))) + (@spanI digB s (w64 (a + (1 : Int)))))) + (1 : Int)))))) - a))))) (.fork (eqI (@spanI digB s (w64 (a + (1 : Int)))) (0 : Int)) (.leaf (int (0 : Int))) (.leaf (int (w64 ((w64 ((w64 (a + (1 : Int))) + (@spanI digB s (w64 (a + (1 : Int)))))) - a))))))) (.fork (eqI (@spanI digB s (w64 (a + (1 : Int)))) (0 : Int)) (.leaf (int (0 : Int))) (.leaf (int (w64 ((w64 ((w64 (a + (1 : Int))) + (@spanI digB s (w64 (a + (1 : Int)))))) - a))))))) (.fork (eqI (@spanI digB s (w64 (a + (1 : Int)))) (0 : Int)) (.leaf (int (0 : Int))) (.leaf (int (w64 ((w64 ((w64 (a + (1 : Int))) + (@spanI digB s (w64 (a + (1 : Int)))))) - a))))))))) (.need (@isSo (@And ((@HAppend.hAppend _ _ _ _ (@HAppend.hAppend _ _ _ _ [] [(@AV.lit (@Value.string s)), (int a)]) []) = [(@AV.lit (@Value.string s)), (int a)]) (@And ((@ByteArray.size s) ≤ 1000000) (@And ((0 : Int) ≤ a) (a ≤ (((@ByteArray.size s) : Nat) : Int)))))) (.fork (!(leI (((@ByteArray.size s) : Nat) : Int) (w64 (a + (@spanI digB s a))))) (.need (@inR (w64 (a + (@spanI digB s a))) (@ByteArray.size s)) (.fork (eqI (@byteAt s ((w64 (a + (@spanI digB s a)))).toNat) (46 : Int)) (.need (@isSo (@And ((@HAppend.hAppend _ _ _ _ (@HAppend.hAppend _ _ _ _ [] [(@AV.lit (@Value.string s)), (int (w64 ((w64 (a + (@spanI digB s a))) + (1 : Int))))]) []) = [(@AV.lit (@Value.string s)), (int (w64 ((w64 (a + (@spanI digB s a))) + (1 : Int))))]) (@And ((@ByteArray.size s) ≤ 1000000) (@And ((0 : Int) ≤ (w64 ((w64 (a + (@spanI digB s a))) + (1 : Int)))) ((w64 ((w64 (a + (@spanI digB s a))) + (1 : Int))) ≤ (((@ByteArray.size s) : Nat) : Int)))))) (.fork (!(leI (@spanI digB s (w64 ((w64 (a + (@spanI digB s a))) + (1 : Int)))) (0 : Int))) (.need (@isSo (@And ((@HAppend.hAppend _ _ _ _ (@HAppend.hAppend _ _ _ _ [] [(@AV.lit (@Value.string s)), (int (w64 ((w64 (a + (@spanI digB s a))) + (1 : Int))))]) []) = [(@AV.lit (@Value.string s)), (int (w64 ((w64 (a + (@spanI digB s a))) + (1 : Int))))]) (@And ((@ByteArray.size s) ≤ 1000000) (@And ((0 : Int) ≤ (w64 ((w64 (a + (@spanI digB s a))) + (1 : Int)))) ((w64 ((w64 (a + (@spanI digB s a))) + (1 : Int))) ≤ (((@ByteArray.size s) : Nat) : Int)))))) (.leaf (int (w64 ((w64 ((w64 ((w64 (a + (@spanI digB s a))) + (1 : Int))) + (@spanI digB s (w64 ((w64 (a + (@spanI digB s a))) + (1 : Int)))))) - a))))) (.fork (eqI (@spanI digB s a) (0 : Int)) (.leaf (int (0 : Int))) (.leaf (int (w64 ((w64 (a + (@spanI digB s a))) - a))))))) (.fork (eqI (@spanI digB s a) (0 : Int)) (.leaf (int (0 : Int))) (.leaf (int (w64 ((w64 (a + (@spanI digB s a))) - a))))))) (.fork (eqI (@spanI digB s a) (0 : Int)) (.leaf (int (0 : Int))) (.leaf (int (w64 ((w64 (a + (@spanI digB s a))) - a)))))))) (by kernel_rfl) ?_
  have hB : ∀ b : Int, 0 ≤ b → b ≤ s.size → numB s b a = if (!leI s.size (b + spanI digB s b) && (eqI (byteAt s (b + spanI digB s b).toNat) 46 && !leI (spanI digB s (b + spanI digB s b + 1)) 0)) = true then b + spanI digB s b + 1 + spanI digB s (b + spanI digB s b + 1) - a
  else if eqI (spanI digB s b) 0 = true then 0 else b + spanI digB s b - a := fun b _ _ => rfl
  have b1 := spanI_bd digB s a h0
  have b2 := spanI_bd digB s (a + 1) (by omega)
  have b3 := spanI_bd digB s (a + spanI digB s a + 1) (by omega)
  have b4 := spanI_bd digB s (a + 1 + spanI digB s (a + 1) + 1) (by omega)
  rw [w64_in (r := a + 1) (by omega), w64_in (r := a + spanI digB s a) (by omega), w64_in (r := a + 1 + spanI digB s (a + 1)) (by omega),
    w64_in (r := a + spanI digB s a + 1) (by omega), w64_in (r := a + 1 + spanI digB s (a + 1) + 1) (by omega),
    w64_in (r := a + spanI digB s a + 1 + spanI digB s (a + spanI digB s a + 1)) (by omega), w64_in (r := a + 1 + spanI digB s (a + 1) + 1 + spanI digB s (a + 1 + spanI digB s (a + 1) + 1)) (by omega),
    w64_in (r := a + spanI digB s a - a) (by omega), w64_in (r := a + 1 + spanI digB s (a + 1) - a) (by omega),
    w64_in (r := a + spanI digB s a + 1 + spanI digB s (a + spanI digB s a + 1) - a) (by omega), w64_in (r := a + 1 + spanI digB s (a + 1) + 1 + spanI digB s (a + 1 + spanI digB s (a + 1) + 1) - a) (by omega)]
  have sub : ∀ b : Int, 0 ≤ b → b ≤ s.size → (numI s a = numB s b a) → True := fun _ _ _ _ => trivial
  refine fork_ok (fun q => ?_) (fun q => ?_)
  · have q' := q
    simp only [Bool.not_eq_true', Bool.not_eq_false', leI_t, leI_f, eqI_t, eqI_f, inR_t, inR_f, isSo_t, isSo_f] at q'
    have hr : inR a s.size = true := by rw [inR_t]; omega
    refine need_t hr (fork_ok (fun e => need_t hr (fork_ok (fun f => ?_) (fun f => ?_))) (fun e => ?_))
    · have eN : numI s a = numB s (a + 1) a := by unfold numI; rw [q, f]; simp
      rw [eN]
      unfold numB
      refine need_so ⟨rfl, hs', by omega, by omega⟩ (fork_ok (fun u => ?_) (fun u => ?_))
      · have u' := u
        simp only [Bool.not_eq_true', leI_f] at u'
        have hr2 : inR (a + 1 + spanI digB s (a + 1)) s.size = true := by rw [inR_t]; omega
        refine need_t hr2 (fork_ok (fun x => ?_) (fun x => ?_))
        · refine need_so ⟨rfl, hs', by omega, by omega⟩ (fork_ok (fun y => need_so ⟨rfl, hs', by omega, by omega⟩ ?_) (fun y => fork_ok (fun z => ?_) (fun z => ?_)))
          · refine leaf_int ?_
            rw [u, x, y]; simp
          · refine leaf_int ?_
            rw [u, x, y, z]; simp
          · refine leaf_int ?_
            rw [u, x, y, z]; simp
        · refine fork_ok (fun z => ?_) (fun z => ?_)
          · refine leaf_int ?_
            rw [u, x, z]; simp
          · refine leaf_int ?_
            rw [u, x, z]; simp
      · refine fork_ok (fun z => ?_) (fun z => ?_)
        · refine leaf_int ?_
          rw [u, z]; simp
        · refine leaf_int ?_
          rw [u, z]; simp
    · have eN : numI s a = numB s a a := by
        unfold numI
        simp only [Bool.not_eq_true'] at e
        rw [e, f]; simp
      rw [eN]
      unfold numB
      refine need_so ⟨rfl, hs', by omega, by omega⟩ (fork_ok (fun u => ?_) (fun u => ?_))
      · have u' := u
        simp only [Bool.not_eq_true', leI_f] at u'
        have hr2 : inR (a + spanI digB s a) s.size = true := by rw [inR_t]; omega
        refine need_t hr2 (fork_ok (fun x => ?_) (fun x => ?_))
        · refine need_so ⟨rfl, hs', by omega, by omega⟩ (fork_ok (fun y => need_so ⟨rfl, hs', by omega, by omega⟩ ?_) (fun y => fork_ok (fun z => ?_) (fun z => ?_)))
          · refine leaf_int ?_
            rw [u, x, y]; simp
          · refine leaf_int ?_
            rw [u, x, y, z]; simp
          · refine leaf_int ?_
            rw [u, x, y, z]; simp
        · refine fork_ok (fun z => ?_) (fun z => ?_)
          · refine leaf_int ?_
            rw [u, x, z]; simp
          · refine leaf_int ?_
            rw [u, x, z]; simp
      · refine fork_ok (fun z => ?_) (fun z => ?_)
        · refine leaf_int ?_
          rw [u, z]; simp
        · refine leaf_int ?_
          rw [u, z]; simp
    · have eN : numI s a = numB s (a + 1) a := by
        unfold numI
        simp only [Bool.not_eq_false'] at e
        rw [q, e]; simp
      rw [eN]
      unfold numB
      refine need_so ⟨rfl, hs', by omega, by omega⟩ (fork_ok (fun u => ?_) (fun u => ?_))
      · have u' := u
        simp only [Bool.not_eq_true', leI_f] at u'
        have hr2 : inR (a + 1 + spanI digB s (a + 1)) s.size = true := by rw [inR_t]; omega
        refine need_t hr2 (fork_ok (fun x => ?_) (fun x => ?_))
        · refine need_so ⟨rfl, hs', by omega, by omega⟩ (fork_ok (fun y => need_so ⟨rfl, hs', by omega, by omega⟩ ?_) (fun y => fork_ok (fun z => ?_) (fun z => ?_)))
          · refine leaf_int ?_
            rw [u, x, y]; simp
          · refine leaf_int ?_
            rw [u, x, y, z]; simp
          · refine leaf_int ?_
            rw [u, x, y, z]; simp
        · refine fork_ok (fun z => ?_) (fun z => ?_)
          · refine leaf_int ?_
            rw [u, x, z]; simp
          · refine leaf_int ?_
            rw [u, x, z]; simp
      · refine fork_ok (fun z => ?_) (fun z => ?_)
        · refine leaf_int ?_
          rw [u, z]; simp
        · refine leaf_int ?_
          rw [u, z]; simp
  · have q' := q
    simp only [Bool.not_eq_true', Bool.not_eq_false', leI_t, leI_f, eqI_t, eqI_f, inR_t, inR_f, isSo_t, isSo_f] at q'
    have eN : numI s a = numB s a a := by unfold numI; rw [q]; simp
    rw [eN]
    unfold numB
    refine need_so ⟨rfl, hs', by omega, by omega⟩ (fork_ok (fun u => ?_) (fun u => ?_))
    · have u' := u
      simp only [Bool.not_eq_true', leI_f] at u'
      have hr2 : inR (a + spanI digB s a) s.size = true := by rw [inR_t]; omega
      refine need_t hr2 (fork_ok (fun x => ?_) (fun x => ?_))
      · refine need_so ⟨rfl, hs', by omega, by omega⟩ (fork_ok (fun y => need_so ⟨rfl, hs', by omega, by omega⟩ ?_) (fun y => fork_ok (fun z => ?_) (fun z => ?_)))
        · refine leaf_int ?_
          rw [u, x, y]; simp
        · refine leaf_int ?_
          rw [u, x, y, z]; simp
        · refine leaf_int ?_
          rw [u, x, y, z]; simp
      · refine fork_ok (fun z => ?_) (fun z => ?_)
        · refine leaf_int ?_
          rw [u, x, z]; simp
        · refine leaf_int ?_
          rw [u, x, z]; simp
    · refine fork_ok (fun z => ?_) (fun z => ?_)
      · refine leaf_int ?_
        rw [u, z]; simp
      · refine leaf_int ?_
        rw [u, z]; simp
noncomputable abbrev Sy.cNum (s : ByteArray) : Con Try.prog := atX 55 (fun args => match args with | [_, .lit (.int _ a)] => some a | _ => none) (fun a => [.lit (.string s), int a]) (fun a => int (numI s a)) (fun a => limT s.size ∧ 0 ≤ a ∧ a ≤ s.size) fun a h => ⟨⟨⟨trivial, trivial, trivial⟩, trivial⟩, num_t s h.1 a h.2.1 h.2.2⟩
end Go.Proofs.Ytconlneohilnmaa
namespace Go.Proofs.Ytconlneohilnmaa
open Go Go.RowKit Pl Sy
set_option linter.unusedVariables false
set_option linter.unusedSimpArgs false
namespace Sy
abbrev bhF (s t : ByteArray) (a : Int) : Fr := [some ((@AV.lit (@Value.string s))), some (int a), some ((@AV.lit (@Value.string t))), none, none, none, some ((int (0 : Int))), none, none, none, none, none, none, none, none, none, none, none, none, none, none, none, none]
abbrev quF (s : ByteArray) (a e : Int) : Fr := [some ((@AV.lit (@Value.string s))), some ((int a)), none, none, some ((@AV.ptr 0 0)), some ((int (0 : Int))), some (int e), none, none, none, none, none, none, none, none, none, none, none, none, none, none, none, none, none, none, none, none, none, none, none, none, none, none, none, none, none, none, none, none, none, none, none, none, none, none, none, none, none, none, none, none, none, none]
abbrev quM : Mem := (@Mem.mk 1 0 [(some (@Blk.mk [(int (0 : Int)), (@AV.lit (@Value.string (@ByteArray.mk (@Array.mk _ [])))), (int (0 : Int))] 39 none))])
end Sy
def bhP (s t : ByteArray) (a : Int) : Int := (hops (fun j => hasI s t j) (fun j => j + 1) s.size a.toNat : Nat)
theorem bhP_step (s t : ByteArray) (a : Int) (h0 : 0 ≤ a) : bhP s t a = if a < s.size ∧ hasI s t a = false then bhP s t (a + 1) else a := by
  unfold bhP
  rw [hops_step (fun k _ => Nat.lt_succ_self k)]
  have ea : ((a.toNat : Nat) : Int) = a := by omega
  by_cases h : a < s.size ∧ hasI s t a = false
  · rw [if_pos h, if_pos ⟨by omega, by rw [ea]; exact h.2⟩, show (a + 1).toNat = a.toNat + 1 by omega]
  · rw [if_neg h, if_neg (fun ⟨q1, q2⟩ => h ⟨by omega, by rw [ea] at q2; exact q2⟩)]
    omega
theorem bhP_le (s t : ByteArray) (a : Int) (h0 : 0 ≤ a) (h : a ≤ s.size) : a ≤ bhP s t a ∧ bhP s t a ≤ s.size := by
  have := hops1_le (fun j => hasI s t j) s.size a.toNat (by omega)
  unfold bhP
  omega
namespace Sy
abbrev bhE (s t : ByteArray) (a : Int) : Fr := [some ((@AV.lit (@Value.string s))), some (int a), some ((@AV.lit (@Value.string t))), none, none, none, some (int (a + t.size)), none, none, none, none, none, none, none, none, none, none, none, none, none, none, none, none]
end Sy
theorem Sy.bhi_scan (s t : ByteArray) (hs : limT s.size) (ht : limT t.size) : ∀ (k : Nat) (a : Int), s.size - a.toNat ≤ k → 0 ≤ a → a ≤ s.size → LoopTo Try.prog (theBody Try.prog 51 2) (k + 1) (bhF s t a) M0 fun ex F' M' => M' = M0 ∧ ((leI s.size (bhP s t a) = false ∧ ex = .ret ∧ F' = bhE s t (bhP s t a)) ∨ (leI s.size (bhP s t a) = true ∧ ex = .exit 0 ∧ F' = bhF s t (bhP s t a))) := by
  have hs' := hs
  have ht' := ht
  unfold limT at hs ht
  intro k
  induction k with
  | zero =>
    intro a h1 h2 h3
    refine roundL [cHst s] [] 400 30 51 2 Try.func51 rfl (by kernel_rfl) [true, true, true, false, false, false, true, false, false, false, false, false, false, false, false, false, false, false, false, false, false, false, false] (.br (.yes (.br .done .done)) .done) (.fork (!(leI (((@ByteArray.size s) : Nat) : Int) a)) (.need (@isSo (@And ((@HAppend.hAppend _ _ _ _ (@HAppend.hAppend _ _ _ _ [] [(@AV.lit (@Value.string s)), (int a), (@AV.lit (@Value.string t))]) []) = [(@AV.lit (@Value.string s)), (int a), (@AV.lit (@Value.string t))]) (@And (@And ((@ByteArray.size s) ≤ 1000000) ((@ByteArray.size t) ≤ 1000000)) (@And ((0 : Int) ≤ a) (a ≤ (((@ByteArray.size s) : Nat) : Int)))))) (.fork (@hasI s t a) (.leaf (Ex.ret, ([(some (@AV.lit (@Value.string s))), (some (int a)), (some (@AV.lit (@Value.string t))), none, none, none, (some (int (w64 (a + (((@ByteArray.size t) : Nat) : Int))))), none, none, none, none, none, none, none, none, none, none, none, none, none, none, none, none], (@Mem.mk 0 0 [])))) (.leaf (Ex.norm, ([(some (@AV.lit (@Value.string s))), (some (int (w64 (a + (1 : Int))))), (some (@AV.lit (@Value.string t))), none, none, none, (some (int (0 : Int))), none, none, none, none, none, none, none, none, none, none, none, none, none, none, none, none], (@Mem.mk 0 0 [])))))) (.leaf ((@Ex.exit 0), ([(some (@AV.lit (@Value.string s))), (some (int a)), (some (@AV.lit (@Value.string t))), none, none, none, (some (int (0 : Int))), none, none, none, none, none, none, none, none, none, none, none, none, none, none, none, none], (@Mem.mk 0 0 []))))) (by kernel_rfl) ?_
    refine fork_ok (fun h => ?_) (fun h => ?_)
    · simp only [Bool.not_eq_true', Bool.not_eq_false', leI_t, leI_f, eqI_t, eqI_f, inR_t, inR_f, isSo_t, isSo_f] at h
      omega
    · refine ⟨rfl, .inr ?_⟩
      rw [bhP_step s t a h2, if_neg (fun x => by omega)]
      simp only [Bool.not_eq_true', Bool.not_eq_false', leI_t, leI_f, eqI_t, eqI_f, inR_t, inR_f, isSo_t, isSo_f] at h
      exact ⟨by rw [leI_t]; omega, rfl, rfl⟩
  | succ k ih =>
    intro a h1 h2 h3
    refine roundL [cHst s] [] 400 30 51 2 Try.func51 rfl (by kernel_rfl) [true, true, true, false, false, false, true, false, false, false, false, false, false, false, false, false, false, false, false, false, false, false, false] (.br (.yes (.br .done .done)) .done) (.fork (!(leI (((@ByteArray.size s) : Nat) : Int) a)) (.need (@isSo (@And ((@HAppend.hAppend _ _ _ _ (@HAppend.hAppend _ _ _ _ [] [(@AV.lit (@Value.string s)), (int a), (@AV.lit (@Value.string t))]) []) = [(@AV.lit (@Value.string s)), (int a), (@AV.lit (@Value.string t))]) (@And (@And ((@ByteArray.size s) ≤ 1000000) ((@ByteArray.size t) ≤ 1000000)) (@And ((0 : Int) ≤ a) (a ≤ (((@ByteArray.size s) : Nat) : Int)))))) (.fork (@hasI s t a) (.leaf (Ex.ret, ([(some (@AV.lit (@Value.string s))), (some (int a)), (some (@AV.lit (@Value.string t))), none, none, none, (some (int (w64 (a + (((@ByteArray.size t) : Nat) : Int))))), none, none, none, none, none, none, none, none, none, none, none, none, none, none, none, none], (@Mem.mk 0 0 [])))) (.leaf (Ex.norm, ([(some (@AV.lit (@Value.string s))), (some (int (w64 (a + (1 : Int))))), (some (@AV.lit (@Value.string t))), none, none, none, (some (int (0 : Int))), none, none, none, none, none, none, none, none, none, none, none, none, none, none, none, none], (@Mem.mk 0 0 [])))))) (.leaf ((@Ex.exit 0), ([(some (@AV.lit (@Value.string s))), (some (int a)), (some (@AV.lit (@Value.string t))), none, none, none, (some (int (0 : Int))), none, none, none, none, none, none, none, none, none, none, none, none, none, none, none, none], (@Mem.mk 0 0 []))))) (by kernel_rfl) ?_
    refine fork_ok (fun h => ?_) (fun h => ?_)
    · simp only [Bool.not_eq_true', Bool.not_eq_false', leI_t, leI_f, eqI_t, eqI_f, inR_t, inR_f, isSo_t, isSo_f] at h
      refine need_so ⟨rfl, ⟨hs', ht'⟩, h2, h3⟩ (fork_ok (fun q => ?_) (fun q => ?_))
      · rw [w64_in (r := a + (t.size : Int)) (by omega)]
        refine ⟨rfl, .inl ?_⟩
        rw [bhP_step s t a h2, if_neg (fun x => by rw [q] at x; exact absurd x.2 (by simp))]
        exact ⟨by rw [leI_f]; omega, rfl, rfl⟩
      · rw [w64_in (r := a + 1) (by omega)]
        rw [bhP_step s t a h2, if_pos ⟨by omega, q⟩]
        exact ih (a + 1) (by omega) (by omega) (by omega)
    · refine ⟨rfl, .inr ?_⟩
      simp only [Bool.not_eq_true', Bool.not_eq_false', leI_t, leI_f, eqI_t, eqI_f, inR_t, inR_f, isSo_t, isSo_f] at h
      rw [bhP_step s t a h2, if_neg (fun x => by omega)]
      exact ⟨by rw [leI_t]; omega, rfl, rfl⟩
namespace Sy
noncomputable abbrev lp_bhi (s t : ByteArray) : Lp Try.prog where
  f := 51
  key := 2
  S := formS (fun F M => slotI F 1) (fun a => bhF s t a) (fun _ => M0) (fun a => (limT s.size ∧ limT t.size) ∧ 0 ≤ a ∧ a ≤ s.size) (fun a => .fork (leI s.size (bhP s t a)) (.leaf (.exit 0, bhF s t (bhP s t a), M0)) (.leaf (.ret, bhE s t (bhP s t a), M0))) [true, true, true, false, false, false, true, false, false, false, false, false, false, false, false, false, false, false, false, false, false, false, false]
  one := by kernel_rfl
  ok := formS_ok fun a ⟨h1, h2, h3⟩ => by
    refine ⟨s.size + 1, ?_⟩
    refine (Sy.bhi_scan s t h1.1 h1.2 s.size a (by omega) h2 h3).mono fun ex F M hg => ?_
    obtain ⟨rfl, ⟨q1, rfl, rfl⟩ | ⟨q1, rfl, rfl⟩⟩ := hg
    · exact .inr ⟨q1, rfl⟩
    · exact .inl ⟨q1, rfl⟩
end Sy
def bhI (s t : ByteArray) (a : Int) : Int := if leI s.size (bhP s t a) = true then s.size else bhP s t a + t.size
theorem Sy.bhi_t (s t : ByteArray) (hs : limT s.size) (ht : limT t.size) (a : Int) (h0 : 0 ≤ a) (h1 : a ≤ s.size) : CallTo Try.prog 51 [.lit (.string s), int a, .lit (.string t)] M0 fun v _ => v = int (bhI s t a) :=
  toV [cHst s] [lp_bhi s t] 400 30 (.br .done .done) (.need (@isSo (@And (((some (@AV.lit (@Value.string s))) :: (some (int a)) :: (some (@AV.lit (@Value.string t))) :: [none, none, none, (some (int (0 : Int))), none, none, none, none, none, none, none, none, none, none, none, none, none, none, none, none]) = [(some (@AV.lit (@Value.string s))), (some (int a)), (some (@AV.lit (@Value.string t))), none, none, none, (some (int (0 : Int))), none, none, none, none, none, none, none, none, none, none, none, none, none, none, none, none]) ((@Mem.mk 0 0 []) = M0))) (.need (@isSo (@And (@And ((@ByteArray.size s) ≤ 1000000) ((@ByteArray.size t) ≤ 1000000)) (@And ((0 : Int) ≤ a) (a ≤ (((@ByteArray.size s) : Nat) : Int))))) (.fork (leI (((@ByteArray.size s) : Nat) : Int) (@bhP s t a)) (.leaf (int (((@ByteArray.size s) : Nat) : Int))) (.leaf (int ((@bhP s t a) + (((@ByteArray.size t) : Nat) : Int))))))) (by kernel_rfl) (need_so ⟨rfl, rfl⟩ (need_so ⟨⟨hs, ht⟩, h0, h1⟩ (fork_ok (fun q => by unfold bhI; rw [q]; exact rfl) (fun q => by unfold bhI; rw [q]; exact rfl))))
noncomputable abbrev Sy.cBhi (s : ByteArray) : Con Try.prog := atX 51 (fun args => match args with | [_, .lit (.int _ a), .lit (.string t)] => some (a, t) | _ => none) (fun x => [.lit (.string s), int x.1, .lit (.string x.2)]) (fun x => int (bhI s x.2 x.1)) (fun x => (limT s.size ∧ limT x.2.size) ∧ 0 ≤ x.1 ∧ x.1 ≤ s.size) fun x h => ⟨⟨⟨trivial, trivial, trivial, trivial⟩, trivial⟩, bhi_t s x.2 h.1.1 h.1.2 x.1 h.2.1 h.2.2⟩
def quoB (q c : Int) : Bool := !eqI c q && !eqI c 10
theorem Sy.quo_scan (s : ByteArray) (hs : limT s.size) (a : Int) (h0 : 0 ≤ a) (h1 : a < s.size) : ∀ (k : Nat) (e : Int), s.size - e.toNat ≤ k → 0 ≤ e → e ≤ s.size → LoopTo Try.prog (theBody Try.prog 54 3) (k + 1) (quF s a e) quM fun ex F' M' => M' = quM ∧ ex = .exit 0 ∧ F' = quF s a (upI (quoB (byteAt s a.toNat)) s e) := by
  unfold limT at hs
  have hra : inR a s.size = true := by rw [inR_t]; omega
  have step : ∀ (e : Int) (n : Nat) (G : Ex → Fr → Mem → Prop), 0 ≤ e → e ≤ s.size → (e < s.size → quoB (byteAt s a.toNat) (byteAt s e.toNat) = true → LoopTo Try.prog (theBody Try.prog 54 3) n (quF s a (e + 1)) quM G) → (¬ (e < s.size ∧ quoB (byteAt s a.toNat) (byteAt s e.toNat) = true) → G (.exit 0) (quF s a e) quM) → LoopTo Try.prog (theBody Try.prog 54 3) (n + 1) (quF s a e) quM G := fun e n G q0 q1 c1 c2 => by
    refine roundL [] [] 400 30 54 3 Try.func54 rfl (by kernel_rfl) [true, true, false, false, true, true, true, false, false, false, false, false, false, false, false, false, false, false, false, false, false, false, false, false, false, false, false, false, false, false, false, false, false, false, false, false, false, false, false, false, false, false, false, false, false, false, false, false, false, false, false, false, false] (.br (.auto 1 (.yes (.auto 2 (.yes (.auto 1 (.br (.auto 1 (.yes (.auto 1 (.br .done .done)))) (.auto 4 .done))))))) (.auto 12 .done)) (.fork (!(leI (((@ByteArray.size s) : Nat) : Int) e)) (.need (@inR e (@ByteArray.size s)) (.need (@inR a (@ByteArray.size s)) (.fork (!(eqI (@byteAt s (e).toNat) (@byteAt s (a).toNat))) (.need (@inR e (@ByteArray.size s)) (.fork (!(eqI (@byteAt s (e).toNat) (10 : Int))) (.leaf (Ex.norm, ([(some (@AV.lit (@Value.string s))), (some (int a)), none, none, (some (@AV.ptr 0 0)), (some (int (0 : Int))), (some (int (w64 (e + (1 : Int))))), none, none, none, none, none, none, none, none, none, none, none, none, none, none, none, none, none, none, none, none, none, none, none, none, none, none, none, none, none, none, none, none, none, none, none, none, none, none, none, none, none, none, none, none, none, none], (@Mem.mk 1 0 [(some (@Blk.mk [(int (0 : Int)), (@AV.lit (@Value.string (@ByteArray.mk (@Array.mk _ [])))), (int (0 : Int))] 39 none))])))) (.leaf ((@Ex.exit 0), ([(some (@AV.lit (@Value.string s))), (some (int a)), none, none, (some (@AV.ptr 0 0)), (some (int (0 : Int))), (some (int e)), none, none, none, none, none, none, none, none, none, none, none, none, none, none, none, none, none, none, none, none, none, none, none, none, none, none, none, none, none, none, none, none, none, none, none, none, none, none, none, none, none, none, none, none, none, none], (@Mem.mk 1 0 [(some (@Blk.mk [(int (0 : Int)), (@AV.lit (@Value.string (@ByteArray.mk (@Array.mk _ [])))), (int (0 : Int))] 39 none))])))))) (.leaf ((@Ex.exit 0), ([(some (@AV.lit (@Value.string s))), (some (int a)), none, none, (some (@AV.ptr 0 0)), (some (int (0 : Int))), (some (int e)), none, none, none, none, none, none, none, none, none, none, none, none, none, none, none, none, none, none, none, none, none, none, none, none, none, none, none, none, none, none, none, none, none, none, none, none, none, none, none, none, none, none, none, none, none, none], (@Mem.mk 1 0 [(some (@Blk.mk [(int (0 : Int)), (@AV.lit (@Value.string (@ByteArray.mk (@Array.mk _ [])))), (int (0 : Int))] 39 none))]))))))) (.leaf ((@Ex.exit 0), ([(some (@AV.lit (@Value.string s))), (some (int a)), none, none, (some (@AV.ptr 0 0)), (some (int (0 : Int))), (some (int e)), none, none, none, none, none, none, none, none, none, none, none, none, none, none, none, none, none, none, none, none, none, none, none, none, none, none, none, none, none, none, none, none, none, none, none, none, none, none, none, none, none, none, none, none, none, none], (@Mem.mk 1 0 [(some (@Blk.mk [(int (0 : Int)), (@AV.lit (@Value.string (@ByteArray.mk (@Array.mk _ [])))), (int (0 : Int))] 39 none))]))))) (by kernel_rfl) ?_
    unfold quoB at c1 c2
    refine fork_ok (fun h => ?_) (fun h => ?_)
    · simp only [Bool.not_eq_true', Bool.not_eq_false', leI_t, leI_f, eqI_t, eqI_f, inR_t, inR_f, isSo_t, isSo_f] at h
      have hr : inR e s.size = true := by rw [inR_t]; omega
      refine need_t hr (need_t hra (fork_ok (fun u => need_t hr (fork_ok (fun v => ?_) (fun v => ?_))) (fun u => ?_)))
      · rw [w64_in (r := e + 1) (by omega)]
        exact c1 (by omega) (by rw [u, v]; rfl)
      · exact c2 (fun x => by rw [v] at x; simp at x)
      · exact c2 (fun x => by rw [u] at x; simp at x)
    · simp only [Bool.not_eq_true', Bool.not_eq_false', leI_t, leI_f, eqI_t, eqI_f, inR_t, inR_f, isSo_t, isSo_f] at h
      exact c2 (fun x => by omega)
  intro k
  induction k with
  | zero =>
    intro e q1 q2 q3
    refine step e 0 _ q2 q3 (fun h => absurd h (by omega)) (fun h => ⟨rfl, rfl, ?_⟩)
    rw [upI_step _ s e q2, if_neg h]
  | succ k ih =>
    intro e q1 q2 q3
    refine step e (k + 1) _ q2 q3 (fun h1 h2 => ?_) (fun h => ⟨rfl, rfl, ?_⟩)
    · rw [upI_step _ s e q2, if_pos ⟨h1, h2⟩]
      exact ih (e + 1) (by omega) (by omega) (by omega)
    · rw [upI_step _ s e q2, if_neg h]
namespace Sy
noncomputable abbrev lp_quo (s : ByteArray) (a : Int) : Lp Try.prog where
  f := 54
  key := 3
  S := formS (fun F M => slotI F 6) (fun e => quF s a e) (fun _ => quM) (fun e => limT s.size ∧ (0 ≤ a ∧ a < s.size) ∧ 0 ≤ e ∧ e ≤ s.size) (fun e => .leaf (.exit 0, quF s a (upI (quoB (byteAt s a.toNat)) s e), quM)) [true, true, false, false, true, true, true, false, false, false, false, false, false, false, false, false, false, false, false, false, false, false, false, false, false, false, false, false, false, false, false, false, false, false, false, false, false, false, false, false, false, false, false, false, false, false, false, false, false, false, false, false, false]
  one := by kernel_rfl
  ok := formS_ok fun e ⟨h1, h2, h3⟩ => by
    refine ⟨s.size + 1, ?_⟩
    refine (Sy.quo_scan s h1 a h2.1 h2.2 s.size e (by omega) h3.1 h3.2).mono fun ex F M hg => ?_
    obtain ⟨rfl, rfl, rfl⟩ := hg
    rfl
end Sy
namespace Sy
abbrev woF (s : ByteArray) (v l i : Int) : Fr := [some ((@AV.lit (@Value.string s))), none, some ((int (0 : Int))), some (int v), some (int l), some (int i), none, none, none, none, none, none, none, none, none, none, none, none, none, none, none, none, none, none, none, none, none, none, none, none, none, none, none, none, none, none, none, none, none, none, none, none, none, none, none, none, none, none, none, none, none, none, none, none, none, none, none, none, none, none]
end Sy
end Go.Proofs.Ytconlneohilnmaa
namespace Go.Proofs.Ytconlneohilnmaa
open Go Go.RowKit Pl Sy
set_option linter.unusedVariables false
set_option linter.unusedSimpArgs false
def digD (c : Int) : Int := IntKind.i64.wrap (if (false && decide (128 ≤ (c - 48) % 256)) = true then (c - 48) % 256 - 256 else (c - 48) % 256)
noncomputable def capB (c v : Int) : Int := w64 (w64 (v * 10) + digD c)
noncomputable def capV (c v : Int) : Int := if leI (capB c v) 1125899906842624 = true then capB c v else 1125899906842624
noncomputable def wV (c v l : Int) : Int := if eqI c 46 = true then v else if (leI 48 c && leI c 57) = true then (if eqI l 0 = true then v else capV c v) else v
noncomputable def wL (c v l : Int) : Int := if eqI c 46 = true then 3 else if (leI 48 c && leI c 57) = true then (if eqI l 0 = true then l else if leI l 0 = true then l else w64 (l - 1)) else l
noncomputable def wGo (s : ByteArray) : Nat → Int → Int → Int → Int × Int
  | 0, _, v, l => (v, l)
  | k + 1, i, v, l => wGo s k (i + 1) (wV (byteAt s i.toNat) v l) (wL (byteAt s i.toNat) v l)
theorem Sy.wor_step (s : ByteArray) (hs : limT s.size) (v l i : Int) (n : Nat) (G : Ex → Fr → Mem → Prop) (h0 : 0 ≤ i) (h1 : i ≤ s.size)
    (c1 : i < s.size → ∀ v' l', wV (byteAt s i.toNat) v l = v' → wL (byteAt s i.toNat) v l = l' → LoopTo Try.prog (theBody Try.prog 79 5) n (woF s v' l' (i + 1)) M0 G)
    (c2 : i = s.size → G (.exit 0) (woF s v l i) M0) : LoopTo Try.prog (theBody Try.prog 79 5) (n + 1) (woF s v l i) M0 G := by
  unfold limT at hs
  refine roundL [] [] 400 30 79 5 Try.func79 rfl (by kernel_rfl) [true, false, true, true, true, true, false, false, false, false, false, false, false, false, false, false, false, false, false, false, false, false, false, false, false, false, false, false, false, false, false, false, false, false, false, false, false, false, false, false, false, false, false, false, false, false, false, false, false, false, false, false, false, false, false, false, false, false, false, false] (.br (.yes (.br (.yes (.br (.auto 1 (.yes (.auto 1 (.br (.auto 2 (.yes (.br (.auto 0 .done) (.auto 0 .done)))) (.auto 2 .done))))) (.auto 7 .done))) (.yes (.br (.auto 1 (.yes (.auto 1 (.br (.auto 1 (.br .done (.yes (.br (.br .done .done) (.br .done .done))))) (.auto 2 .done))))) (.auto 7 .done))))) .done) (.fork (!(leI (((@ByteArray.size s) : Nat) : Int) i)) (.need (@inR i (@ByteArray.size s)) (.fork (eqI (@byteAt s (i).toNat) (46 : Int)) (.need (@inR i (@ByteArray.size s)) (.fork (!(!(leI (48 : Int) (@byteAt s (i).toNat)))) (.need (@inR i (@ByteArray.size s)) (.fork (!(!(leI (@byteAt s (i).toNat) (57 : Int)))) (.need (@inR i (@ByteArray.size s)) (.fork (!(leI (w64 ((w64 (v * (10 : Int))) + (IntKind.i64.wrap (if ((false && (@Decidable.decide ((128 : Int) ≤ (@HMod.hMod _ _ _ _ ((@byteAt s (i).toNat) - (48 : Int)) (256 : Int))) _)) = true) then ((@HMod.hMod _ _ _ _ ((@byteAt s (i).toNat) - (48 : Int)) (256 : Int)) - (256 : Int)) else (@HMod.hMod _ _ _ _ ((@byteAt s (i).toNat) - (48 : Int)) (256 : Int)))))) (1125899906842624 : Int))) (.leaf (Ex.norm, ([(some (@AV.lit (@Value.string s))), none, (some (int (0 : Int))), (some (int (1125899906842624 : Int))), (some (int (2 : Int))), (some (int (w64 (i + (1 : Int))))), none, none, none, none, none, none, none, none, none, none, none, none, none, none, none, none, none, none, none, none, none, none, none, none, none, none, none, none, none, none, none, none, none, none, none, none, none, none, none, none, none, none, none, none, none, none, none, none, none, none, none, none, none, none], (@Mem.mk 0 0 [])))) (.leaf (Ex.norm, ([(some (@AV.lit (@Value.string s))), none, (some (int (0 : Int))), (some (int (w64 ((w64 (v * (10 : Int))) + (IntKind.i64.wrap (if ((false && (@Decidable.decide ((128 : Int) ≤ (@HMod.hMod _ _ _ _ ((@byteAt s (i).toNat) - (48 : Int)) (256 : Int))) _)) = true) then ((@HMod.hMod _ _ _ _ ((@byteAt s (i).toNat) - (48 : Int)) (256 : Int)) - (256 : Int)) else (@HMod.hMod _ _ _ _ ((@byteAt s (i).toNat) - (48 : Int)) (256 : Int)))))))), (some (int (2 : Int))), (some (int (w64 (i + (1 : Int))))), none, none, none, none, none, none, none, none, none, none, none, none, none, none, none, none, none, none, none, none, none, none, none, none, none, none, none, none, none, none, none, none, none, none, none, none, none, none, none, none, none, none, none, none, none, none, none, none, none, none, none, none, none, none], (@Mem.mk 0 0 [])))))) (.leaf (Ex.norm, ([(some (@AV.lit (@Value.string s))), none, (some (int (0 : Int))), (some (int v)), (some (int (3 : Int))), (some (int (w64 (i + (1 : Int))))), none, none, none, none, none, none, none, none, none, none, none, none, none, none, none, none, none, none, none, none, none, none, none, none, none, none, none, none, none, none, none, none, none, none, none, none, none, none, none, none, none, none, none, none, none, none, none, none, none, none, none, none, none, none], (@Mem.mk 0 0 [])))))) (.leaf (Ex.norm, ([(some (@AV.lit (@Value.string s))), none, (some (int (0 : Int))), (some (int v)), (some (int (3 : Int))), (some (int (w64 (i + (1 : Int))))), none, none, none, none, none, none, none, none, none, none, none, none, none, none, none, none, none, none, none, none, none, none, none, none, none, none, none, none, none, none, none, none, none, none, none, none, none, none, none, none, none, none, none, none, none, none, none, none, none, none, none, none, none, none], (@Mem.mk 0 0 [])))))) (.need (@inR i (@ByteArray.size s)) (.fork (!(!(leI (48 : Int) (@byteAt s (i).toNat)))) (.need (@inR i (@ByteArray.size s)) (.fork (!(!(leI (@byteAt s (i).toNat) (57 : Int)))) (.fork (eqI l (0 : Int)) (.leaf (Ex.norm, ([(some (@AV.lit (@Value.string s))), none, (some (int (0 : Int))), (some (int v)), (some (int l)), (some (int (w64 (i + (1 : Int))))), none, none, none, none, none, none, none, none, none, none, none, none, none, none, none, none, none, none, none, none, none, none, none, none, none, none, none, none, none, none, none, none, none, none, none, none, none, none, none, none, none, none, none, none, none, none, none, none, none, none, none, none, none, none], (@Mem.mk 0 0 [])))) (.need (@inR i (@ByteArray.size s)) (.fork (!(leI (w64 ((w64 (v * (10 : Int))) + (IntKind.i64.wrap (if ((false && (@Decidable.decide ((128 : Int) ≤ (@HMod.hMod _ _ _ _ ((@byteAt s (i).toNat) - (48 : Int)) (256 : Int))) _)) = true) then ((@HMod.hMod _ _ _ _ ((@byteAt s (i).toNat) - (48 : Int)) (256 : Int)) - (256 : Int)) else (@HMod.hMod _ _ _ _ ((@byteAt s (i).toNat) - (48 : Int)) (256 : Int)))))) (1125899906842624 : Int))) (.fork (!(leI l (0 : Int))) (.leaf (Ex.norm, ([(some (@AV.lit (@Value.string s))), none, (some (int (0 : Int))), (some (int (1125899906842624 : Int))), (some (int (w64 (l - (1 : Int))))), (some (int (w64 (i + (1 : Int))))), none, none, none, none, none, none, none, none, none, none, none, none, none, none, none, none, none, none, none, none, none, none, none, none, none, none, none, none, none, none, none, none, none, none, none, none, none, none, none, none, none, none, none, none, none, none, none, none, none, none, none, none, none, none], (@Mem.mk 0 0 [])))) (.leaf (Ex.norm, ([(some (@AV.lit (@Value.string s))), none, (some (int (0 : Int))), (some (int (1125899906842624 : Int))), (some (int l)), (some (int (w64 (i + (1 : Int))))), none, none, none, none, none, none, none, none, none, none, none, none, none, none, none, none, none, none, none, none, none, none, none, none, none, none, none, none, none, none, none, none, none, none, none, none, none, none, none, none, none, none, none, none, none, none, none, none, none, none, none, none, none, none], (@Mem.mk 0 0 []))))) (.fork (!(leI l (0 : Int))) (.leaf (Ex.norm, ([(some (@AV.lit (@Value.string s))), none, (some (int (0 : Int))), (some (int (w64 ((w64 (v * (10 : Int))) + (IntKind.i64.wrap (if ((false && (@Decidable.decide ((128 : Int) ≤ (@HMod.hMod _ _ _ _ ((@byteAt s (i).toNat) - (48 : Int)) (256 : Int))) _)) = true) then ((@HMod.hMod _ _ _ _ ((@byteAt s (i).toNat) - (48 : Int)) (256 : Int)) - (256 : Int)) else (@HMod.hMod _ _ _ _ ((@byteAt s (i).toNat) - (48 : Int)) (256 : Int)))))))), (some (int (w64 (l - (1 : Int))))), (some (int (w64 (i + (1 : Int))))), none, none, none, none, none, none, none, none, none, none, none, none, none, none, none, none, none, none, none, none, none, none, none, none, none, none, none, none, none, none, none, none, none, none, none, none, none, none, none, none, none, none, none, none, none, none, none, none, none, none, none, none, none, none], (@Mem.mk 0 0 [])))) (.leaf (Ex.norm, ([(some (@AV.lit (@Value.string s))), none, (some (int (0 : Int))), (some (int (w64 ((w64 (v * (10 : Int))) + (IntKind.i64.wrap (if ((false && (@Decidable.decide ((128 : Int) ≤ (@HMod.hMod _ _ _ _ ((@byteAt s (i).toNat) - (48 : Int)) (256 : Int))) _)) = true) then ((@HMod.hMod _ _ _ _ ((@byteAt s (i).toNat) - (48 : Int)) (256 : Int)) - (256 : Int)) else (@HMod.hMod _ _ _ _ ((@byteAt s (i).toNat) - (48 : Int)) (256 : Int)))))))), (some (int l)), (some (int (w64 (i + (1 : Int))))), none, none, none, none, none, none, none, none, none, none, none, none, none, none, none, none, none, none, none, none, none, none, none, none, none, none, none, none, none, none, none, none, none, none, none, none, none, none, none, none, none, none, none, none, none, none, none, none, none, none, none, none, none, none], (@Mem.mk 0 0 [])))))))) (.leaf (Ex.norm, ([(some (@AV.lit (@Value.string s))), none, (some (int (0 : Int))), (some (int v)), (some (int l)), (some (int (w64 (i + (1 : Int))))), none, none, none, none, none, none, none, none, none, none, none, none, none, none, none, none, none, none, none, none, none, none, none, none, none, none, none, none, none, none, none, none, none, none, none, none, none, none, none, none, none, none, none, none, none, none, none, none, none, none, none, none, none, none], (@Mem.mk 0 0 [])))))) (.leaf (Ex.norm, ([(some (@AV.lit (@Value.string s))), none, (some (int (0 : Int))), (some (int v)), (some (int l)), (some (int (w64 (i + (1 : Int))))), none, none, none, none, none, none, none, none, none, none, none, none, none, none, none, none, none, none, none, none, none, none, none, none, none, none, none, none, none, none, none, none, none, none, none, none, none, none, none, none, none, none, none, none, none, none, none, none, none, none, none, none, none, none], (@Mem.mk 0 0 [])))))))) (.leaf ((@Ex.exit 0), ([(some (@AV.lit (@Value.string s))), none, (some (int (0 : Int))), (some (int v)), (some (int l)), (some (int i)), none, none, none, none, none, none, none, none, none, none, none, none, none, none, none, none, none, none, none, none, none, none, none, none, none, none, none, none, none, none, none, none, none, none, none, none, none, none, none, none, none, none, none, none, none, none, none, none, none, none, none, none, none, none], (@Mem.mk 0 0 []))))) (by kernel_rfl) ?_
  refine fork_ok (fun h => ?_) (fun h => ?_)
  · simp only [Bool.not_eq_true', Bool.not_eq_false', leI_t, leI_f, eqI_t, eqI_f, inR_t, inR_f, isSo_t, isSo_f] at h
    have hr : inR i s.size = true := by rw [inR_t]; omega
    have c1 := c1 (by omega)
    rw [w64_in (r := i + 1) (by omega)]
    unfold wV wL at c1
    generalize hc : byteAt s i.toNat = c at *
    refine need_t hr (fork_ok (fun e => need_t hr (fork_ok (fun f => ?_) (fun f => ?_))) (fun e => need_t hr (fork_ok (fun f => need_t hr (fork_ok (fun g => ?_) (fun g => ?_))) (fun f => ?_))))
    · exfalso
      simp only [Bool.not_eq_true', Bool.not_eq_false', leI_t, leI_f, eqI_t, eqI_f, inR_t, inR_f, isSo_t, isSo_f] at e
      simp only [Bool.not_not, leI_t] at f
      omega
    · exact c1 _ _ (by rw [e]; rfl) (by rw [e]; rfl)
    · simp only [Bool.not_not] at f g
      refine fork_ok (fun z => ?_) (fun z => need_t hr (fork_ok (fun x => ?_) (fun x => ?_)))
      · exact c1 _ _ (by rw [e, f, g, z]; rfl) (by rw [e, f, g, z]; rfl)
      · have x' : (!leI (capB c v) 1125899906842624) = true := x
        simp only [Bool.not_eq_true'] at x'
        refine fork_ok (fun y => ?_) (fun y => ?_)
        · simp only [Bool.not_eq_true'] at y
          exact c1 _ _ (by rw [e, f, g, z]; unfold capV; rw [x']; rfl) (by rw [e, f, g, z, y]; rfl)
        · simp only [Bool.not_eq_false'] at y
          exact c1 _ _ (by rw [e, f, g, z]; unfold capV; rw [x']; rfl) (by rw [e, f, g, z, y]; rfl)
      · have x' : (!leI (capB c v) 1125899906842624) = false := x
        simp only [Bool.not_eq_false'] at x'
        refine fork_ok (fun y => ?_) (fun y => ?_)
        · simp only [Bool.not_eq_true'] at y
          exact c1 _ _ (by rw [e, f, g, z]; unfold capV; rw [x']; rfl) (by rw [e, f, g, z, y]; rfl)
        · simp only [Bool.not_eq_false'] at y
          exact c1 _ _ (by rw [e, f, g, z]; unfold capV; rw [x']; rfl) (by rw [e, f, g, z, y]; rfl)
    · simp only [Bool.not_not] at f g
      exact c1 _ _ (by rw [e, f, g]; rfl) (by rw [e, f, g]; rfl)
    · simp only [Bool.not_not] at f
      exact c1 _ _ (by rw [e, f]; rfl) (by rw [e, f]; rfl)
  · simp only [Bool.not_eq_true', Bool.not_eq_false', leI_t, leI_f, eqI_t, eqI_f, inR_t, inR_f, isSo_t, isSo_f] at h
    exact c2 (by omega)
theorem Sy.wor_scan (s : ByteArray) (hs : limT s.size) : ∀ (k : Nat) (v l i : Int), i + k = s.size → 0 ≤ i → LoopTo Try.prog (theBody Try.prog 79 5) (k + 1) (woF s v l i) M0 fun ex F' M' => M' = M0 ∧ ex = .exit 0 ∧ F' = woF s (wGo s k i v l).1 (wGo s k i v l).2 s.size := by
  intro k
  induction k with
  | zero =>
    intro v l i h1 h2
    refine wor_step s hs v l i 0 _ h2 (by omega) (fun h => absurd h (by omega)) (fun h => ⟨rfl, rfl, ?_⟩)
    rw [h]; rfl
  | succ k ih =>
    intro v l i h1 h2
    refine wor_step s hs v l i (k + 1) _ h2 (by omega) (fun h v' l' e1 e2 => ?_) (fun h => absurd h (by omega))
    subst e1 e2
    exact ih _ _ (i + 1) (by omega) (by omega)
noncomputable def worV (s : ByteArray) : Int := (wGo s s.size 0 0 (-1)).1
noncomputable def worL (s : ByteArray) : Int := (wGo s s.size 0 0 (-1)).2
namespace Sy
noncomputable abbrev lp_wor (s : ByteArray) : Lp Try.prog where
  f := 79
  key := 5
  S := formS (fun F M => some ()) (fun _ => woF s 0 (-1) 0) (fun _ => M0) (fun _ => limT s.size) (fun _ => .leaf (.exit 0, woF s (worV s) (worL s) s.size, M0)) [true, false, true, true, true, true, false, false, false, false, false, false, false, false, false, false, false, false, false, false, false, false, false, false, false, false, false, false, false, false, false, false, false, false, false, false, false, false, false, false, false, false, false, false, false, false, false, false, false, false, false, false, false, false, false, false, false, false, false, false]
  one := by kernel_rfl
  ok := formS_ok fun _ h1 => by
    refine ⟨s.size + 1, ?_⟩
    refine (Sy.wor_scan s h1 s.size 0 (-1) 0 (by omega) (Int.le_refl _)).mono fun ex F M hg => ?_
    obtain ⟨rfl, rfl, rfl⟩ := hg
    rfl
end Sy
namespace Sy
abbrev w2F (s : ByteArray) (v l : Int) : Fr := [some ((@AV.lit (@Value.string s))), none, some ((int (0 : Int))), some (int v), some (int l), none, none, none, none, none, none, none, none, none, none, none, none, none, none, none, none, none, none, none, none, none, none, none, none, none, none, none, none, none, none, none, none, none, none, none, none, none, none, none, none, none, none, none, none, none, none, none, none, none, none, none, none, none, none, none]
end Sy
theorem wL_le (c v l : Int) (h : l ≤ 3) : wL c v l ≤ 3 := by
  unfold wL
  split
  · omega
  · split
    · split
      · exact h
      · split
        · exact h
        · rename_i z
          rw [Bool.not_eq_true, leI_f] at z
          rw [w64_in (r := l - 1) (by omega)]; omega
    · exact h
theorem wGo_le (s : ByteArray) : ∀ (k : Nat) (i v l : Int), l ≤ 3 → (wGo s k i v l).2 ≤ 3
  | 0, _, _, _, h => h
  | k + 1, i, v, l, h => wGo_le s k _ _ _ (wL_le _ _ _ h)
noncomputable def mulT : Nat → Int → Int
  | 0, v => v
  | n + 1, v => mulT n (w64 (v * 10))
noncomputable def tenI (v l : Int) : Int := mulT l.toNat v
theorem Sy.wo2_scan (s : ByteArray) : ∀ (k : Nat) (v l : Int), l.toNat = k → l ≤ 3 → LoopTo Try.prog (theBody Try.prog 79 17) (k + 1) (w2F s v l) M0 fun ex F' M' => M' = M0 ∧ ex = .exit 2 ∧ ∃ l', F' = w2F s (tenI v l) l' := by
  intro k
  induction k with
  | zero =>
    intro v l h1 h2
    refine roundL [] [] 400 30 79 17 Try.func79 rfl (by kernel_rfl) [true, false, true, true, true, false, false, false, false, false, false, false, false, false, false, false, false, false, false, false, false, false, false, false, false, false, false, false, false, false, false, false, false, false, false, false, false, false, false, false, false, false, false, false, false, false, false, false, false, false, false, false, false, false, false, false, false, false, false, false] (.br .done .done) (.fork (!(leI l (0 : Int))) (.leaf (Ex.norm, ([(some (@AV.lit (@Value.string s))), none, (some (int (0 : Int))), (some (int (w64 (v * (10 : Int))))), (some (int (w64 (l - (1 : Int))))), none, none, none, none, none, none, none, none, none, none, none, none, none, none, none, none, none, none, none, none, none, none, none, none, none, none, none, none, none, none, none, none, none, none, none, none, none, none, none, none, none, none, none, none, none, none, none, none, none, none, none, none, none, none, none], (@Mem.mk 0 0 [])))) (.leaf ((@Ex.exit 2), ([(some (@AV.lit (@Value.string s))), none, (some (int (0 : Int))), (some (int v)), (some (int l)), none, none, none, none, none, none, none, none, none, none, none, none, none, none, none, none, none, none, none, none, none, none, none, none, none, none, none, none, none, none, none, none, none, none, none, none, none, none, none, none, none, none, none, none, none, none, none, none, none, none, none, none, none, none, none], (@Mem.mk 0 0 []))))) (by kernel_rfl) ?_
    refine fork_ok (fun h => ?_) (fun h => ?_)
    · simp only [Bool.not_eq_true', Bool.not_eq_false', leI_t, leI_f, eqI_t, eqI_f, inR_t, inR_f, isSo_t, isSo_f] at h
      omega
    · exact ⟨rfl, rfl, l, by unfold tenI; rw [h1]; rfl⟩
  | succ k ih =>
    intro v l h1 h2
    refine roundL [] [] 400 30 79 17 Try.func79 rfl (by kernel_rfl) [true, false, true, true, true, false, false, false, false, false, false, false, false, false, false, false, false, false, false, false, false, false, false, false, false, false, false, false, false, false, false, false, false, false, false, false, false, false, false, false, false, false, false, false, false, false, false, false, false, false, false, false, false, false, false, false, false, false, false, false] (.br .done .done) (.fork (!(leI l (0 : Int))) (.leaf (Ex.norm, ([(some (@AV.lit (@Value.string s))), none, (some (int (0 : Int))), (some (int (w64 (v * (10 : Int))))), (some (int (w64 (l - (1 : Int))))), none, none, none, none, none, none, none, none, none, none, none, none, none, none, none, none, none, none, none, none, none, none, none, none, none, none, none, none, none, none, none, none, none, none, none, none, none, none, none, none, none, none, none, none, none, none, none, none, none, none, none, none, none, none, none], (@Mem.mk 0 0 [])))) (.leaf ((@Ex.exit 2), ([(some (@AV.lit (@Value.string s))), none, (some (int (0 : Int))), (some (int v)), (some (int l)), none, none, none, none, none, none, none, none, none, none, none, none, none, none, none, none, none, none, none, none, none, none, none, none, none, none, none, none, none, none, none, none, none, none, none, none, none, none, none, none, none, none, none, none, none, none, none, none, none, none, none, none, none, none, none], (@Mem.mk 0 0 []))))) (by kernel_rfl) ?_
    refine fork_ok (fun h => ?_) (fun h => ?_)
    · simp only [Bool.not_eq_true', Bool.not_eq_false', leI_t, leI_f, eqI_t, eqI_f, inR_t, inR_f, isSo_t, isSo_f] at h
      rw [w64_in (r := l - 1) (by omega)]
      refine (ih (w64 (v * 10)) (l - 1) (by omega) (by omega)).mono fun ex F' M' ⟨e1, e2, l', e3⟩ => ⟨e1, e2, l', ?_⟩
      rw [e3]
      unfold tenI
      rw [h1, show (l - 1).toNat = k by omega]
      rfl
    · simp only [Bool.not_eq_true', Bool.not_eq_false', leI_t, leI_f, eqI_t, eqI_f, inR_t, inR_f, isSo_t, isSo_f] at h
      omega
namespace Sy
noncomputable abbrev lp_wo2 (s : ByteArray) : Lp Try.prog where
  f := 79
  key := 17
  S := formS (fun F M => match slotI F 3, slotI F 4 with | some v, some l => some (v, l) | _, _ => none) (fun x => w2F s x.1 x.2) (fun _ => M0) (fun x => x.2 ≤ 3) (fun x => .leaf (.exit 2, [some ((@AV.lit (@Value.string s))), none, some ((int (0 : Int))), some (int (tenI x.1 x.2)), none, none, none, none, none, none, none, none, none, none, none, none, none, none, none, none, none, none, none, none, none, none, none, none, none, none, none, none, none, none, none, none, none, none, none, none, none, none, none, none, none, none, none, none, none, none, none, none, none, none, none, none, none, none, none, none], M0)) [true, false, true, true, true, false, false, false, false, false, false, false, false, false, false, false, false, false, false, false, false, false, false, false, false, false, false, false, false, false, false, false, false, false, false, false, false, false, false, false, false, false, false, false, false, false, false, false, false, false, false, false, false, false, false, false, false, false, false, false]
  one := by kernel_rfl
  ok := formS_ok fun x h1 => by
    refine ⟨x.2.toNat + 1, ?_⟩
    refine ((Sy.wo2_scan s x.2.toNat x.1 x.2 rfl h1).out [true, false, true, true, false, false, false, false, false, false, false, false, false, false, false, false, false, false, false, false, false, false, false, false, false, false, false, false, false, false, false, false, false, false, false, false, false, false, false, false, false, false, false, false, false, false, false, false, false, false, false, false, false, false, false, false, false, false, false, false]).mono fun ex F M hg => ?_
    obtain ⟨F0, ⟨rfl, rfl, l', rfl⟩, rfl⟩ := hg
    rfl
end Sy
def holdC (a : Int) : Int := if leI a 1073741824 = true then (if leI (-1073741824) a = true then a else -1073741824) else 1073741824
theorem Sy.hold_r (a : Int) : CallTo Try.prog 82 [int a] M0 fun v _ => v = int (holdC a) :=
  toV [] [] 400 30 (.br .done (.br .done .done)) (.fork (!(leI a (1073741824 : Int))) (.leaf (int (1073741824 : Int))) (.fork (!(leI (-1073741824 : Int) a)) (.leaf (int (-1073741824 : Int))) (.leaf (int a)))) (by kernel_rfl) (by
    unfold holdC
    refine fork_ok (fun h => ?_) (fun h => fork_ok (fun g => ?_) (fun g => ?_))
    · simp only [Bool.not_eq_true'] at h
      rw [h]; exact rfl
    · simp only [Bool.not_eq_true', Bool.not_eq_false'] at h g
      rw [h, g]; exact rfl
    · simp only [Bool.not_eq_false'] at h g
      rw [h, g]; exact rfl)
noncomputable abbrev Sy.cHo : Con Try.prog := atX 82 (fun args => match args with | [.lit (.int .i64 a)] => some a | _ => none) (fun a => [int a]) (fun a => int (holdC a)) (fun _ => True) fun a _ => ⟨⟨⟨trivial, trivial⟩, trivial⟩, hold_r a⟩
noncomputable def worthT (s : ByteArray) : Int := tenI (worV s) (if leI 0 (worL s) = true then worL s else 3)
noncomputable def worthI (s : ByteArray) : Int := if eqI (byteAt s 0) 45 = true then holdC (IntKind.i64.wrap (0 - worthT s)) else holdC (worthT s)
theorem Sy.wor_t (s : ByteArray) (hs : limT s.size) (h0 : 0 < s.size) : CallTo Try.prog 79 [.lit (.string s)] M0 fun v _ => v = int (worthI s) :=
  toV [cHo] [lp_wor s, lp_wo2 s] 400 30 (.br (.yes (.br (.yes .done) (.yes .done))) (.yes (.br (.yes .done) (.yes .done)))) (.need (@isSo (@And (((some (@AV.lit (@Value.string s))) :: [none, (some (int (0 : Int))), (some (int (0 : Int))), (some (int (-1 : Int))), (some (int (0 : Int))), none, none, none, none, none, none, none, none, none, none, none, none, none, none, none, none, none, none, none, none, none, none, none, none, none, none, none, none, none, none, none, none, none, none, none, none, none, none, none, none, none, none, none, none, none, none, none, none, none, none, none, none, none, none]) = [(some (@AV.lit (@Value.string s))), none, (some (int (0 : Int))), (some (int (0 : Int))), (some (int (-1 : Int))), (some (int (0 : Int))), none, none, none, none, none, none, none, none, none, none, none, none, none, none, none, none, none, none, none, none, none, none, none, none, none, none, none, none, none, none, none, none, none, none, none, none, none, none, none, none, none, none, none, none, none, none, none, none, none, none, none, none, none, none]) ((@Mem.mk 0 0 []) = M0))) (.need (@isSo ((@ByteArray.size s) ≤ 1000000)) (.fork (!(leI (0 : Int) (@worL s))) (.need (@isSo (@And ([(some (@AV.lit (@Value.string s))), none, (some (int (0 : Int))), (some (int (@worV s))), (some (int (3 : Int))), none, none, none, none, none, none, none, none, none, none, none, none, none, none, none, none, none, none, none, none, none, none, none, none, none, none, none, none, none, none, none, none, none, none, none, none, none, none, none, none, none, none, none, none, none, none, none, none, none, none, none, none, none, none, none] = [(some (@AV.lit (@Value.string s))), none, (some (int (0 : Int))), (some (int (@worV s))), (some (int (Int.ofNat 3))), none, none, none, none, none, none, none, none, none, none, none, none, none, none, none, none, none, none, none, none, none, none, none, none, none, none, none, none, none, none, none, none, none, none, none, none, none, none, none, none, none, none, none, none, none, none, none, none, none, none, none, none, none, none, none]) ((@Mem.mk 0 0 []) = M0))) (.need (@isSo ((Int.ofNat 3) ≤ (3 : Int))) (.need (@inR (0 : Int) (@ByteArray.size s)) (.fork (eqI (@byteAt s 0) (45 : Int)) (.need (@isSo (@And ((@HAppend.hAppend _ _ _ _ (@HAppend.hAppend _ _ _ _ [] [(int (IntKind.i64.wrap ((0 : Int) - (@tenI (@worV s) (Int.ofNat 3)))))]) []) = [(int (IntKind.i64.wrap ((0 : Int) - (@tenI (@worV s) (Int.ofNat 3)))))]) True)) (.leaf (int (@holdC (IntKind.i64.wrap ((0 : Int) - (@tenI (@worV s) (Int.ofNat 3)))))))) (.need (@isSo (@And ((@HAppend.hAppend _ _ _ _ (@HAppend.hAppend _ _ _ _ [] [(int (@tenI (@worV s) (Int.ofNat 3)))]) []) = [(int (@tenI (@worV s) (Int.ofNat 3)))]) True)) (.leaf (int (@holdC (@tenI (@worV s) (Int.ofNat 3)))))))))) (.need (@isSo (@And ([(some (@AV.lit (@Value.string s))), none, (some (int (0 : Int))), (some (int (@worV s))), (some (int (@worL s))), none, none, none, none, none, none, none, none, none, none, none, none, none, none, none, none, none, none, none, none, none, none, none, none, none, none, none, none, none, none, none, none, none, none, none, none, none, none, none, none, none, none, none, none, none, none, none, none, none, none, none, none, none, none, none] = [(some (@AV.lit (@Value.string s))), none, (some (int (0 : Int))), (some (int (@worV s))), (some (int (@worL s))), none, none, none, none, none, none, none, none, none, none, none, none, none, none, none, none, none, none, none, none, none, none, none, none, none, none, none, none, none, none, none, none, none, none, none, none, none, none, none, none, none, none, none, none, none, none, none, none, none, none, none, none, none, none, none]) ((@Mem.mk 0 0 []) = M0))) (.need (@isSo ((@worL s) ≤ (3 : Int))) (.need (@inR (0 : Int) (@ByteArray.size s)) (.fork (eqI (@byteAt s 0) (45 : Int)) (.need (@isSo (@And ((@HAppend.hAppend _ _ _ _ (@HAppend.hAppend _ _ _ _ [] [(int (IntKind.i64.wrap ((0 : Int) - (@tenI (@worV s) (@worL s)))))]) []) = [(int (IntKind.i64.wrap ((0 : Int) - (@tenI (@worV s) (@worL s)))))]) True)) (.leaf (int (@holdC (IntKind.i64.wrap ((0 : Int) - (@tenI (@worV s) (@worL s)))))))) (.need (@isSo (@And ((@HAppend.hAppend _ _ _ _ (@HAppend.hAppend _ _ _ _ [] [(int (@tenI (@worV s) (@worL s)))]) []) = [(int (@tenI (@worV s) (@worL s)))]) True)) (.leaf (int (@holdC (@tenI (@worV s) (@worL s))))))))))))) (by kernel_rfl) (by
    have hr : inR 0 s.size = true := by rw [inR_t]; omega
    have hl : worL s ≤ 3 := wGo_le s _ _ _ _ (by decide)
    unfold worthI worthT
    refine need_so ⟨rfl, rfl⟩ (need_so hs (fork_ok (fun q => ?_) (fun q => ?_)))
    · simp only [Bool.not_eq_true'] at q
      rw [q]
      refine need_so ⟨rfl, rfl⟩ (need_so (by decide) (need_t hr (fork_ok (fun e => need_so ⟨rfl, trivial⟩ ?_) (fun e => need_so ⟨rfl, trivial⟩ ?_))))
      · rw [e]; exact rfl
      · rw [e]; exact rfl
    · simp only [Bool.not_eq_false'] at q
      rw [q]
      refine need_so ⟨rfl, rfl⟩ (need_so hl (need_t hr (fork_ok (fun e => need_so ⟨rfl, trivial⟩ ?_) (fun e => need_so ⟨rfl, trivial⟩ ?_))))
      · rw [e]; exact rfl
      · rw [e]; exact rfl)
noncomputable abbrev Sy.cWor : Con Try.prog := atX 79 (fun args => match args with | [.lit (.string s)] => some s | _ => none) (fun s => [.lit (.string s)]) (fun s => int (worthI s)) (fun s => limT s.size ∧ 0 < s.size) fun s h => ⟨⟨⟨trivial, trivial⟩, trivial⟩, wor_t s h.1 h.2⟩
def sgnI (c : Int) : Int := if eqI 58 c = true then 10 else if eqI 59 c = true then 11 else if eqI 44 c = true then 12 else if eqI 40 c = true then 13 else if eqI 41 c = true then 14 else if eqI 91 c = true then 15 else if eqI 93 c = true then 16 else if eqI 123 c = true then 17 else if eqI 125 c = true then 18 else 0
theorem Sy.sig_t (c : Int) : CallTo Try.prog 59 [.lit (.int .u8 c)] M0 fun v _ => v = int (sgnI c) :=
  toV [] [] 400 30 (.auto 1 (.br .done (.auto 1 (.br .done (.auto 1 (.br .done (.auto 1 (.br .done (.auto 1 (.br .done (.auto 1 (.br .done (.auto 1 (.br .done (.auto 1 (.br .done (.auto 1 (.br .done (.auto 0 .done))))))))))))))))))) (.fork (eqI (58 : Int) c) (.leaf (int (10 : Int))) (.fork (eqI (59 : Int) c) (.leaf (int (11 : Int))) (.fork (eqI (44 : Int) c) (.leaf (int (12 : Int))) (.fork (eqI (40 : Int) c) (.leaf (int (13 : Int))) (.fork (eqI (41 : Int) c) (.leaf (int (14 : Int))) (.fork (eqI (91 : Int) c) (.leaf (int (15 : Int))) (.fork (eqI (93 : Int) c) (.leaf (int (16 : Int))) (.fork (eqI (123 : Int) c) (.leaf (int (17 : Int))) (.fork (eqI (125 : Int) c) (.leaf (int (18 : Int))) (.leaf (int (0 : Int)))))))))))) (by kernel_rfl) (by
    unfold sgnI
    repeat' (first | refine fork_ok (fun _ => ?_) (fun _ => ?_))
    all_goals refine leaf_int ?_
    all_goals simp_all)
noncomputable abbrev Sy.cSig : Con Try.prog := atX 59 (fun args => match args with | [.lit (.int .u8 c)] => some c | _ => none) (fun c => [.lit (.int .u8 c)]) (fun c => int (sgnI c)) (fun _ => True) fun c _ => ⟨⟨⟨trivial, trivial⟩, trivial⟩, sig_t c⟩
end Go.Proofs.Ytconlneohilnmaa
