/-
  Lemmas for QueryPrints, part 5; no conditions.
-/
import Derived.Test.YtlmanlpgknhfpaaQppD
set_option linter.unusedVariables false
set_option linter.unusedSimpArgs false
namespace Go.Proofs.Ytlmanlpgknhfpaa
open Go Go.RowKit Pl Sy
theorem fork_t {β : Type} {c : Bool} {t f : Tr β} {G : β → Prop} (hc : c = true) (ht : t.Ok G) : (Tr.fork c t f).Ok G := fork_ok (fun _ => ht) (fun h => absurd (hc.symm.trans h) (by decide))
theorem fork_f {β : Type} {c : Bool} {t f : Tr β} {G : β → Prop} (hc : c = false) (hf : f.Ok G) : (Tr.fork c t f).Ok G := fork_ok (fun h => absurd (hc.symm.trans h) (by decide)) (fun _ => hf)
theorem eqI_self (x : Int) : eqI x x = true := by rw [eqI_t]
theorem n_t {x : Bool} (h : (!x) = true) : x = false := by cases x <;> simp_all
theorem n_f {x : Bool} (h : (!x) = false) : x = true := by cases x <;> simp_all
def frF (T : List TokV) (a : Int) : Int := nmdF (T.getD a.toNat tok0).text
def frO (T : List TokV) (a : Int) : Int := nmdO (T.getD a.toNat tok0).text
def frS (T : List TokV) (a : Int) : Int := skI T (a + 1)
def frQ (T : List TokV) (a : Int) : Int := opA T (skI T (frS T a))
def frG {α : Type} (T : List TokV) (a : Int) (no col opm emp bad full : α) : α :=
  if leI (frF T a) 0 then no else if eqI (kindI T (frS T a)) 10 then col else if eqI (frO T a) 3 then (if doneB T (frS T a) then emp else if eqI (opI T (skI T (frS T a))) 0 || eqI (frF T a) 6 then bad else full) else opm
def frHo (T : List TokV) (a : Int) : Int := frG T a 0 (frO T a) 0 0 0 (opI T (skI T (frS T a)))
def frHn (T : List TokV) (a : Int) : Int := frG T a 0 (bnN T (frS T a + 1) (frF T a)) 0 0 0 (bnN T (frQ T a) (frF T a))
def frHd (T : List TokV) (a : Int) : Int := frG T a 0 (bnD T (frS T a + 1) (frF T a)) 0 0 0 (bnD T (frQ T a) (frF T a))
def frB (T : List TokV) (a : Int) : Bool := frG T a false (bnB T (frS T a + 1) (frF T a) && doneB T (bnA T (frS T a + 1) (frF T a))) false (doneB T (skI T (frS T a))) false (bnB T (frQ T a) (frF T a) && doneB T (bnA T (frQ T a) (frF T a)))
def frA (T : List TokV) (a : Int) : Int := frG T a (frS T a) (if bnB T (frS T a + 1) (frF T a) then skI T (bnA T (frS T a + 1) (frF T a)) else bnA T (frS T a + 1) (frF T a)) (frS T a) (skI T (skI T (frS T a))) (frQ T a) (if bnB T (frQ T a) (frF T a) then skI T (bnA T (frQ T a) (frF T a)) else bnA T (frQ T a) (frF T a))
def frV (T : List TokV) (a : Int) : QNodeV := ⟨4, 0, frF T a, 0, 0, 0, frHo T a, frHn T a, frHd T a⟩
abbrev Sy.qG (q : QNodeV) : AV := qa q.kind q.count q.feat q.lo q.ln q.ld q.ho q.hn q.hd
abbrev Sy.feG (q : QNodeV) (b : Bool) : AV := .tup [qG q, boo b]
theorem Sy.feG_free (q : QNodeV) (b : Bool) : Free (feG q b) := ⟨⟨trivial, trivial, trivial, trivial, trivial, trivial, trivial, trivial, trivial, trivial⟩, trivial, trivial⟩
theorem Sy.frn_t (T : List TokV) (a : Int) (h : InT T (a + 1)) (h0 : 0 ≤ a) (hs : (T.getD a.toNat tok0).text.size ≤ 9223372036854775807) : CallTo Try.prog 87 [.ptr 0 0] (rdM T a) fun v M' => v = feG (frV T a) (frB T a) ∧ M'.get 0 = some (rdB T (frA T a)) :=
  to (G := fun r => r.1 = feG (frV T a) (frB T a) ∧ r.2.get 0 = some (rdB T (frA T a))) [cSpc T, cKind T, cBnd T, cDone T, cOp T, cNmd] [] 400 30 (.yes (.yes (.yes (.br (.br (.auto 0 (.yes (.auto 2 (.yes (.auto 5 .done))))) (.auto 1 .done)) (.yes (.br (.yes (.br (.auto 0 (.yes (.auto 2 (.yes (.auto 2 (.yes (.yes (.yes .done)))))))) (.auto 1 .done))) (.br .done (.yes (.br (.yes (.br (.auto 1 (.br .done (.yes (.br (.auto 0 (.yes (.auto 2 (.yes (.auto 2 (.yes (.yes (.yes .done)))))))) (.auto 1 .done))))) (.auto 2 .done))) (.br (.auto 0 (.yes (.auto 2 (.yes (.auto 5 .done))))) (.auto 1 .done))))))))))) (let e1 := (@AV.view (T).length 3 (fun y0 => (fun y1 => (@AV.lit ([(@Value.int IntKind.i64 ((T.getD y0 tok0)).kind), (@Value.string ((T.getD y0 tok0)).text), (@Value.int IntKind.i64 ((T.getD y0 tok0)).n)].getD y1 (@Value.tuple (@Array.mk _ []))))))); let e2 := (w64 (a + (1 : Int))); let e3 := (([] : List AV) = []); let e4 := (@nmdF ((T.getD (a).toNat tok0)).text); let e5 := (!(leI e4 (0 : Int))); let e6 := (@skI T e2); let e7 := (some (@Blk.mk [e1, (int e6)] 55 none)); let e8 := (@isSo (@And (e7 = e7) (@And e3 (@InT T e6)))); let e9 := (int (4 : Int)); let e10 := (int (0 : Int)); let e11 := (int e4); let e12 := (e9 :: e10 :: (e11 :: (e10 :: e10 :: e10 :: e10 :: e10 :: e10 :: (@List.drop _ (0 + ((e9 :: e10 :: (e11 :: [e10, e10, e10, e10, e10, e10]))).length) [e10, e10, e10, e10, e10, e10, e10, e10, e10])))); let e13 := (@AV.agg (@List.take _ 9 e12)); let e14 := ((1 + 1) + 1); let e15 := (((((0 + 1) + 1) + 1) + 1) + 1); let e16 := (@Value.int IntKind.i64 (0 : Int)); let e17 := (e9 :: e10 :: (e11 :: (e10 :: e10 :: e10 :: e10 :: e10 :: e10 :: (@List.drop _ (0 + ((e9 :: e10 :: (e11 :: (@List.drop _ (2 + ([e11]).length) (e9 :: (@List.drop _ 1 (@List.map _ _ AV.lit (@Array.toList _ (@Array.mk _ [e16, e16, e16, e16, e16, e16, e16, e16, e16]))))))))).length) [e10, e10, e10, e10, e10, e10, e10, e10, e10])))); let e18 := (some (@Blk.mk e17 45 none)); let e19 := (some (@Blk.mk e12 45 none)); let e20 := (@skI T e6); let e21 := (some (@Blk.mk [e1, (int e20)] 55 none)); let e22 := (@AV.tup [e13, (boo false)]); let e23 := (w64 (e6 + (1 : Int))); let e24 := (@nmdO ((T.getD (a).toNat tok0)).text); let e25 := (int e24); let e26 := (@bnA T e23 e4); let e27 := (some (@Blk.mk [e1, (int e26)] 55 none)); let e28 := (int (@bnN T e23 e4)); let e29 := (int (@bnD T e23 e4)); let e30 := (e9 :: e10 :: (e11 :: (e10 :: e10 :: e10 :: e25 :: e28 :: e29 :: (@List.drop _ (0 + ((e9 :: e10 :: (e11 :: [e10, e10, e10, e25, e28, e29]))).length) [e10, e10, e10, e10, e10, e10, e10, e10, e10])))); let e31 := (@AV.agg (@List.take _ 9 e30)); let e32 := ((((e15 + 1) + 1) + 1) + 1); let e33 := (some (@Blk.mk (e9 :: e10 :: (e11 :: (e10 :: e10 :: e10 :: e25 :: e28 :: e29 :: (@List.drop _ (6 + ([e25, e28, e29]).length) e17)))) 45 none)); let e34 := (@isSo (@And (e21 = e21) (@And e3 (@InT T e20)))); let e35 := (@opA T e20); let e36 := (some (@Blk.mk [e1, (int e35)] 55 none)); let e37 := (int (@opI T e20)); let e38 := (@bnA T e35 e4); let e39 := (some (@Blk.mk [e1, (int e38)] 55 none)); let e40 := (int (@bnN T e35 e4)); let e41 := (int (@bnD T e35 e4)); let e42 := (e9 :: e10 :: (e11 :: (e10 :: e10 :: e10 :: e37 :: e40 :: e41 :: (@List.drop _ (0 + ((e9 :: e10 :: (e11 :: [e10, e10, e10, e37, e40, e41]))).length) [e10, e10, e10, e10, e10, e10, e10, e10, e10])))); let e43 := (@AV.agg (@List.take _ 9 e42)); let e44 := (some (@Blk.mk (e9 :: e10 :: (e11 :: (e10 :: e10 :: e10 :: e37 :: e40 :: e41 :: (@List.drop _ (6 + ([e37, e40, e41]).length) e17)))) 45 none)); (.need (@inR a (T).length) (.need (@isSo ((@ByteArray.size ((T.getD (a).toNat tok0)).text) ≤ 9223372036854775807)) (.need (@isSo (@And ((some (@Blk.mk (e1 :: [(int e2)]) 55 none)) = (some (@Blk.mk [e1, (int e2)] 55 none))) (@And e3 (@InT T e2)))) (.fork (!e5) (.fork e5 (.need e8 (.need (eqI e4 e4) (.leaf ((@AV.tup [e13, (boo (@doneB T e6))]), (@Mem.mk e14 e15 (e18 :: [e19, e21])))))) (.leaf (e22, (@Mem.mk e14 ((((0 + 1) + 1) + 1) + 1) (e18 :: [e19, e7]))))) (.need e8 (.fork (eqI (@kindI T e6) (10 : Int)) (.need (@isSo (@And ((some (@Blk.mk (e1 :: [(int e23)]) 55 none)) = (some (@Blk.mk [e1, (int e23)] 55 none))) (@And ([e11, e25] = [e11, e25]) (@InT T e23)))) (.fork (@bnB T e23 e4) (.need (@isSo (@And (e27 = e27) (@And e3 (@InT T e26)))) (.need (eqI e4 e4) (.need (eqI e24 e24) (.need (eqI (@bnN T e23 e4) (@bnN T e23 e4)) (.need (eqI (@bnD T e23 e4) (@bnD T e23 e4)) (.leaf ((@AV.tup [e31, (boo (@doneB T e26))]), (@Mem.mk e14 e32 (e33 :: [(some (@Blk.mk e30 45 none)), (some (@Blk.mk [e1, (int (@skI T e26))] 55 none))]))))))))) (.leaf ((@AV.tup [e31, (boo false)]), (@Mem.mk e14 (((e15 + 1) + 1) + 1) (e33 :: [(some (@Blk.mk e30 45 none)), e27])))))) (.fork (!(eqI e24 (3 : Int))) (.leaf (e22, (@Mem.mk e14 e15 (e18 :: [e19, e7])))) (.need e8 (.fork (!(@doneB T e6)) (.need e34 (.fork (!(eqI (@opI T e20) (0 : Int))) (.fork (!(!(eqI e4 (6 : Int)))) (.leaf (e22, (@Mem.mk e14 ((e15 + 1) + 1) (e18 :: [e19, e36])))) (.need (@isSo (@And (e36 = e36) (@And ([e11, e37] = [e11, e37]) (@InT T e35)))) (.fork (@bnB T e35 e4) (.need (@isSo (@And (e39 = e39) (@And e3 (@InT T e38)))) (.need (eqI e4 e4) (.need (eqI (@opI T e20) (@opI T e20)) (.need (eqI (@bnN T e35 e4) (@bnN T e35 e4)) (.need (eqI (@bnD T e35 e4) (@bnD T e35 e4)) (.leaf ((@AV.tup [e43, (boo (@doneB T e38))]), (@Mem.mk e14 (e32 + 1) (e44 :: [(some (@Blk.mk e42 45 none)), (some (@Blk.mk [e1, (int (@skI T e38))] 55 none))]))))))))) (.leaf ((@AV.tup [e43, (boo false)]), (@Mem.mk e14 e32 (e44 :: [(some (@Blk.mk e42 45 none)), e39]))))))) (.leaf (e22, (@Mem.mk e14 ((e15 + 1) + 1) (e18 :: [e19, e36])))))) (.fork e5 (.need e34 (.need (eqI e4 e4) (.leaf ((@AV.tup [e13, (boo (@doneB T e20))]), (@Mem.mk e14 ((e15 + 1) + 1) (e18 :: [e19, (some (@Blk.mk [e1, (int (@skI T e20))] 55 none))])))))) (.leaf (e22, (@Mem.mk e14 (e15 + 1) (e18 :: [e19, e21]))))))))))))))) (by kernel_rfl) (by
    have hl : T.length ≤ 17592186044416 := h.2
    have h1 := h.1.2
    have e1 : w64 (a + 1) = a + 1 := w64_in (by omega)
    have hS : InT T (frS T a) := skI_in h
    rw [e1]
    refine need_t (by rw [inR_t]; omega) (need_so hs (need_so ⟨rfl, rfl, h⟩ (fork_ok (fun c1 => ?_) (fun c1 => ?_))))
    · rw [Bool.not_eq_true', Bool.not_eq_false'] at c1
      refine fork_f (by rw [c1]; rfl) ?_
      have c1 : leI (frF T a) 0 = true := c1
      simp only [frV, frHo, frHn, frHd, frB, frA, frG, c1, if_true]
      exact ⟨rfl, rfl⟩
    · have c1' : leI (frF T a) 0 = false := n_t (n_f c1)
      refine need_so ⟨rfl, rfl, hS⟩ (fork_ok (fun c2 => ?_) (fun c2 => ?_))
      · have hS1 : InT T (frS T a + 1) := kind_step hS c2 (by decide)
        have e2 : w64 (skI T (a + 1) + 1) = skI T (a + 1) + 1 := w64_in (by have := hS1.1; unfold frS at this; omega)
        rw [e2]
        have c2' : eqI (kindI T (frS T a)) 10 = true := c2
        refine need_so ⟨rfl, rfl, hS1⟩ (fork_ok (fun c3 => need_so ⟨rfl, rfl, bnA_in hS1⟩ (need_t (eqI_self _) (need_t (eqI_self _) (need_t (eqI_self _) (need_t (eqI_self _) ?_))))) (fun c3 => ?_))
        · have c3' : bnB T (frS T a + 1) (frF T a) = true := c3
          simp only [frV, frHo, frHn, frHd, frB, frA, frG, c1', c2', c3', if_true, Bool.false_eq_true, if_false, Bool.true_and]
          exact ⟨rfl, rfl⟩
        · have c3' : bnB T (frS T a + 1) (frF T a) = false := c3
          simp only [frV, frHo, frHn, frHd, frB, frA, frG, c1', c2', c3', if_true, Bool.false_eq_true, if_false, Bool.false_and]
          exact ⟨rfl, rfl⟩
      · have c2' : eqI (kindI T (frS T a)) 10 = false := c2
        refine fork_ok (fun c3 => ?_) (fun c3 => need_so ⟨rfl, rfl, hS⟩ (fork_ok (fun c4 => need_so ⟨rfl, rfl, skI_in hS⟩ ?_) (fun c4 => ?_)))
        · have c3' : eqI (frO T a) 3 = false := n_t c3
          simp only [frV, frHo, frHn, frHd, frB, frA, frG, c1', c2', c3', Bool.false_eq_true, if_false]
          exact ⟨rfl, rfl⟩
        · have c3' : eqI (frO T a) 3 = true := n_f c3
          have c4' : doneB T (frS T a) = false := n_t c4
          have hQ : InT T (frQ T a) := opA_in (skI_in hS)
          refine fork_ok (fun c5 => ?_) (fun c5 => ?_)
          · have c5' : eqI (opI T (skI T (frS T a))) 0 = false := n_t c5
            refine fork_ok (fun c6 => ?_) (fun c6 => ?_)
            · have c6' : eqI (frF T a) 6 = true := n_f (n_t c6)
              simp only [frV, frHo, frHn, frHd, frB, frA, frG, c1', c2', c3', c4', c5', c6', if_true, Bool.false_eq_true, if_false, Bool.false_or]
              exact ⟨rfl, rfl⟩
            · have c6' : eqI (frF T a) 6 = false := n_t (n_f c6)
              refine need_so ⟨rfl, rfl, hQ⟩ (fork_ok (fun c7 => need_so ⟨rfl, rfl, bnA_in hQ⟩ (need_t (eqI_self _) (need_t (eqI_self _) (need_t (eqI_self _) (need_t (eqI_self _) ?_))))) (fun c7 => ?_))
              · have c7' : bnB T (frQ T a) (frF T a) = true := c7
                simp only [frV, frHo, frHn, frHd, frB, frA, frG, c1', c2', c3', c4', c5', c6', c7', if_true, Bool.false_eq_true, if_false, Bool.or_self, Bool.true_and]
                exact ⟨rfl, rfl⟩
              · have c7' : bnB T (frQ T a) (frF T a) = false := c7
                simp only [frV, frHo, frHn, frHd, frB, frA, frG, c1', c2', c3', c4', c5', c6', c7', if_true, Bool.false_eq_true, if_false, Bool.or_self, Bool.false_and]
                exact ⟨rfl, rfl⟩
          · have c5' : eqI (opI T (skI T (frS T a))) 0 = true := n_f c5
            simp only [frV, frHo, frHn, frHd, frB, frA, frG, c1', c2', c3', c4', c5', if_true, Bool.false_eq_true, if_false, Bool.true_or]
            exact ⟨rfl, rfl⟩
        · have c3' : eqI (frO T a) 3 = true := n_f c3
          have c4' : doneB T (frS T a) = true := n_f c4
          refine fork_t (n_f c1) (need_so ⟨rfl, rfl, skI_in hS⟩ (need_t (eqI_self _) ?_))
          simp only [frV, frHo, frHn, frHd, frB, frA, frG, c1', c2', c3', c4', if_true, Bool.false_eq_true, if_false]
          exact ⟨rfl, rfl⟩)
def TxtOk (T : List TokV) : Prop := ∀ t ∈ T, t.text.size ≤ 9223372036854775807
theorem TxtOk.at {T : List TokV} (h : TxtOk T) (k : Nat) : (T.getD k tok0).text.size ≤ 9223372036854775807 := by
  rw [List.getD_eq_getElem?_getD]
  cases hk : T[k]? with
  | none => show 0 ≤ _; omega
  | some x => exact h x (List.mem_of_getElem? hk)
noncomputable abbrev Sy.cFrn (T : List TokV) : Con Try.prog := conR T 87 (fun r => match r with | [] => some () | _ => none) (fun _ => []) (fun a _ => feG (frV T a) (frB T a)) (fun a _ => frA T a) (fun a _ => TxtOk T ∧ 0 ≤ a ∧ InT T (a + 1)) fun a _ h => by
  refine ⟨⟨trivial, feG_free _ _⟩, (frn_t T a h.2.2 h.2.1 (h.1.at _)).mono fun v M' ⟨q1, q2⟩ => ?_⟩
  subst q1
  exact ⟨Frz.free _ _ (feG_free _ _), q2⟩
namespace Sy
abbrev qzB : Blk := ⟨[int 0, int 0, int 0, int 0, int 0, int 0, int 0, int 0, int 0], 45, none⟩
abbrev bcM (T : List TokV) (a b : Int) : Mem := ⟨3, 0, [some (rdB T b), some qzB, some (rdB T a)]⟩
abbrev bcF : Fr := (some ((@AV.ptr 0 0)) :: none :: some (.ptr 1 0) :: none :: some (.ptr 2 0) :: (nn11 (nn48 (nn48 []))))
end Sy
end Go.Proofs.Ytlmanlpgknhfpaa
namespace Go.Proofs.Ytlmanlpgknhfpaa
open Go Go.RowKit Pl Sy
abbrev spT : TokV := ⟨20, ⟨#[]⟩, 0⟩
abbrev eqT : TokV := ⟨19, ⟨#[61]⟩, 0⟩
abbrev ltT : TokV := ⟨19, ⟨#[60]⟩, 0⟩
abbrev gtT : TokV := ⟨19, ⟨#[62]⟩, 0⟩
abbrev slT : TokV := ⟨19, ⟨#[47]⟩, 0⟩
abbrev opnT : TokV := ⟨13, ⟨#[]⟩, 0⟩
abbrev cloT : TokV := ⟨14, ⟨#[]⟩, 0⟩
abbrev idT (s : ByteArray) : TokV := ⟨1, s, 0⟩
def opT (o : Int) : List TokV := if o = 1 then [ltT] else if o = 2 then [ltT, eqT] else if o = 3 then [eqT] else if o = 4 then [gtT, eqT] else [gtT]
def valT (f n d : Int) : List TokV := if f = 5 then [⟨7, ⟨#[]⟩, n⟩, spT, slT, spT, ⟨7, ⟨#[]⟩, d⟩] else [⟨9, ⟨#[112, 120]⟩, n⟩]
def trnT (n : Int) : List TokV := [⟨10, ⟨#[]⟩, 0⟩, spT, idT (if n = 1 then ⟨#[112, 111, 114, 116, 114, 97, 105, 116]⟩ else ⟨#[108, 97, 110, 100, 115, 99, 97, 112, 101]⟩)]
theorem opT_len (o : Int) : (opT o).length ≤ 2 := by unfold opT; (repeat' split) <;> simp
theorem valT_len (f n d : Int) : (valT f n d).length ≤ 5 := by unfold valT; split <;> simp
theorem Sy.wsp_t (L : List TokV) (hl : limT (L.length + 1)) : CallTo Try.prog 17 [.ptr 0 0] (wM L) fun v M' => v = .tup [] ∧ WrEnd M' (L ++ [spT]) :=
  to (G := fun r => r.1 = .tup [] ∧ WrEnd r.2 (L ++ [spT])) [cPutV] [] 400 30 (.yes .done) (.need (@isSo (@And ([(int (20 : Int)), (@AV.lit (@Value.string (@ByteArray.mk (@Array.mk _ [])))), (int (0 : Int))] = [(int (20 : Int)), (@AV.lit (@Value.string (@ByteArray.mk (@Array.mk _ [])))), (int (0 : Int))]) (@And (@TokRows (L).length (@kcell L)) (@And ((L).length = (L).length) (@And True (((L).length + 1) ≤ 1000000)))))) (.leaf ((@AV.tup []), (@Mem.mk (2 + 1) ((0 + 1) + 1) ((some (@Blk.mk [] 40 (some (@Rw.mk ((L).length + 1) 3 (@appc (L).length (@kcell L) (@kcell [(@TokV.mk (20 : Int) (@ByteArray.mk (@Array.mk _ [])) (0 : Int))])))))) :: [none, (some (@Blk.mk [(@AV.own 2 ((L).length + 1) 3)] 48 none))]))))) (by kernel_rfl) (by
    unfold limT at hl
    exact (need_so ⟨rfl, (by repeat' (first | exact TokRows.kc _ | refine TokRows.app ?_ rfl)), rfl, trivial, (by (try unfold limT); (try simp only [List.length_cons, List.length_nil] at *); omega)⟩ ⟨rfl, _, _, _, rfl, rfl, by decide, CellIs.cast (CellIs.app2 (CellIs.kc _) rfl) (by simp [])⟩))
noncomputable abbrev Sy.cSp : Con Try.prog := conV 17 (fun r => match r with | [] => some () | _ => none) (fun _ => []) (fun _ => .tup []) (fun _ => [spT]) (fun _ => True) fun L y _ hl => ⟨⟨trivial, trivial⟩, wsp_t L hl⟩
theorem Sy.wop_t (L : List TokV) (o : Int) (h0 : 1 ≤ o) (h5 : o ≤ 5) (hl : limT (L.length + (opT o).length)) : CallTo Try.prog 64 [.ptr 0 0, int o] (wM L) fun v M' => v = .tup [] ∧ WrEnd M' (L ++ opT o) := by
  unfold limT at hl
  have hc : o = 1 ∨ o = 2 ∨ o = 3 ∨ o = 4 ∨ o = 5 := by omega
  rcases hc with rfl | rfl | rfl | rfl | rfl <;> simp [opT] at hl
  · exact to (G := fun r => r.1 = .tup [] ∧ WrEnd r.2 (L ++ opT 1)) [cPutV] [] 400 30 (.auto 1 (.yes (.auto 3 .done))) (.need (@isSo (@And ([(int (19 : Int)), (@AV.lit (@Value.string (@ByteArray.mk (@Array.mk _ [(60 : UInt8)])))), (int (0 : Int))] = [(int (19 : Int)), (@AV.lit (@Value.string (@ByteArray.mk (@Array.mk _ [(60 : UInt8)])))), (int (0 : Int))]) (@And (@TokRows (L).length (@kcell L)) (@And ((L).length = (L).length) (@And True (((L).length + 1) ≤ 1000000)))))) (.leaf ((@AV.tup []), (@Mem.mk (2 + 1) ((0 + 1) + 1) ((some (@Blk.mk [] 40 (some (@Rw.mk ((L).length + 1) 3 (@appc (L).length (@kcell L) (@kcell [(@TokV.mk (19 : Int) (@ByteArray.mk (@Array.mk _ [(60 : UInt8)])) (0 : Int))])))))) :: [none, (some (@Blk.mk [(@AV.own 2 ((L).length + 1) 3)] 48 none))]))))) (by kernel_rfl) (need_so ⟨rfl, (by repeat' (first | exact TokRows.kc _ | refine TokRows.app ?_ rfl)), rfl, trivial, (by (try unfold limT); (try simp only [List.length_cons, List.length_nil] at *); omega)⟩ ⟨rfl, _, _, _, rfl, rfl, by decide, CellIs.cast (CellIs.app2 (CellIs.kc _) rfl) (by simp [opT])⟩)
  · exact to (G := fun r => r.1 = .tup [] ∧ WrEnd r.2 (L ++ opT 2)) [cPutV] [] 400 30 (.auto 1 (.yes (.auto 3 (.yes .done)))) (let e1 := (int (19 : Int)); let e2 := (@ByteArray.mk (@Array.mk _ [(60 : UInt8)])); let e3 := (int (0 : Int)); let e4 := ((L).length + 1); let e5 := (@ByteArray.mk (@Array.mk _ [(61 : UInt8)])); let e6 := (@appc (L).length (@kcell L) (@kcell [(@TokV.mk (19 : Int) e2 (0 : Int))])); (.need (@isSo (@And ([e1, (@AV.lit (@Value.string e2)), e3] = [e1, (@AV.lit (@Value.string e2)), e3]) (@And (@TokRows (L).length (@kcell L)) (@And ((L).length = (L).length) (@And True (e4 ≤ 1000000)))))) (.need (@isSo (@And ([e1, (@AV.lit (@Value.string e5)), e3] = [e1, (@AV.lit (@Value.string e5)), e3]) (@And (@TokRows e4 e6) (@And (e4 = e4) (@And True ((e4 + 1) ≤ 1000000)))))) (.leaf ((@AV.tup []), (@Mem.mk ((2 + 1) + 1) ((((0 + 1) + 1) + 1) + 1) ((some (@Blk.mk [] 40 (some (@Rw.mk (e4 + 1) 3 (@appc e4 e6 (@kcell [(@TokV.mk (19 : Int) e5 (0 : Int))])))))) :: (none :: [none, (some (@Blk.mk [(@AV.own (2 + 1) (e4 + 1) 3)] 48 none))])))))))) (by kernel_rfl) (need_so ⟨rfl, (by repeat' (first | exact TokRows.kc _ | refine TokRows.app ?_ rfl)), rfl, trivial, (by (try unfold limT); (try simp only [List.length_cons, List.length_nil] at *); omega)⟩ (need_so ⟨rfl, (by repeat' (first | exact TokRows.kc _ | refine TokRows.app ?_ rfl)), rfl, trivial, (by (try unfold limT); (try simp only [List.length_cons, List.length_nil] at *); omega)⟩ ⟨rfl, _, _, _, rfl, rfl, by decide, CellIs.cast (CellIs.app2 (CellIs.app2 (CellIs.kc _) rfl) rfl) (by simp [opT])⟩))
  · exact to (G := fun r => r.1 = .tup [] ∧ WrEnd r.2 (L ++ opT 3)) [cPutV] [] 400 30 (.auto 7 (.yes .done)) (.need (@isSo (@And ([(int (19 : Int)), (@AV.lit (@Value.string (@ByteArray.mk (@Array.mk _ [(61 : UInt8)])))), (int (0 : Int))] = [(int (19 : Int)), (@AV.lit (@Value.string (@ByteArray.mk (@Array.mk _ [(61 : UInt8)])))), (int (0 : Int))]) (@And (@TokRows (L).length (@kcell L)) (@And ((L).length = (L).length) (@And True (((L).length + 1) ≤ 1000000)))))) (.leaf ((@AV.tup []), (@Mem.mk (2 + 1) ((0 + 1) + 1) ((some (@Blk.mk [] 40 (some (@Rw.mk ((L).length + 1) 3 (@appc (L).length (@kcell L) (@kcell [(@TokV.mk (19 : Int) (@ByteArray.mk (@Array.mk _ [(61 : UInt8)])) (0 : Int))])))))) :: [none, (some (@Blk.mk [(@AV.own 2 ((L).length + 1) 3)] 48 none))]))))) (by kernel_rfl) (need_so ⟨rfl, (by repeat' (first | exact TokRows.kc _ | refine TokRows.app ?_ rfl)), rfl, trivial, (by (try unfold limT); (try simp only [List.length_cons, List.length_nil] at *); omega)⟩ ⟨rfl, _, _, _, rfl, rfl, by decide, CellIs.cast (CellIs.app2 (CellIs.kc _) rfl) (by simp [opT])⟩)
  · exact to (G := fun r => r.1 = .tup [] ∧ WrEnd r.2 (L ++ opT 4)) [cPutV] [] 400 30 (.auto 3 (.yes (.auto 3 (.yes .done)))) (let e1 := (int (19 : Int)); let e2 := (@ByteArray.mk (@Array.mk _ [(62 : UInt8)])); let e3 := (int (0 : Int)); let e4 := ((L).length + 1); let e5 := (@ByteArray.mk (@Array.mk _ [(61 : UInt8)])); let e6 := (@appc (L).length (@kcell L) (@kcell [(@TokV.mk (19 : Int) e2 (0 : Int))])); (.need (@isSo (@And ([e1, (@AV.lit (@Value.string e2)), e3] = [e1, (@AV.lit (@Value.string e2)), e3]) (@And (@TokRows (L).length (@kcell L)) (@And ((L).length = (L).length) (@And True (e4 ≤ 1000000)))))) (.need (@isSo (@And ([e1, (@AV.lit (@Value.string e5)), e3] = [e1, (@AV.lit (@Value.string e5)), e3]) (@And (@TokRows e4 e6) (@And (e4 = e4) (@And True ((e4 + 1) ≤ 1000000)))))) (.leaf ((@AV.tup []), (@Mem.mk ((2 + 1) + 1) ((((0 + 1) + 1) + 1) + 1) ((some (@Blk.mk [] 40 (some (@Rw.mk (e4 + 1) 3 (@appc e4 e6 (@kcell [(@TokV.mk (19 : Int) e5 (0 : Int))])))))) :: (none :: [none, (some (@Blk.mk [(@AV.own (2 + 1) (e4 + 1) 3)] 48 none))])))))))) (by kernel_rfl) (need_so ⟨rfl, (by repeat' (first | exact TokRows.kc _ | refine TokRows.app ?_ rfl)), rfl, trivial, (by (try unfold limT); (try simp only [List.length_cons, List.length_nil] at *); omega)⟩ (need_so ⟨rfl, (by repeat' (first | exact TokRows.kc _ | refine TokRows.app ?_ rfl)), rfl, trivial, (by (try unfold limT); (try simp only [List.length_cons, List.length_nil] at *); omega)⟩ ⟨rfl, _, _, _, rfl, rfl, by decide, CellIs.cast (CellIs.app2 (CellIs.app2 (CellIs.kc _) rfl) rfl) (by simp [opT])⟩))
  · exact to (G := fun r => r.1 = .tup [] ∧ WrEnd r.2 (L ++ opT 5)) [cPutV] [] 400 30 (.auto 3 (.yes (.auto 3 .done))) (.need (@isSo (@And ([(int (19 : Int)), (@AV.lit (@Value.string (@ByteArray.mk (@Array.mk _ [(62 : UInt8)])))), (int (0 : Int))] = [(int (19 : Int)), (@AV.lit (@Value.string (@ByteArray.mk (@Array.mk _ [(62 : UInt8)])))), (int (0 : Int))]) (@And (@TokRows (L).length (@kcell L)) (@And ((L).length = (L).length) (@And True (((L).length + 1) ≤ 1000000)))))) (.leaf ((@AV.tup []), (@Mem.mk (2 + 1) ((0 + 1) + 1) ((some (@Blk.mk [] 40 (some (@Rw.mk ((L).length + 1) 3 (@appc (L).length (@kcell L) (@kcell [(@TokV.mk (19 : Int) (@ByteArray.mk (@Array.mk _ [(62 : UInt8)])) (0 : Int))])))))) :: [none, (some (@Blk.mk [(@AV.own 2 ((L).length + 1) 3)] 48 none))]))))) (by kernel_rfl) (need_so ⟨rfl, (by repeat' (first | exact TokRows.kc _ | refine TokRows.app ?_ rfl)), rfl, trivial, (by (try unfold limT); (try simp only [List.length_cons, List.length_nil] at *); omega)⟩ ⟨rfl, _, _, _, rfl, rfl, by decide, CellIs.cast (CellIs.app2 (CellIs.kc _) rfl) (by simp [opT])⟩)
noncomputable abbrev Sy.cWop : Con Try.prog := conV 64 (fun r => match r with | [.lit (.int .i64 o)] => some o | _ => none) (fun o => [int o]) (fun _ => .tup []) (fun o => opT o) (fun o => 1 ≤ o ∧ o ≤ 5) fun L o h hl => ⟨⟨⟨trivial, trivial⟩, trivial⟩, wop_t L o h.1 h.2 hl⟩
theorem Sy.wval_t (L : List TokV) (f o n e : Int) (hl : limT (L.length + (valT f n e).length)) : CallTo Try.prog 63 [.ptr 0 0, int f, .agg [int o, int n, int e]] (wM L) fun v M' => v = .tup [] ∧ WrEnd M' (L ++ valT f n e) :=
  to (G := fun r => r.1 = .tup [] ∧ WrEnd r.2 (L ++ valT f n e)) [cPutV] [] 400 30 (.br (.yes .done) (.yes (.yes (.yes (.yes (.yes .done)))))) (let e1 := (@ByteArray.mk (@Array.mk _ [(112 : UInt8), (120 : UInt8)])); let e2 := (@TokRows (L).length (@kcell L)); let e3 := (@TokV.mk (Int.ofNat 9) e1 n); let e4 := ((L).length + ([e3]).length); let e5 := (some (@Blk.mk [(int o), (int n), (int e)] 43 none)); let e6 := (@ByteArray.mk (@Array.mk _ [])); let e7 := (@AV.lit (@Value.string e6)); let e8 := (@TokV.mk (Int.ofNat 7) e6 n); let e9 := ((L).length + ([e8]).length); let e10 := (int (0 : Int)); let e11 := ([(int (20 : Int)), e7, e10] = [(int (20 : Int)), e7, e10]); let e12 := (@appc (L).length (@kcell L) (@kcell [e8])); let e13 := (@ByteArray.mk (@Array.mk _ [(47 : UInt8)])); let e14 := (@AV.lit (@Value.string e13)); let e15 := (@kcell [(@TokV.mk (20 : Int) e6 (0 : Int))]); let e16 := ((e9 + 1) + 1); let e17 := (@appc (e9 + 1) (@appc e9 e12 e15) (@kcell [(@TokV.mk (19 : Int) e13 (0 : Int))])); let e18 := (e16 + 1); let e19 := (@TokV.mk (Int.ofNat 7) e6 e); let e20 := (e18 + ([e19]).length); let e21 := (((((2 + 1) + 1) + 1) + 1) + 1); (.fork (!(eqI f (5 : Int))) (.need (@isSo (@And ([(int (9 : Int)), (@AV.lit (@Value.string e1)), (int n)] = [(int (Int.ofNat 9)), (@AV.lit (@Value.string e1)), (int n)]) (@And e2 (@And ((L).length = (L).length) (@And True (e4 ≤ 1000000)))))) (.leaf ((@AV.tup []), (@Mem.mk ((2 + 1) + 1) ((0 + 1) + 1) ((some (@Blk.mk [] 40 (some (@Rw.mk e4 3 (@appc (L).length (@kcell L) (@kcell [e3])))))) :: [e5, none, (some (@Blk.mk [(@AV.own (2 + 1) e4 3)] 48 none))]))))) (.need (@isSo (@And ([(int (7 : Int)), e7, (int n)] = [(int (Int.ofNat 7)), e7, (int n)]) (@And e2 (@And ((L).length = (L).length) (@And True (e9 ≤ 1000000)))))) (.need (@isSo (@And e11 (@And (@TokRows e9 e12) (@And (e9 = e9) (@And True ((e9 + 1) ≤ 1000000)))))) (.need (@isSo (@And ([(int (19 : Int)), e14, e10] = [(int (19 : Int)), e14, e10]) (@And (@TokRows (e9 + 1) (@appc e9 e12 e15)) (@And ((e9 + 1) = (e9 + 1)) (@And True (e16 ≤ 1000000)))))) (.need (@isSo (@And e11 (@And (@TokRows e16 e17) (@And (e16 = e16) (@And True (e18 ≤ 1000000)))))) (.need (@isSo (@And ([(int (7 : Int)), e7, (int e)] = [(int (Int.ofNat 7)), e7, (int e)]) (@And (@TokRows e18 (@appc e16 e17 e15)) (@And (e18 = e18) (@And True (e20 ≤ 1000000)))))) (.leaf ((@AV.tup []), (@Mem.mk (e21 + 1) ((((((((((0 + 1) + 1) + 1) + 1) + 1) + 1) + 1) + 1) + 1) + 1) ((some (@Blk.mk [] 40 (some (@Rw.mk e20 3 (@appc e18 (@appc e16 e17 e15) (@kcell [e19])))))) :: (none :: (none :: (none :: (none :: [e5, none, (some (@Blk.mk [(@AV.own e21 e20 3)] 48 none))]))))))))))))))) (by kernel_rfl) (by
    unfold limT valT at hl
    unfold valT
    refine fork_ok (fun c => ?_) (fun c => ?_)
    · have c := n_t c
      rw [eqI_f] at c
      rw [if_neg c] at hl ⊢
      simp only [List.length_cons, List.length_nil] at hl
      exact (need_so ⟨rfl, (by repeat' (first | exact TokRows.kc _ | refine TokRows.app ?_ rfl)), rfl, trivial, (by (try unfold limT); (try simp only [List.length_cons, List.length_nil] at *); omega)⟩ ⟨rfl, _, _, _, rfl, rfl, by decide, CellIs.cast (CellIs.app2 (CellIs.kc _) rfl) (by simp [])⟩)
    · have c := n_f c
      rw [eqI_t] at c
      rw [if_pos c] at hl ⊢
      simp only [List.length_cons, List.length_nil] at hl
      exact (need_so ⟨rfl, (by repeat' (first | exact TokRows.kc _ | refine TokRows.app ?_ rfl)), rfl, trivial, (by (try unfold limT); (try simp only [List.length_cons, List.length_nil] at *); omega)⟩ (need_so ⟨rfl, (by repeat' (first | exact TokRows.kc _ | refine TokRows.app ?_ rfl)), rfl, trivial, (by (try unfold limT); (try simp only [List.length_cons, List.length_nil] at *); omega)⟩ (need_so ⟨rfl, (by repeat' (first | exact TokRows.kc _ | refine TokRows.app ?_ rfl)), rfl, trivial, (by (try unfold limT); (try simp only [List.length_cons, List.length_nil] at *); omega)⟩ (need_so ⟨rfl, (by repeat' (first | exact TokRows.kc _ | refine TokRows.app ?_ rfl)), rfl, trivial, (by (try unfold limT); (try simp only [List.length_cons, List.length_nil] at *); omega)⟩ (need_so ⟨rfl, (by repeat' (first | exact TokRows.kc _ | refine TokRows.app ?_ rfl)), rfl, trivial, (by (try unfold limT); (try simp only [List.length_cons, List.length_nil] at *); omega)⟩ ⟨rfl, _, _, _, rfl, rfl, by decide, CellIs.cast (CellIs.app2 (CellIs.app2 (CellIs.app2 (CellIs.app2 (CellIs.app2 (CellIs.kc _) rfl) rfl) rfl) rfl) rfl) (by simp [])⟩))))))
structure BnY where
  f : Int
  o : Int
  n : Int
  e : Int
noncomputable abbrev Sy.cWval : Con Try.prog := conV 63 (fun r => match r with | [.lit (.int .i64 f), .agg [.lit (.int .i64 o), .lit (.int .i64 n), .lit (.int .i64 e)]] => some (BnY.mk f o n e) | _ => none) (fun y => [int y.f, .agg [int y.o, int y.n, int y.e]]) (fun _ => .tup []) (fun y => valT y.f y.n y.e) (fun _ => True) fun L y _ hl => ⟨⟨⟨trivial, ⟨trivial, trivial, trivial, trivial⟩, trivial⟩, trivial⟩, wval_t L y.f y.o y.n y.e hl⟩
theorem Sy.wtrn_t (L : List TokV) (o n e : Int) (hl : limT (L.length + (trnT n).length)) : CallTo Try.prog 66 [.ptr 0 0, .agg [int o, int n, int e]] (wM L) fun v M' => v = .tup [] ∧ WrEnd M' (L ++ trnT n) :=
  to (G := fun r => r.1 = .tup [] ∧ WrEnd r.2 (L ++ trnT n)) [cPutV] [] 400 30 (.yes (.yes (.br (.yes .done) (.yes .done)))) (let e1 := (@ByteArray.mk (@Array.mk _ [])); let e2 := (@AV.lit (@Value.string e1)); let e3 := (int (0 : Int)); let e4 := ((L).length + 1); let e5 := (@appc (L).length (@kcell L) (@kcell [(@TokV.mk (10 : Int) e1 (0 : Int))])); let e6 := (int (1 : Int)); let e7 := (@ByteArray.mk (@Array.mk _ [(112 : UInt8), (111 : UInt8), (114 : UInt8), (116 : UInt8), (114 : UInt8), (97 : UInt8), (105 : UInt8), (116 : UInt8)])); let e8 := (@appc e4 e5 (@kcell [(@TokV.mk (20 : Int) e1 (0 : Int))])); let e9 := ((e4 + 1) + 1); let e10 := (@And (@TokRows (e4 + 1) e8) (@And ((e4 + 1) = (e4 + 1)) (@And True (e9 ≤ 1000000)))); let e11 := ((((((0 + 1) + 1) + 1) + 1) + 1) + 1); let e12 := (@ByteArray.mk (@Array.mk _ [(108 : UInt8), (97 : UInt8), (110 : UInt8), (100 : UInt8), (115 : UInt8), (99 : UInt8), (97 : UInt8), (112 : UInt8), (101 : UInt8)])); let e13 := (@AV.lit (@Value.string e12)); (.need (@isSo (@And ([(int (10 : Int)), e2, e3] = [(int (10 : Int)), e2, e3]) (@And (@TokRows (L).length (@kcell L)) (@And ((L).length = (L).length) (@And True (e4 ≤ 1000000)))))) (.need (@isSo (@And ([(int (20 : Int)), e2, e3] = [(int (20 : Int)), e2, e3]) (@And (@TokRows e4 e5) (@And (e4 = e4) (@And True ((e4 + 1) ≤ 1000000)))))) (.fork (eqI n (1 : Int)) (.need (@isSo (@And ([e6, (@AV.lit (@Value.string e7)), e3] = [e6, (@AV.lit (@Value.string e7)), e3]) e10)) (.leaf ((@AV.tup []), (@Mem.mk ((((2 + 1) + 1) + 1) + 1) e11 ((some (@Blk.mk [] 40 (some (@Rw.mk e9 3 (@appc (e4 + 1) e8 (@kcell [(@TokV.mk (1 : Int) e7 (0 : Int))])))))) :: (none :: (none :: [(some (@Blk.mk [(int o), (int n), (int e)] 43 none)), none, (some (@Blk.mk [(@AV.own (((2 + 1) + 1) + 1) e9 3)] 48 none))]))))))) (.need (@isSo (@And ([e6, e13, e3] = [e6, e13, e3]) e10)) (.leaf ((@AV.tup []), (@Mem.mk ((((2 + 1) + 1) + 1) + 1) e11 ((some (@Blk.mk [] 40 (some (@Rw.mk e9 3 (@appc (e4 + 1) e8 (@kcell [(@TokV.mk (1 : Int) e12 (0 : Int))])))))) :: (none :: (none :: [(some (@Blk.mk [(int o), (int n), (int e)] 43 none)), none, (some (@Blk.mk [(@AV.own (((2 + 1) + 1) + 1) e9 3)] 48 none))]))))))))))) (by kernel_rfl) (by
    unfold limT trnT at hl
    simp only [List.length_cons, List.length_nil] at hl
    unfold trnT
    refine need_so ⟨rfl, (by repeat' (first | exact TokRows.kc _ | refine TokRows.app ?_ rfl)), rfl, trivial, (by (try unfold limT); (try simp only [List.length_cons, List.length_nil] at *); omega)⟩ (need_so ⟨rfl, (by repeat' (first | exact TokRows.kc _ | refine TokRows.app ?_ rfl)), rfl, trivial, (by (try unfold limT); (try simp only [List.length_cons, List.length_nil] at *); omega)⟩ (fork_ok (fun c => ?_) (fun c => ?_)))
    · rw [eqI_t] at c
      rw [if_pos c]
      exact (need_so ⟨rfl, (by repeat' (first | exact TokRows.kc _ | refine TokRows.app ?_ rfl)), rfl, trivial, (by (try unfold limT); (try simp only [List.length_cons, List.length_nil] at *); omega)⟩ ⟨rfl, _, _, _, rfl, rfl, by decide, CellIs.cast (CellIs.app2 (CellIs.app2 (CellIs.app2 (CellIs.kc _) rfl) rfl) rfl) (by simp [])⟩)
    · rw [eqI_f] at c
      rw [if_neg c]
      exact (need_so ⟨rfl, (by repeat' (first | exact TokRows.kc _ | refine TokRows.app ?_ rfl)), rfl, trivial, (by (try unfold limT); (try simp only [List.length_cons, List.length_nil] at *); omega)⟩ ⟨rfl, _, _, _, rfl, rfl, by decide, CellIs.cast (CellIs.app2 (CellIs.app2 (CellIs.app2 (CellIs.kc _) rfl) rfl) rfl) (by simp [])⟩))
structure OnY where
  o : Int
  n : Int
  e : Int
noncomputable abbrev Sy.cWtrn : Con Try.prog := conV 66 (fun r => match r with | [.agg [.lit (.int .i64 o), .lit (.int .i64 n), .lit (.int .i64 e)]] => some (OnY.mk o n e) | _ => none) (fun y => [.agg [int y.o, int y.n, int y.e]]) (fun _ => .tup []) (fun y => trnT y.n) (fun _ => True) fun L y _ hl => ⟨⟨⟨⟨trivial, trivial, trivial, trivial⟩, trivial⟩, trivial⟩, wtrn_t L y.o y.n y.e hl⟩
def loT (q : QNodeV) : List TokV := if leI q.lo 0 = true then [] else valT q.feat q.ln q.ld ++ ([spT] ++ (opT q.lo ++ [spT]))
def hiT (q : QNodeV) : List TokV := if q.ho = 0 then [] else if q.feat = 6 then trnT q.hn else [spT] ++ (opT q.ho ++ ([spT] ++ valT q.feat q.hn q.hd))
def feaT (q : QNodeV) : List TokV := [opnT] ++ (loT q ++ ([idT (featS q.feat)] ++ (hiT q ++ [cloT])))
def OpsIn (q : QNodeV) : Prop := (0 < q.lo → q.lo ≤ 5) ∧ (q.ho ≠ 0 → 1 ≤ q.ho ∧ q.ho ≤ 5)
theorem Sy.wfea_t (L : List TokV) (q : QNodeV) (hq : OpsIn q) (hl : limT (L.length + (feaT q).length)) : CallTo Try.prog 36 [.ptr 0 0, qG q] (wM L) fun v M' => v = .tup [] ∧ WrEnd M' (L ++ feaT q) :=
  to (G := fun r => r.1 = .tup [] ∧ WrEnd r.2 (L ++ feaT q)) [cPutV, cSp, cWop, cWval, cWtrn, cFea] [] 400 30 (.yes (.br (.yes (.yes (.yes (.yes (.yes (.br (.yes .done) (.br (.yes (.yes .done)) (.yes (.yes (.yes (.yes (.yes .done)))))))))))) (.yes (.br (.yes .done) (.br (.yes (.yes .done)) (.yes (.yes (.yes (.yes (.yes .done)))))))))) (let e1 := (@ByteArray.mk (@Array.mk _ [])); let e2 := (@AV.lit (@Value.string e1)); let e3 := (int (0 : Int)); let e4 := ((L).length + 1); let e5 := (int (q).feat); let e6 := (@AV.agg [(int (q).lo), (int (q).ln), (int (q).ld)]); let e7 := (@appc (L).length (@kcell L) (@kcell [(@TokV.mk (13 : Int) e1 (0 : Int))])); let e8 := (@valT (q).feat (q).ln (q).ld); let e9 := (e4 + (e8).length); let e10 := (([] : List AV) = []); let e11 := (@kcell [spT]); let e12 := (@appc e9 (@appc e4 e7 (@kcell e8)) e11); let e13 := ((e9 + 1) + ((@opT (q).lo)).length); let e14 := (@appc (e9 + 1) e12 (@kcell (@opT (q).lo))); let e15 := (e13 + 1); let e16 := (@AV.lit (@Value.string (@featS (q).feat))); let e17 := ([(int (1 : Int)), e16, e3] = [(int (Int.ofNat 1)), e16, (int (Int.ofNat 0))]); let e18 := (@TokV.mk (Int.ofNat 1) (@featS (q).feat) (Int.ofNat 0)); let e19 := (e15 + ([e18]).length); let e20 := ([(int (14 : Int)), e2, e3] = [(int (14 : Int)), e2, e3]); let e21 := (@appc e15 (@appc e13 e14 e11) (@kcell [e18])); let e22 := (e19 + 1); let e23 := (@And (@TokRows e19 e21) (@And (e19 = e19) (@And True (e22 ≤ 1000000)))); let e24 := (@AV.tup []); let e25 := ((((2 + 1) + 1) + 1) + 1); let e26 := (((e25 + 1) + 1) + 1); let e27 := ((((((0 + 1) + 1) + 1) + 1) + 1) + 1); let e28 := ((((((((e27 + 1) + 1) + 1) + 1) + 1) + 1) + 1) + 1); let e29 := (@kcell [(@TokV.mk (14 : Int) e1 (0 : Int))]); let e30 := (some (@Blk.mk [(int (q).kind), (int (q).count), e5, (int (q).lo), (int (q).ln), (int (q).ld), (int (q).ho), (int (q).hn), (int (q).hd)] 45 none)); let e31 := (@AV.agg [(int (q).ho), (int (q).hn), (int (q).hd)]); let e32 := (e19 + ((@trnT (q).hn)).length); let e33 := (@appc e19 e21 (@kcell (@trnT (q).hn))); let e34 := ([(int (q).ho)] = [(int (q).ho)]); let e35 := (@And ((1 : Int) ≤ (q).ho) ((q).ho ≤ (5 : Int))); let e36 := (e22 + ((@opT (q).ho)).length); let e37 := (@appc e22 (@appc e19 e21 e11) (@kcell (@opT (q).ho))); let e38 := (e36 + 1); let e39 := (@valT (q).feat (q).hn (q).hd); let e40 := (e38 + (e39).length); let e41 := (@appc e38 (@appc e36 e37 e11) (@kcell e39)); let e42 := (e4 + ([e18]).length); let e43 := (@appc e4 e7 (@kcell [e18])); let e44 := (e42 + 1); let e45 := (@And (@TokRows e42 e43) (@And (e42 = e42) (@And True (e44 ≤ 1000000)))); let e46 := (e42 + ((@trnT (q).hn)).length); let e47 := (@appc e42 e43 (@kcell (@trnT (q).hn))); let e48 := (e44 + ((@opT (q).ho)).length); let e49 := (@appc e44 (@appc e42 e43 e11) (@kcell (@opT (q).ho))); let e50 := (e48 + 1); let e51 := (e50 + (e39).length); let e52 := (@appc e50 (@appc e48 e49 e11) (@kcell e39)); (.need (@isSo (@And ([(int (13 : Int)), e2, e3] = [(int (13 : Int)), e2, e3]) (@And (@TokRows (L).length (@kcell L)) (@And ((L).length = (L).length) (@And True (e4 ≤ 1000000)))))) (.fork (!(leI (q).lo (0 : Int))) (.need (@isSo (@And ([e5, e6] = [e5, e6]) (@And (@TokRows e4 e7) (@And (e4 = e4) (@And True (e9 ≤ 1000000)))))) (.need (@isSo (@And e10 (@And (@TokRows e9 (@appc e4 e7 (@kcell e8))) (@And (e9 = e9) (@And True ((e9 + 1) ≤ 1000000)))))) (.need (@isSo (@And ([(int (q).lo)] = [(int (q).lo)]) (@And (@TokRows (e9 + 1) e12) (@And ((e9 + 1) = (e9 + 1)) (@And (@And ((1 : Int) ≤ (q).lo) ((q).lo ≤ (5 : Int))) (e13 ≤ 1000000)))))) (.need (@isSo (@And e10 (@And (@TokRows e13 e14) (@And (e13 = e13) (@And True (e15 ≤ 1000000)))))) (.need (@isSo (@And e17 (@And (@TokRows e15 (@appc e13 e14 e11)) (@And (e15 = e15) (@And True (e19 ≤ 1000000)))))) (.fork (eqI (q).ho (0 : Int)) (.need (@isSo (@And e20 e23)) (.leaf (e24, (@Mem.mk (e26 + 1) e28 ((some (@Blk.mk [] 40 (some (@Rw.mk e22 3 (@appc e19 e21 e29))))) :: (none :: (none :: (none :: (none :: (none :: (none :: [e30, none, (some (@Blk.mk [(@AV.own e26 e22 3)] 48 none))]))))))))))) (.fork (eqI (q).feat (6 : Int)) (.need (@isSo (@And ([e31] = [e31]) (@And (@TokRows e19 e21) (@And (e19 = e19) (@And True (e32 ≤ 1000000)))))) (.need (@isSo (@And e20 (@And (@TokRows e32 e33) (@And (e32 = e32) (@And True ((e32 + 1) ≤ 1000000)))))) (.leaf (e24, (@Mem.mk ((e26 + 1) + 1) ((e28 + 1) + 1) ((some (@Blk.mk [] 40 (some (@Rw.mk (e32 + 1) 3 (@appc e32 e33 e29))))) :: (none :: (none :: (none :: (none :: (none :: (none :: (none :: [e30, none, (some (@Blk.mk [(@AV.own (e26 + 1) (e32 + 1) 3)] 48 none))]))))))))))))) (.need (@isSo (@And e10 e23)) (.need (@isSo (@And e34 (@And (@TokRows e22 (@appc e19 e21 e11)) (@And (e22 = e22) (@And e35 (e36 ≤ 1000000)))))) (.need (@isSo (@And e10 (@And (@TokRows e36 e37) (@And (e36 = e36) (@And True (e38 ≤ 1000000)))))) (.need (@isSo (@And ([e5, e31] = [e5, e31]) (@And (@TokRows e38 (@appc e36 e37 e11)) (@And (e38 = e38) (@And True (e40 ≤ 1000000)))))) (.need (@isSo (@And e20 (@And (@TokRows e40 e41) (@And (e40 = e40) (@And True ((e40 + 1) ≤ 1000000)))))) (.leaf (e24, (@Mem.mk (((((e26 + 1) + 1) + 1) + 1) + 1) ((((((((e28 + 1) + 1) + 1) + 1) + 1) + 1) + 1) + 1) ((some (@Blk.mk [] 40 (some (@Rw.mk (e40 + 1) 3 (@appc e40 e41 e29))))) :: (none :: (none :: (none :: (none :: (none :: (none :: (none :: (none :: (none :: (none :: [e30, none, (some (@Blk.mk [(@AV.own ((((e26 + 1) + 1) + 1) + 1) (e40 + 1) 3)] 48 none))])))))))))))))))))))))))))) (.need (@isSo (@And e17 (@And (@TokRows e4 e7) (@And (e4 = e4) (@And True (e42 ≤ 1000000)))))) (.fork (eqI (q).ho (0 : Int)) (.need (@isSo (@And e20 e45)) (.leaf (e24, (@Mem.mk e25 e27 ((some (@Blk.mk [] 40 (some (@Rw.mk e44 3 (@appc e42 e43 e29))))) :: (none :: (none :: [e30, none, (some (@Blk.mk [(@AV.own (((2 + 1) + 1) + 1) e44 3)] 48 none))]))))))) (.fork (eqI (q).feat (6 : Int)) (.need (@isSo (@And ([e31] = [e31]) (@And (@TokRows e42 e43) (@And (e42 = e42) (@And True (e46 ≤ 1000000)))))) (.need (@isSo (@And e20 (@And (@TokRows e46 e47) (@And (e46 = e46) (@And True ((e46 + 1) ≤ 1000000)))))) (.leaf (e24, (@Mem.mk (e25 + 1) ((e27 + 1) + 1) ((some (@Blk.mk [] 40 (some (@Rw.mk (e46 + 1) 3 (@appc e46 e47 e29))))) :: (none :: (none :: (none :: [e30, none, (some (@Blk.mk [(@AV.own e25 (e46 + 1) 3)] 48 none))]))))))))) (.need (@isSo (@And e10 e45)) (.need (@isSo (@And e34 (@And (@TokRows e44 (@appc e42 e43 e11)) (@And (e44 = e44) (@And e35 (e48 ≤ 1000000)))))) (.need (@isSo (@And e10 (@And (@TokRows e48 e49) (@And (e48 = e48) (@And True (e50 ≤ 1000000)))))) (.need (@isSo (@And ([e5, e31] = [e5, e31]) (@And (@TokRows e50 (@appc e48 e49 e11)) (@And (e50 = e50) (@And True (e51 ≤ 1000000)))))) (.need (@isSo (@And e20 (@And (@TokRows e51 e52) (@And (e51 = e51) (@And True ((e51 + 1) ≤ 1000000)))))) (.leaf (e24, (@Mem.mk (e26 + 1) e28 ((some (@Blk.mk [] 40 (some (@Rw.mk (e51 + 1) 3 (@appc e51 e52 e29))))) :: (none :: (none :: (none :: (none :: (none :: (none :: [e30, none, (some (@Blk.mk [(@AV.own e26 (e51 + 1) 3)] 48 none))]))))))))))))))))))))) (by kernel_rfl) (by
    unfold limT at hl
    have hh := hq.2
    unfold feaT loT hiT at hl ⊢
    refine need_so ⟨rfl, (by repeat' (first | exact TokRows.kc _ | refine TokRows.app ?_ rfl)), rfl, trivial, (by (try unfold limT); simp only [List.length_append, List.length_cons, List.length_nil] at hl; omega)⟩ (fork_ok (fun c1 => ?_) (fun c1 => ?_))
    · have c1 := n_t c1
      have hlo : 1 ≤ q.lo := by rw [leI_f] at c1; omega
      have hlo5 := hq.1 (by omega)
      rw [if_neg (by rw [c1]; simp)] at hl ⊢
      have hl0 := hl
      simp only [List.length_append, List.length_cons, List.length_nil] at hl0
      refine need_so ⟨rfl, (by repeat' (first | exact TokRows.kc _ | refine TokRows.app ?_ rfl)), rfl, trivial, (by (try unfold limT); (try simp only [List.length_cons, List.length_nil] at *); omega)⟩ (need_so ⟨rfl, (by repeat' (first | exact TokRows.kc _ | refine TokRows.app ?_ rfl)), rfl, trivial, (by (try unfold limT); (try simp only [List.length_cons, List.length_nil] at *); omega)⟩ (need_so ⟨rfl, (by repeat' (first | exact TokRows.kc _ | refine TokRows.app ?_ rfl)), rfl, ⟨hlo, hlo5⟩, (by (try unfold limT); (try simp only [List.length_cons, List.length_nil] at *); omega)⟩ (need_so ⟨rfl, (by repeat' (first | exact TokRows.kc _ | refine TokRows.app ?_ rfl)), rfl, trivial, (by (try unfold limT); (try simp only [List.length_cons, List.length_nil] at *); omega)⟩ (need_so ⟨rfl, (by repeat' (first | exact TokRows.kc _ | refine TokRows.app ?_ rfl)), rfl, trivial, (by (try unfold limT); (try simp only [List.length_cons, List.length_nil] at *); omega)⟩ ?_))))
      refine fork_ok (fun c2 => ?_) (fun c2 => ?_)
      · rw [eqI_t] at c2
        rw [if_pos c2] at hl ⊢
        simp only [List.length_append, List.length_cons, List.length_nil] at hl
        exact (need_so ⟨rfl, (by repeat' (first | exact TokRows.kc _ | refine TokRows.app ?_ rfl)), rfl, trivial, (by (try unfold limT); (try simp only [List.length_cons, List.length_nil] at *); omega)⟩ ⟨rfl, _, _, _, rfl, rfl, by decide, CellIs.cast (CellIs.app2 (CellIs.app2 (CellIs.app2 (CellIs.app2 (CellIs.app2 (CellIs.app2 (CellIs.app2 (CellIs.kc _) rfl) rfl) rfl) rfl) rfl) rfl) rfl) (by simp [List.append_assoc])⟩)
      · rw [eqI_f] at c2
        have hho := hh c2
        rw [if_neg c2] at hl ⊢
        refine fork_ok (fun c3 => ?_) (fun c3 => ?_)
        · rw [eqI_t] at c3
          rw [if_pos c3] at hl ⊢
          simp only [List.length_append, List.length_cons, List.length_nil] at hl
          exact (need_so ⟨rfl, (by repeat' (first | exact TokRows.kc _ | refine TokRows.app ?_ rfl)), rfl, trivial, (by (try unfold limT); (try simp only [List.length_cons, List.length_nil] at *); omega)⟩ (need_so ⟨rfl, (by repeat' (first | exact TokRows.kc _ | refine TokRows.app ?_ rfl)), rfl, trivial, (by (try unfold limT); (try simp only [List.length_cons, List.length_nil] at *); omega)⟩ ⟨rfl, _, _, _, rfl, rfl, by decide, CellIs.cast (CellIs.app2 (CellIs.app2 (CellIs.app2 (CellIs.app2 (CellIs.app2 (CellIs.app2 (CellIs.app2 (CellIs.app2 (CellIs.kc _) rfl) rfl) rfl) rfl) rfl) rfl) rfl) rfl) (by simp [List.append_assoc])⟩))
        · rw [eqI_f] at c3
          rw [if_neg c3] at hl ⊢
          simp only [List.length_append, List.length_cons, List.length_nil] at hl
          exact (need_so ⟨rfl, (by repeat' (first | exact TokRows.kc _ | refine TokRows.app ?_ rfl)), rfl, trivial, (by (try unfold limT); (try simp only [List.length_cons, List.length_nil] at *); omega)⟩ (need_so ⟨rfl, (by repeat' (first | exact TokRows.kc _ | refine TokRows.app ?_ rfl)), rfl, hho, (by (try unfold limT); (try simp only [List.length_cons, List.length_nil] at *); omega)⟩ (need_so ⟨rfl, (by repeat' (first | exact TokRows.kc _ | refine TokRows.app ?_ rfl)), rfl, trivial, (by (try unfold limT); (try simp only [List.length_cons, List.length_nil] at *); omega)⟩ (need_so ⟨rfl, (by repeat' (first | exact TokRows.kc _ | refine TokRows.app ?_ rfl)), rfl, trivial, (by (try unfold limT); (try simp only [List.length_cons, List.length_nil] at *); omega)⟩ (need_so ⟨rfl, (by repeat' (first | exact TokRows.kc _ | refine TokRows.app ?_ rfl)), rfl, trivial, (by (try unfold limT); (try simp only [List.length_cons, List.length_nil] at *); omega)⟩ ⟨rfl, _, _, _, rfl, rfl, by decide, CellIs.cast (CellIs.app2 (CellIs.app2 (CellIs.app2 (CellIs.app2 (CellIs.app2 (CellIs.app2 (CellIs.app2 (CellIs.app2 (CellIs.app2 (CellIs.app2 (CellIs.app2 (CellIs.kc _) rfl) rfl) rfl) rfl) rfl) rfl) rfl) rfl) rfl) rfl) rfl) (by simp [List.append_assoc])⟩)))))
    · have c1 := n_f c1
      rw [if_pos c1] at hl ⊢
      have hl0 := hl
      simp only [List.length_append, List.length_cons, List.length_nil] at hl0
      refine need_so ⟨rfl, (by repeat' (first | exact TokRows.kc _ | refine TokRows.app ?_ rfl)), rfl, trivial, (by (try unfold limT); (try simp only [List.length_cons, List.length_nil] at *); omega)⟩ ?_
      refine fork_ok (fun c2 => ?_) (fun c2 => ?_)
      · rw [eqI_t] at c2
        rw [if_pos c2] at hl ⊢
        simp only [List.length_append, List.length_cons, List.length_nil] at hl
        exact (need_so ⟨rfl, (by repeat' (first | exact TokRows.kc _ | refine TokRows.app ?_ rfl)), rfl, trivial, (by (try unfold limT); (try simp only [List.length_cons, List.length_nil] at *); omega)⟩ ⟨rfl, _, _, _, rfl, rfl, by decide, CellIs.cast (CellIs.app2 (CellIs.app2 (CellIs.app2 (CellIs.kc _) rfl) rfl) rfl) (by simp [List.append_assoc])⟩)
      · rw [eqI_f] at c2
        have hho := hh c2
        rw [if_neg c2] at hl ⊢
        refine fork_ok (fun c3 => ?_) (fun c3 => ?_)
        · rw [eqI_t] at c3
          rw [if_pos c3] at hl ⊢
          simp only [List.length_append, List.length_cons, List.length_nil] at hl
          exact (need_so ⟨rfl, (by repeat' (first | exact TokRows.kc _ | refine TokRows.app ?_ rfl)), rfl, trivial, (by (try unfold limT); (try simp only [List.length_cons, List.length_nil] at *); omega)⟩ (need_so ⟨rfl, (by repeat' (first | exact TokRows.kc _ | refine TokRows.app ?_ rfl)), rfl, trivial, (by (try unfold limT); (try simp only [List.length_cons, List.length_nil] at *); omega)⟩ ⟨rfl, _, _, _, rfl, rfl, by decide, CellIs.cast (CellIs.app2 (CellIs.app2 (CellIs.app2 (CellIs.app2 (CellIs.kc _) rfl) rfl) rfl) rfl) (by simp [List.append_assoc])⟩))
        · rw [eqI_f] at c3
          rw [if_neg c3] at hl ⊢
          simp only [List.length_append, List.length_cons, List.length_nil] at hl
          exact (need_so ⟨rfl, (by repeat' (first | exact TokRows.kc _ | refine TokRows.app ?_ rfl)), rfl, trivial, (by (try unfold limT); (try simp only [List.length_cons, List.length_nil] at *); omega)⟩ (need_so ⟨rfl, (by repeat' (first | exact TokRows.kc _ | refine TokRows.app ?_ rfl)), rfl, hho, (by (try unfold limT); (try simp only [List.length_cons, List.length_nil] at *); omega)⟩ (need_so ⟨rfl, (by repeat' (first | exact TokRows.kc _ | refine TokRows.app ?_ rfl)), rfl, trivial, (by (try unfold limT); (try simp only [List.length_cons, List.length_nil] at *); omega)⟩ (need_so ⟨rfl, (by repeat' (first | exact TokRows.kc _ | refine TokRows.app ?_ rfl)), rfl, trivial, (by (try unfold limT); (try simp only [List.length_cons, List.length_nil] at *); omega)⟩ (need_so ⟨rfl, (by repeat' (first | exact TokRows.kc _ | refine TokRows.app ?_ rfl)), rfl, trivial, (by (try unfold limT); (try simp only [List.length_cons, List.length_nil] at *); omega)⟩ ⟨rfl, _, _, _, rfl, rfl, by decide, CellIs.cast (CellIs.app2 (CellIs.app2 (CellIs.app2 (CellIs.app2 (CellIs.app2 (CellIs.app2 (CellIs.app2 (CellIs.kc _) rfl) rfl) rfl) rfl) rfl) rfl) rfl) (by simp [List.append_assoc])⟩))))))
noncomputable abbrev Sy.cWfea : Con Try.prog := conV 36 (fun r => match r with | [.agg [.lit (.int .i64 k), .lit (.int .i64 c), .lit (.int .i64 f), .lit (.int .i64 lo), .lit (.int .i64 ln), .lit (.int .i64 ld), .lit (.int .i64 ho), .lit (.int .i64 hn), .lit (.int .i64 hd)]] => some (QNodeV.mk k c f lo ln ld ho hn hd) | _ => none) (fun q => [qG q]) (fun _ => .tup []) (fun q => feaT q) (fun q => OpsIn q) fun L q h hl => ⟨⟨⟨⟨trivial, trivial, trivial, trivial, trivial, trivial, trivial, trivial, trivial, trivial⟩, trivial⟩, trivial⟩, wfea_t L q h hl⟩
end Go.Proofs.Ytlmanlpgknhfpaa
namespace Go.Proofs.Ytlmanlpgknhfpaa
open Go Go.RowKit Pl Sy
def sU : List QNodeV → Nat → Option Nat
  | [], m => if m = 0 then some 0 else none
  | _ :: _, 0 => some 0
  | n :: l, m + 1 => if hasI n.kind n.count < 0 then none else (sU l (m + (hasI n.kind n.count).toNat)).map (· + 1)
theorem sU_zero : ∀ l, sU l 0 = some 0
  | [] => rfl
  | _ :: _ => rfl
theorem sU_le : ∀ (l : List QNodeV) (m k : Nat), sU l m = some k → m ≤ k ∧ k ≤ l.length
  | [], m, k, h => by
    unfold sU at h
    split at h
    · simp at h; omega
    · cases h
  | n :: l, 0, k, h => by
    unfold sU at h
    simp at h; omega
  | n :: l, m + 1, k, h => by
    unfold sU at h
    split at h
    · cases h
    · rw [Option.map_eq_some_iff] at h
      obtain ⟨k', h1, h2⟩ := h
      have := sU_le l _ _ h1
      simp only [List.length_cons]
      omega
theorem spanL_eq (N : Int) : ∀ (l : List QNodeV) (left : Int), (l.length : Int) ≤ N → 0 ≤ left → spanL N l left = sU l left.toNat
  | [], left, h, h0 => by
    unfold spanL sU
    by_cases e : left ≤ 0
    · rw [if_pos e, if_pos (by omega)]
    · rw [if_neg e, if_neg (by omega)]
  | n :: l, left, h, h0 => by
    simp only [List.length_cons] at h
    unfold spanL
    by_cases e : left ≤ 0
    · rw [if_pos e, show left.toNat = 0 by omega, sU_zero]
    · rw [if_neg e]
      obtain ⟨m, hm⟩ : ∃ m, left.toNat = m + 1 := ⟨left.toNat - 1, by omega⟩
      rw [hm]
      unfold sU
      by_cases e1 : hasI n.kind n.count < 0
      · rw [if_pos e1, if_pos e1]
      · rw [if_neg e1, if_neg e1]
        by_cases e2 : N < hasI n.kind n.count
        · rw [if_pos e2, spanL_eq N l _ (by omega) (by omega)]
          have f1 : sU l (left + N - 1).toNat = none := by
            cases hs : sU l (left + N - 1).toNat with
            | none => rfl
            | some k => have := sU_le _ _ _ hs; omega
          have f2 : sU l (m + (hasI n.kind n.count).toNat) = none := by
            cases hs : sU l (m + (hasI n.kind n.count).toNat) with
            | none => rfl
            | some k => have := sU_le _ _ _ hs; omega
          rw [f1, f2]
        · rw [if_neg e2, spanL_eq N l _ (by omega) (by omega), show (left + hasI n.kind n.count - 1).toNat = m + (hasI n.kind n.count).toNat by omega]
theorem sU_add : ∀ (l : List QNodeV) (a b : Nat), sU l (a + b) = (sU l a).bind fun k => (sU (l.drop k) b).map (k + ·)
  | [], a, b => by
    unfold sU
    by_cases ha : a = 0
    · subst ha
      by_cases hb : b = 0
      · subst hb; rfl
      · simp [hb]
    · simp [ha]
  | n :: l, 0, b => by
    rw [sU_zero, Nat.zero_add]
    simp
  | n :: l, a + 1, b => by
    rw [show a + 1 + b = (a + b) + 1 by omega]
    rw [sU, sU]
    by_cases e1 : hasI n.kind n.count < 0
    · rw [if_pos e1, if_pos e1]; rfl
    · rw [if_neg e1, if_neg e1, show a + b + (hasI n.kind n.count).toNat = (a + (hasI n.kind n.count).toNat) + b by omega, sU_add l _ b]
      cases hs : sU l (a + (hasI n.kind n.count).toNat) with
      | none => rfl
      | some k =>
        simp only [Option.bind_some, Option.map_some, List.drop_succ_cons]
        cases hb : sU (l.drop k) b with
        | none => rfl
        | some k' => first | (simp; done) | (simp; omega)
def posI (xs : List QNodeV) (i : Int) (m : Nat) : Int := match sU (xs.drop i.toNat) m with
  | some k => i + k
  | none => 0
theorem spanI_eq (xs : List QNodeV) (i : Int) : spanI xs i = if i < 0 then 0 else posI xs i 1 := by
  unfold spanI posI
  by_cases h : i < 0
  · rw [if_pos h, if_pos h]
  · rw [if_neg h, if_neg h, spanL_eq _ _ _ (by simp only [List.length_drop]; omega) (by omega)]
    rfl
theorem posI_zero (xs : List QNodeV) (i : Int) : posI xs i 0 = i := by unfold posI; rw [sU_zero]; simp
theorem posI_pos {xs : List QNodeV} {i : Int} {m : Nat} (hi : 0 ≤ i) (hm : 1 ≤ m) (h : posI xs i m ≠ 0) : ∃ k, sU (xs.drop i.toNat) m = some k ∧ posI xs i m = i + k ∧ m ≤ k ∧ i + k ≤ xs.length := by
  unfold posI at h ⊢
  cases hs : sU (xs.drop i.toNat) m with
  | none => rw [hs] at h; exact absurd rfl h
  | some k =>
    have := sU_le _ _ _ hs
    simp only [List.length_drop] at this
    exact ⟨k, rfl, rfl, by omega, by omega⟩
theorem posI_succ (xs : List QNodeV) (i : Int) (m : Nat) (hi : 0 ≤ i) : posI xs i (m + 1) = if posI xs i 1 = 0 then 0 else posI xs (posI xs i 1) m := by
  unfold posI
  rw [show sU (xs.drop i.toNat) (m + 1) = (sU (xs.drop i.toNat) 1).bind fun k => (sU ((xs.drop i.toNat).drop k) m).map (k + ·) by rw [show m + 1 = 1 + m by omega]; exact sU_add _ 1 m]
  cases hs : sU (xs.drop i.toNat) 1 with
  | none => rfl
  | some k =>
    have := sU_le _ _ _ hs
    simp only [Option.bind_some, List.drop_drop]
    rw [if_neg (by omega), show (i + (k : Int)).toNat = i.toNat + k by omega]
    cases hb : sU (xs.drop (i.toNat + k)) m with
    | none => rfl
    | some k' => simp only [Option.map_some]; omega
theorem drop_at (xs : List QNodeV) (i : Nat) (h : i < xs.length) (z : QNodeV) : xs.drop i = xs.getD i z :: xs.drop (i + 1) := by
  rw [List.getD_eq_getElem?_getD, List.getElem?_eq_getElem h]
  exact List.drop_eq_getElem_cons h
theorem posI_one (xs : List QNodeV) (i : Int) (h0 : 0 ≤ i) (h1 : i < xs.length) : posI xs i 1 = if hasI (xs.getD i.toNat QNodeV.zero).kind (xs.getD i.toNat QNodeV.zero).count < 0 then 0 else posI xs (i + 1) (hasI (xs.getD i.toNat QNodeV.zero).kind (xs.getD i.toNat QNodeV.zero).count).toNat := by
  unfold posI
  rw [drop_at xs i.toNat (by omega) QNodeV.zero]
  rw [sU]
  by_cases e : hasI (xs.getD i.toNat QNodeV.zero).kind (xs.getD i.toNat QNodeV.zero).count < 0
  · rw [if_pos e, if_pos e]
  · rw [if_neg e, if_neg e, show (i + 1).toNat = i.toNat + 1 by omega, Nat.zero_add]
    cases sU (xs.drop (i.toNat + 1)) (hasI (xs.getD i.toNat QNodeV.zero).kind (xs.getD i.toNat QNodeV.zero).count).toNat with
    | none => rfl
    | some k => simp only [Option.map_some]; omega
theorem posI_out (xs : List QNodeV) (i : Int) (h1 : (xs.length : Int) ≤ i) : posI xs i 1 = 0 := by
  unfold posI
  rw [List.drop_eq_nil_of_le (by omega)]
  rfl
end Go.Proofs.Ytlmanlpgknhfpaa
namespace Go.Proofs.Ytlmanlpgknhfpaa
open Go Go.RowKit Pl Sy
def bndB (f o n e : Int) : Bool := decide (1 ≤ o ∧ o ≤ 5 ∧ valOk f o n e = true)
theorem Sy.bound_r (f o n e : Int) : CallTo Try.prog 69 [int f, .agg [int o, int n, int e]] M0 fun v _ => v = boo (bndB f o n e) :=
  toV [cHoldR] [] 400 30 (.br (.auto 2 (.br .done (.br (.br (.auto 2 (.br (.auto 2 (.br (.auto 4 .done) (.auto 4 .done))) (.auto 7 .done))) (.auto 11 .done)) (.br (.br (.auto 2 (.br (.auto 2 (.br (.auto 2 .done) (.auto 2 .done))) (.auto 6 .done))) (.auto 10 .done)) (.br (.auto 5 .done) (.auto 5 .done)))))) (.auto 3 .done)) (.fork (!(!(leI (1 : Int) o))) (.fork (!(leI o (5 : Int))) (.leaf (boo false)) (.fork (eqI f (6 : Int)) (.fork (eqI o (3 : Int)) (.fork (eqI e (0 : Int)) (.fork (!(eqI n (1 : Int))) (.leaf (boo (eqI n (2 : Int)))) (.leaf (boo true))) (.leaf (boo false))) (.leaf (boo false))) (.fork (eqI f (5 : Int)) (.fork (leI (1 : Int) n) (.fork (leI (1 : Int) e) (.fork (leI n (1073741824 : Int)) (.leaf (boo (leI e (1073741824 : Int)))) (.leaf (boo false))) (.leaf (boo false))) (.leaf (boo false))) (.fork (eqI e (0 : Int)) (.leaf (boo (eqI (@Pl.hold n) n))) (.leaf (boo false)))))) (.leaf (boo false))) (by kernel_rfl) (by
    repeat' (first
      | refine fork_ok (fun _ => ?_) (fun _ => ?_)
      | refine need_so ⟨rfl, by (first | assumption | trivial | (try simp only [eqI_t, eqI_f, leI_t, leI_f, inR_t, inR_f, isSo_t, isSo_f, eqI_d, leI_d, decide_eq_true_eq, decide_eq_false_iff_not, Bool.not_eq_true', Bool.not_eq_false', Bool.false_eq_true, Bool.and_eq_true, Bool.or_eq_true, Bool.not_not, iff_false, false_iff, iff_true, true_iff] at *) <;> first | omega | grind)⟩ ?_
      | refine need_so (by (first | assumption | trivial | (try simp only [eqI_t, eqI_f, leI_t, leI_f, inR_t, inR_f, isSo_t, isSo_f, eqI_d, leI_d, decide_eq_true_eq, decide_eq_false_iff_not, Bool.not_eq_true', Bool.not_eq_false', Bool.false_eq_true, Bool.and_eq_true, Bool.or_eq_true, Bool.not_not, iff_false, false_iff, iff_true, true_iff] at *) <;> first | omega | grind)) ?_
      | refine need_t (by (first | assumption | trivial | (try simp only [eqI_t, eqI_f, leI_t, leI_f, inR_t, inR_f, isSo_t, isSo_f, eqI_d, leI_d, decide_eq_true_eq, decide_eq_false_iff_not, Bool.not_eq_true', Bool.not_eq_false', Bool.false_eq_true, Bool.and_eq_true, Bool.or_eq_true, Bool.not_not, iff_false, false_iff, iff_true, true_iff] at *) <;> first | omega | grind)) ?_)
    all_goals (first | refine leaf_boo ?_ | refine leaf_int ?_)
    all_goals (unfold bndB valOk; try simp only [eqI_t, eqI_f, leI_t, leI_f, inR_t, inR_f, isSo_t, isSo_f, eqI_d, leI_d, decide_eq_true_eq, decide_eq_false_iff_not, Bool.not_eq_true', Bool.not_eq_false', Bool.false_eq_true, Bool.and_eq_true, Bool.or_eq_true, Bool.not_not, iff_false, false_iff, iff_true, true_iff] at *)
    all_goals (first | omega | grind))
noncomputable abbrev Sy.cBoundR : Con Try.prog := ints4 69 [0, 4] (fun f o n e => boo (bndB f o n e)) (fun _ _ _ _ => trivial) Sy.bound_r
def featB (c f lo ln ld ho hn hd : Int) : Bool := decide (c = 0 ∧ 1 ≤ f ∧ f ≤ 6 ∧ ((ho = 0 ∧ hn = 0 ∧ hd = 0 ∧ lo = 0 ∧ ln = 0 ∧ ld = 0) ∨ (¬ (ho = 0 ∧ hn = 0 ∧ hd = 0) ∧ bndB f ho hn hd = true ∧ ((lo = 0 ∧ ln = 0 ∧ ld = 0) ∨ (¬ (lo = 0 ∧ ln = 0 ∧ ld = 0) ∧ f ≠ 6 ∧ bndB f lo ln ld = true ∧ ((lo ≤ 2 ∧ ho ≤ 2) ∨ (4 ≤ lo ∧ 4 ≤ ho)))))))
theorem Sy.feature_r (k c f lo ln ld ho hn hd : Int) : CallTo Try.prog 40 [qa k c f lo ln ld ho hn hd] M0 fun v _ => v = boo (featB c f lo ln ld ho hn hd) :=
  toV [cBoundR] [] 400 30 (.br (.auto 2 (.br (.auto 2 (.br .done (.br .done (.br .done (.br .done (.br (.auto 5 (.br .done (.br (.auto 3 (.br (.auto 3 (.br (.auto 5 .done) (.auto 5 .done))) (.auto 9 .done))) (.auto 8 (.br (.auto 5 .done) (.auto 5 .done)))))) (.auto 6 .done))))))) (.auto 3 .done))) (.auto 7 .done)) (.fork (!(!(eqI c (0 : Int)))) (.fork (!(!(leI (1 : Int) f))) (.fork (!(leI f (6 : Int))) (.leaf (boo false)) (.fork ((eqI ho (0 : Int)) && ((eqI hn (0 : Int)) && ((eqI hd (0 : Int)) && true))) (.leaf (boo ((eqI lo (0 : Int)) && ((eqI ln (0 : Int)) && ((eqI ld (0 : Int)) && true))))) (.fork (!(@bndB f ho hn hd)) (.leaf (boo false)) (.fork ((eqI lo (0 : Int)) && ((eqI ln (0 : Int)) && ((eqI ld (0 : Int)) && true))) (.leaf (boo true)) (.fork (!(eqI f (6 : Int))) (.fork (!(@bndB f lo ln ld)) (.leaf (boo false)) (.fork (leI lo (2 : Int)) (.fork (!(leI ho (2 : Int))) (.fork (leI (4 : Int) lo) (.leaf (boo (leI (4 : Int) ho))) (.leaf (boo false))) (.leaf (boo true))) (.fork (leI (4 : Int) lo) (.leaf (boo (leI (4 : Int) ho))) (.leaf (boo false))))) (.leaf (boo false))))))) (.leaf (boo false))) (.leaf (boo false))) (by kernel_rfl) (by
    repeat' (first
      | refine fork_ok (fun _ => ?_) (fun _ => ?_)
      | refine need_so ⟨rfl, by (first | assumption | trivial | (try simp only [eqI_t, eqI_f, leI_t, leI_f, inR_t, inR_f, isSo_t, isSo_f, eqI_d, leI_d, decide_eq_true_eq, decide_eq_false_iff_not, Bool.not_eq_true', Bool.not_eq_false', Bool.false_eq_true, Bool.and_eq_true, Bool.or_eq_true, Bool.not_not, iff_false, false_iff, iff_true, true_iff] at *) <;> first | omega | grind)⟩ ?_
      | refine need_so (by (first | assumption | trivial | (try simp only [eqI_t, eqI_f, leI_t, leI_f, inR_t, inR_f, isSo_t, isSo_f, eqI_d, leI_d, decide_eq_true_eq, decide_eq_false_iff_not, Bool.not_eq_true', Bool.not_eq_false', Bool.false_eq_true, Bool.and_eq_true, Bool.or_eq_true, Bool.not_not, iff_false, false_iff, iff_true, true_iff] at *) <;> first | omega | grind)) ?_
      | refine need_t (by (first | assumption | trivial | (try simp only [eqI_t, eqI_f, leI_t, leI_f, inR_t, inR_f, isSo_t, isSo_f, eqI_d, leI_d, decide_eq_true_eq, decide_eq_false_iff_not, Bool.not_eq_true', Bool.not_eq_false', Bool.false_eq_true, Bool.and_eq_true, Bool.or_eq_true, Bool.not_not, iff_false, false_iff, iff_true, true_iff] at *) <;> first | omega | grind)) ?_)
    all_goals (first | refine leaf_boo ?_ | refine leaf_int ?_)
    all_goals (unfold featB; try simp only [eqI_t, eqI_f, leI_t, leI_f, inR_t, inR_f, isSo_t, isSo_f, eqI_d, leI_d, decide_eq_true_eq, decide_eq_false_iff_not, Bool.not_eq_true', Bool.not_eq_false', Bool.false_eq_true, Bool.and_eq_true, Bool.or_eq_true, Bool.not_not, iff_false, false_iff, iff_true, true_iff] at *)
    all_goals (first | omega | grind))
theorem featB_eq (c f lo ln ld ho hn hd : Int) : featB c f lo ln ld ho hn hd = decide (c = 0 ∧ 1 ≤ f ∧ f ≤ 6 ∧ fitsV f lo ln ld ho hn hd = true) := by
  unfold featB fitsV bndB
  rw [Bool.eq_iff_iff]
  simp only [decide_eq_true_eq]
  generalize (valOk f ho hn hd = true) = A
  generalize (valOk f lo ln ld = true) = B
  constructor
  · rintro ⟨h1, h2, h3, h4⟩
    refine ⟨h1, h2, h3, ?_⟩
    rcases h4 with h4 | ⟨h4, h5, h6⟩
    · exact .inl h4
    · right
      refine ⟨h4, h5.1, h5.2.1, h5.2.2, ?_⟩
      rcases h6 with h6 | ⟨h6, h7, h8, h9⟩
      · exact .inl h6
      · right
        exact ⟨by omega, h7, h8.2.2⟩
  · rintro ⟨h1, h2, h3, h4⟩
    refine ⟨h1, h2, h3, ?_⟩
    rcases h4 with h4 | ⟨h4, h5, h6, h7, h8⟩
    · exact .inl h4
    · right
      refine ⟨h4, ⟨h5, h6, h7⟩, ?_⟩
      rcases h8 with h8 | ⟨h8, h9, h10⟩
      · exact .inl h8
      · right
        exact ⟨by omega, h9, ⟨by omega, by omega, h10⟩, by omega⟩
noncomputable abbrev Sy.cFeatR : Con Try.prog := ints9 40 [10] (fun k c f lo ln ld ho hn hd => boo (featB c f lo ln ld ho hn hd)) (fun _ _ _ _ _ _ _ _ _ => trivial) Sy.feature_r
theorem Sy.rightnode_r (k c f lo ln ld ho hn hd : Int) : CallTo Try.prog 21 [qa k c f lo ln ld ho hn hd] M0 fun v _ => v = boo (rightV k c f lo ln ld ho hn hd) :=
  toV [cFeatR] [] 400 30 (.br .done (.br (.auto 2 (.br (.auto 4 (.br (.auto 2 (.br (.auto 2 (.br (.auto 8 .done) (.auto 8 .done))) (.auto 11 .done))) (.auto 14 .done))) (.auto 8 (.br (.auto 2 (.br (.auto 8 .done) (.auto 8 .done))) (.auto 11 .done))))) (.auto 22 .done))) (.fork (eqI k (4 : Int)) (.leaf (boo (@featB c f lo ln ld ho hn hd))) (.fork ((eqI k k) && ((eqI c c) && ((eqI f (0 : Int)) && (((eqI lo (0 : Int)) && ((eqI ln (0 : Int)) && ((eqI ld (0 : Int)) && true))) && (((eqI ho (0 : Int)) && ((eqI hn (0 : Int)) && ((eqI hd (0 : Int)) && true))) && true))))) (.fork (eqI k (3 : Int)) (.fork (!(eqI c (1 : Int))) (.fork (leI (2 : Int) c) (.fork (!(eqI k (1 : Int))) (.leaf (boo (eqI k (2 : Int)))) (.leaf (boo true))) (.leaf (boo false))) (.leaf (boo true))) (.fork (leI (2 : Int) c) (.fork (!(eqI k (1 : Int))) (.leaf (boo (eqI k (2 : Int)))) (.leaf (boo true))) (.leaf (boo false)))) (.leaf (boo false)))) (by kernel_rfl) (by
    have e := featB_eq c f lo ln ld ho hn hd
    generalize featB c f lo ln ld ho hn hd = X at *
    unfold rightV
    generalize fitsV f lo ln ld ho hn hd = Y at *
    subst e
    exact (by
    repeat' (first
      | refine fork_ok (fun _ => ?_) (fun _ => ?_)
      | refine need_so ⟨rfl, by (first | assumption | trivial | (try simp only [eqI_t, eqI_f, leI_t, leI_f, inR_t, inR_f, isSo_t, isSo_f, eqI_d, leI_d, decide_eq_true_eq, decide_eq_false_iff_not, Bool.not_eq_true', Bool.not_eq_false', Bool.false_eq_true, Bool.and_eq_true, Bool.or_eq_true, Bool.not_not, iff_false, false_iff, iff_true, true_iff] at *) <;> first | omega | grind)⟩ ?_
      | refine need_so (by (first | assumption | trivial | (try simp only [eqI_t, eqI_f, leI_t, leI_f, inR_t, inR_f, isSo_t, isSo_f, eqI_d, leI_d, decide_eq_true_eq, decide_eq_false_iff_not, Bool.not_eq_true', Bool.not_eq_false', Bool.false_eq_true, Bool.and_eq_true, Bool.or_eq_true, Bool.not_not, iff_false, false_iff, iff_true, true_iff] at *) <;> first | omega | grind)) ?_
      | refine need_t (by (first | assumption | trivial | (try simp only [eqI_t, eqI_f, leI_t, leI_f, inR_t, inR_f, isSo_t, isSo_f, eqI_d, leI_d, decide_eq_true_eq, decide_eq_false_iff_not, Bool.not_eq_true', Bool.not_eq_false', Bool.false_eq_true, Bool.and_eq_true, Bool.or_eq_true, Bool.not_not, iff_false, false_iff, iff_true, true_iff] at *) <;> first | omega | grind)) ?_)
    all_goals (first | refine leaf_boo ?_ | refine leaf_int ?_)
    all_goals (try simp only [eqI_t, eqI_f, leI_t, leI_f, inR_t, inR_f, isSo_t, isSo_f, eqI_d, leI_d, decide_eq_true_eq, decide_eq_false_iff_not, Bool.not_eq_true', Bool.not_eq_false', Bool.false_eq_true, Bool.and_eq_true, Bool.or_eq_true, Bool.not_not, iff_false, false_iff, iff_true, true_iff] at *)
    all_goals (first | omega | grind)))
noncomputable abbrev Sy.cRightNode : Con Try.prog := ints9 21 [10] (fun k c f lo ln ld ho hn hd => boo (rightV k c f lo ln ld ho hn hd)) (fun _ _ _ _ _ _ _ _ _ => trivial) Sy.rightnode_r
theorem Sy.reserved_r (s : ByteArray) : CallTo Try.prog 20 [.lit (.string s)] M0 fun v _ => v = boo (resB s) :=
  toV [] [] 400 30 (.br (.auto 1 (.br (.auto 1 (.br (.auto 1 .done) (.auto 1 .done))) (.auto 4 .done))) (.auto 7 .done)) (.fork (!(@bytesEq (@Array.toList _ (@ByteArray.data s)) (@Array.toList _ (@ByteArray.data (@ByteArray.mk (@Array.mk _ [(97 : UInt8), (110 : UInt8), (100 : UInt8)])))))) (.fork (!(@bytesEq (@Array.toList _ (@ByteArray.data s)) (@Array.toList _ (@ByteArray.data (@ByteArray.mk (@Array.mk _ [(111 : UInt8), (114 : UInt8)])))))) (.fork (!(@bytesEq (@Array.toList _ (@ByteArray.data s)) (@Array.toList _ (@ByteArray.data (@ByteArray.mk (@Array.mk _ [(110 : UInt8), (111 : UInt8), (116 : UInt8)])))))) (.leaf (boo (@bytesEq (@Array.toList _ (@ByteArray.data s)) (@Array.toList _ (@ByteArray.data (@ByteArray.mk (@Array.mk _ [(110 : UInt8), (111 : UInt8), (110 : UInt8), (101 : UInt8)]))))))) (.leaf (boo true))) (.leaf (boo true))) (.leaf (boo true))) (by kernel_rfl) (by
    simp only [Tr.Ok, Bool.not_eq_true', Bool.not_eq_false', boo_iff, resB]
    repeat' (first | (intro _) | apply And.intro)
    all_goals simp_all)
noncomputable abbrev Sy.cReservedR : Con Try.prog := str1 20 (fun s => boo (resB s)) (fun _ => True) (fun _ => trivial) fun s _ => reserved_r s
noncomputable abbrev Sy.cNameR : Con Try.prog := str1 19 (fun s => boo (nameL s.data.toList)) (fun s => s.size ≤ maxLen) (fun _ => trivial) fun s h => old (us := [.string s]) fun w => name_r s w h
noncomputable abbrev Sy.cSpanR (s : ByteArray) (xs : List QNodeV) (C : Int → Prop) (h : ∀ i, C i → CallTo Try.prog 22 [Sy.query s xs, int i] M0 fun v _ => v = int (spanI xs i)) : Con Try.prog :=
  atX 22 (fun args => match args with | [_, .lit (.int .i64 i)] => some i | _ => none) (fun i => [Sy.query s xs, int i]) (fun i => int (spanI xs i)) C fun i hi => ⟨⟨⟨⟨trivial, viewOf_free QNodeV.cells QNodeV.zero 9 xs, trivial⟩, trivial, trivial⟩, trivial⟩, h i hi⟩
namespace Sy
abbrev spanrM (s : ByteArray) (xs : List QNodeV) (i : Int) : Mem := (@Mem.mk ((0 + 1) + 1) (0 + 1) [(some (@Blk.mk ((int ((xs.getD (i).toNat QNodeV.zero)).kind) :: (int ((xs.getD (i).toNat QNodeV.zero)).count) :: (int ((xs.getD (i).toNat QNodeV.zero)).feat) :: (int ((xs.getD (i).toNat QNodeV.zero)).lo) :: (int ((xs.getD (i).toNat QNodeV.zero)).ln) :: (int ((xs.getD (i).toNat QNodeV.zero)).ld) :: (int ((xs.getD (i).toNat QNodeV.zero)).ho) :: (int ((xs.getD (i).toNat QNodeV.zero)).hn) :: (int ((xs.getD (i).toNat QNodeV.zero)).hd) :: (@List.drop _ (0 + ([(int ((xs.getD (i).toNat QNodeV.zero)).kind), (int ((xs.getD (i).toNat QNodeV.zero)).count), (int ((xs.getD (i).toNat QNodeV.zero)).feat), (int ((xs.getD (i).toNat QNodeV.zero)).lo), (int ((xs.getD (i).toNat QNodeV.zero)).ln), (int ((xs.getD (i).toNat QNodeV.zero)).ld), (int ((xs.getD (i).toNat QNodeV.zero)).ho), (int ((xs.getD (i).toNat QNodeV.zero)).hn), (int ((xs.getD (i).toNat QNodeV.zero)).hd)]).length) [(int (0 : Int)), (int (0 : Int)), (int (0 : Int)), (int (0 : Int)), (int (0 : Int)), (int (0 : Int)), (int (0 : Int)), (int (0 : Int)), (int (0 : Int))])) 45 none)), (some (@Blk.mk [(@AV.lit (@Value.string s)), (@qview xs)] 24 none))])
abbrev spanrF (s : ByteArray) (xs : List QNodeV) (i c a k : Int) : Fr := [none, some (int i), some ((@AV.ptr 0 0)), none, some ((int (0 : Int))), none, some (int c), some (int a), some (int k), none, none, none, none, none, none, none, none, none, none, none, none, none, none, none, none, none, none, none, none, none, none, none, none, none, none, none, none, none, none, none, none, none, none, none, none, none, none]
end Sy
theorem Sy.spanr_loop (s : ByteArray) (xs : List QNodeV) (hx : xs.length ≤ 17592186044416) (C : Int → Prop) (h : ∀ i, C i → CallTo Try.prog 22 [Sy.query s xs, int i] M0 fun v _ => v = int (spanI xs i)) (i c : Int) : ∀ (n : Nat) (a k : Int), xs.length - a < n → (∀ b, a ≤ b → C b) → 0 ≤ k → k < a → a ≤ xs.length →
    LoopTo Try.prog (theBody Try.prog 22 16) (n + 1) (spanrF s xs i c a k) (spanrM s xs i) fun ex F M => M = spanrM s xs i ∧ ((posI xs a (c - k).toNat = 0 ∧ ex = .ret ∧ ∃ k', F = spanrF s xs i c 0 k') ∨ (posI xs a (c - k).toNat ≠ 0 ∧ ex = .exit 1 ∧ ∃ k', F = spanrF s xs i c (posI xs a (c - k).toNat) k')) := by
  intro n
  induction n with
  | zero => intro a k h1 _ _ _ h5; omega
  | succ n ih =>
    intro a k hn hC h0 hk ha
    refine roundL [cSpanR s xs C h] [] 400 30 22 16 Try.func22 rfl (by kernel_rfl) [false, true, true, false, true, false, true, true, true, false, false, false, false, false, false, false, false, false, false, false, false, false, false, false, false, false, false, false, false, false, false, false, false, false, false, false, false, false, false, false, false, false, false, false, false, false, false] (.br (.yes (.br .done .done)) .done) (.fork (!(leI c k)) (.need (@isSo (@And ((@HAppend.hAppend _ _ _ _ (@HAppend.hAppend _ _ _ _ [] [(@AV.agg [(@AV.lit (@Value.string s)), (@qview xs)]), (int a)]) []) = [(@query s xs), (int a)]) (C a))) (.fork (eqI (@spanI xs a) (0 : Int)) (.leaf (Ex.ret, ([none, (some (int i)), (some (@AV.ptr 0 0)), none, (some (int (0 : Int))), none, (some (int c)), (some (int (@spanI xs a))), (some (int k)), none, none, none, none, none, none, none, none, none, none, none, none, none, none, none, none, none, none, none, none, none, none, none, none, none, none, none, none, none, none, none, none, none, none, none, none, none, none], (@Mem.mk 2 1 [(some (@Blk.mk [(int ((xs.getD (i).toNat QNodeV.zero)).kind), (int ((xs.getD (i).toNat QNodeV.zero)).count), (int ((xs.getD (i).toNat QNodeV.zero)).feat), (int ((xs.getD (i).toNat QNodeV.zero)).lo), (int ((xs.getD (i).toNat QNodeV.zero)).ln), (int ((xs.getD (i).toNat QNodeV.zero)).ld), (int ((xs.getD (i).toNat QNodeV.zero)).ho), (int ((xs.getD (i).toNat QNodeV.zero)).hn), (int ((xs.getD (i).toNat QNodeV.zero)).hd)] 45 none)), (some (@Blk.mk [(@AV.lit (@Value.string s)), (@qview xs)] 24 none))])))) (.leaf (Ex.norm, ([none, (some (int i)), (some (@AV.ptr 0 0)), none, (some (int (0 : Int))), none, (some (int c)), (some (int (@spanI xs a))), (some (int (w64 (k + (1 : Int))))), none, none, none, none, none, none, none, none, none, none, none, none, none, none, none, none, none, none, none, none, none, none, none, none, none, none, none, none, none, none, none, none, none, none, none, none, none, none], (@Mem.mk 2 1 [(some (@Blk.mk [(int ((xs.getD (i).toNat QNodeV.zero)).kind), (int ((xs.getD (i).toNat QNodeV.zero)).count), (int ((xs.getD (i).toNat QNodeV.zero)).feat), (int ((xs.getD (i).toNat QNodeV.zero)).lo), (int ((xs.getD (i).toNat QNodeV.zero)).ln), (int ((xs.getD (i).toNat QNodeV.zero)).ld), (int ((xs.getD (i).toNat QNodeV.zero)).ho), (int ((xs.getD (i).toNat QNodeV.zero)).hn), (int ((xs.getD (i).toNat QNodeV.zero)).hd)] 45 none)), (some (@Blk.mk [(@AV.lit (@Value.string s)), (@qview xs)] 24 none))])))))) (.leaf ((@Ex.exit 1), ([none, (some (int i)), (some (@AV.ptr 0 0)), none, (some (int (0 : Int))), none, (some (int c)), (some (int a)), (some (int k)), none, none, none, none, none, none, none, none, none, none, none, none, none, none, none, none, none, none, none, none, none, none, none, none, none, none, none, none, none, none, none, none, none, none, none, none, none, none], (@Mem.mk 2 1 [(some (@Blk.mk [(int ((xs.getD (i).toNat QNodeV.zero)).kind), (int ((xs.getD (i).toNat QNodeV.zero)).count), (int ((xs.getD (i).toNat QNodeV.zero)).feat), (int ((xs.getD (i).toNat QNodeV.zero)).lo), (int ((xs.getD (i).toNat QNodeV.zero)).ln), (int ((xs.getD (i).toNat QNodeV.zero)).ld), (int ((xs.getD (i).toNat QNodeV.zero)).ho), (int ((xs.getD (i).toNat QNodeV.zero)).hn), (int ((xs.getD (i).toNat QNodeV.zero)).hd)] 45 none)), (some (@Blk.mk [(@AV.lit (@Value.string s)), (@qview xs)] 24 none))]))))) (by kernel_rfl) ?_
    refine fork_ok (fun h1 => need_so ⟨rfl, hC a (by omega)⟩ (fork_ok (fun h2 => ?_) (fun h2 => ?_))) (fun h1 => ?_)
    · simp only [Bool.not_eq_true', Bool.not_eq_false', leI_t, leI_f, eqI_t, eqI_f, inR_t, inR_f, isSo_t, isSo_f] at h1
      simp only [Bool.not_eq_true', Bool.not_eq_false', leI_t, leI_f, eqI_t, eqI_f, inR_t, inR_f, isSo_t, isSo_f] at h2
      obtain ⟨m, hm⟩ : ∃ m, (c - k).toNat = m + 1 := ⟨(c - k).toNat - 1, by omega⟩
      have e1 : posI xs a 1 = 0 := by rw [spanI_eq, if_neg (by omega)] at h2; exact h2
      refine ⟨rfl, .inl ⟨?_, rfl, k, ?_⟩⟩
      · rw [hm, posI_succ _ _ _ (by omega), if_pos e1]
      · rw [h2]
    · simp only [Bool.not_eq_true', Bool.not_eq_false', leI_t, leI_f, eqI_t, eqI_f, inR_t, inR_f, isSo_t, isSo_f] at h1
      simp only [Bool.not_eq_true', Bool.not_eq_false', leI_t, leI_f, eqI_t, eqI_f, inR_t, inR_f, isSo_t, isSo_f] at h2
      obtain ⟨m, hm⟩ : ∃ m, (c - k).toNat = m + 1 := ⟨(c - k).toNat - 1, by omega⟩
      have e1 : spanI xs a = posI xs a 1 := by rw [spanI_eq, if_neg (by omega)]
      rw [e1] at h2 ⊢
      obtain ⟨k1, q1, q2, q3, q4⟩ := posI_pos (by omega) (by omega) h2
      rw [w64_in (r := k + 1) (by omega)]
      have := ih (posI xs a 1) (k + 1) (by omega) (fun b hb => hC b (by omega)) (by omega) (by omega) (by omega)
      refine this.mono fun ex F M hg => ?_
      rw [hm, posI_succ _ _ _ (by omega), if_neg h2, show m = (c - (k + 1)).toNat by omega]
      exact hg
    · simp only [Bool.not_eq_true', Bool.not_eq_false', leI_t, leI_f, eqI_t, eqI_f, inR_t, inR_f, isSo_t, isSo_f] at h1
      rw [show (c - k).toNat = 0 by omega, posI_zero]
      exact ⟨rfl, .inr ⟨by omega, rfl, k, rfl⟩⟩
namespace Sy
abbrev spanrN (s : ByteArray) (xs : List QNodeV) (i c a : Int) : Fr := [none, some (int i), some ((@AV.ptr 0 0)), none, some ((int (0 : Int))), none, some (int c), some (int a), none, none, none, none, none, none, none, none, none, none, none, none, none, none, none, none, none, none, none, none, none, none, none, none, none, none, none, none, none, none, none, none, none, none, none, none, none, none, none]
noncomputable abbrev spanrRes (s : ByteArray) (xs : List QNodeV) (x : Int × Int × Int × Int) : Tr (Ex × Fr × Mem) :=
  .fork (eqI (posI xs x.2.2.1 (x.2.1 - x.2.2.2).toNat) 0) (.leaf (.ret, spanrN s xs x.1 x.2.1 0, spanrM s xs x.1)) (.leaf (.exit 1, spanrN s xs x.1 x.2.1 (posI xs x.2.2.1 (x.2.1 - x.2.2.2).toNat), spanrM s xs x.1))
noncomputable abbrev spanrLp (s : ByteArray) (xs : List QNodeV) (C : Int → Prop) (h : ∀ i, C i → CallTo Try.prog 22 [Sy.query s xs, int i] M0 fun v _ => v = int (spanI xs i)) : Lp Try.prog where
  f := 22
  key := 16
  S := formS (fun F M => match slotI F 1, slotI F 6, slotI F 7, slotI F 8 with | some i, some c, some a, some k => some (i, c, a, k) | _, _, _, _ => none) (fun x => spanrF s xs x.1 x.2.1 x.2.2.1 x.2.2.2) (fun x => spanrM s xs x.1) (fun x => xs.length ≤ 17592186044416 ∧ (∀ b, x.2.2.1 ≤ b → C b) ∧ 0 ≤ x.2.2.2 ∧ x.2.2.2 < x.2.2.1 ∧ x.2.2.1 ≤ xs.length) (spanrRes s xs) [false, true, true, false, true, false, true, true, true, false, false, false, false, false, false, false, false, false, false, false, false, false, false, false, false, false, false, false, false, false, false, false, false, false, false, false, false, false, false, false, false, false, false, false, false, false, false]
  one := by kernel_rfl
  ok := formS_ok fun x ⟨h1, h2, h3, h4, h5⟩ => by
    refine ⟨(xs.length - x.2.2.1).toNat + 1 + 1, ?_⟩
    have h6 := Sy.spanr_loop s xs h1 C h x.1 x.2.1 ((xs.length - x.2.2.1).toNat + 1) x.2.2.1 x.2.2.2 (by omega) h2 h3 h4 h5
    refine (h6.out [false, true, true, false, true, false, true, true, false, false, false, false, false, false, false, false, false, false, false, false, false, false, false, false, false, false, false, false, false, false, false, false, false, false, false, false, false, false, false, false, false, false, false, false, false, false, false]).mono fun ex F M hg => ?_
    obtain ⟨F0, ⟨hM, hg⟩, rfl⟩ := hg
    rcases hg with ⟨q1, rfl, k', rfl⟩ | ⟨q1, rfl, k', rfl⟩
    · exact .inl ⟨by rw [eqI_t]; exact q1, by rw [hM]; rfl⟩
    · exact .inr ⟨by rw [eqI_f]; exact q1, by rw [hM]; rfl⟩
end Sy
theorem span_fin {S p : Int} (hp : S = p) : (Tr.fork (eqI p 0) (.leaf (int 0)) (.leaf (int p))).Ok fun v => v = int S :=
  fork_ok (fun h => leaf_int (by simp only [Bool.not_eq_true', Bool.not_eq_false', leI_t, leI_f, eqI_t, eqI_f, inR_t, inR_f, isSo_t, isSo_f] at h; omega)) (fun h => leaf_int hp.symm)
theorem Sy.span_ref0 (s : ByteArray) (xs : List QNodeV) (hx : xs.length ≤ 17592186044416) (C : Int → Prop) (h : ∀ i, C i → CallTo Try.prog 22 [Sy.query s xs, int i] M0 fun v _ => v = int (spanI xs i)) (i : Int) (hC : i < xs.length → ∀ b, i < b → C b) : CallTo Try.prog 22 [Sy.query s xs, int i] M0 fun v _ => v = int (spanI xs i) :=
  toV [] [spanrLp s xs C h] 400 30 (.br (.auto 4 (.br .done (.yes (.br (.auto 0 (.br .done .done)) (.br (.br .done .done) (.br (.br .done .done) (.br (.br .done .done) .done))))))) (.auto 5 .done)) (.fork (!(!(leI (0 : Int) i))) (.fork (leI (((xs).length : Nat) : Int) i) (.leaf (int (0 : Int))) (.need (@inR i (xs).length) (.fork (eqI ((xs.getD (i).toNat QNodeV.zero)).kind (1 : Int)) (.need (@isSo (@And ((none :: (some (int i)) :: [(some (@AV.ptr 0 0)), none, (some (int (0 : Int))), none, (some (int ((xs.getD (i).toNat QNodeV.zero)).count)), (some (int (w64 (i + (1 : Int))))), (some (int (0 : Int))), none, none, none, none, none, none, none, none, none, none, none, none, none, none, none, none, none, none, none, none, none, none, none, none, none, none, none, none, none, none, none, none, none, none, none, none, none, none]) = [none, (some (int i)), (some (@AV.ptr 0 0)), none, (some (int (0 : Int))), none, (some (int ((xs.getD (i).toNat QNodeV.zero)).count)), (some (int (w64 (i + (1 : Int))))), (some (int (Int.ofNat 0))), none, none, none, none, none, none, none, none, none, none, none, none, none, none, none, none, none, none, none, none, none, none, none, none, none, none, none, none, none, none, none, none, none, none, none, none, none, none]) ((@Mem.mk ((0 + 1) + 1) (0 + 1) [(some (@Blk.mk ((int ((xs.getD (i).toNat QNodeV.zero)).kind) :: (int ((xs.getD (i).toNat QNodeV.zero)).count) :: (int ((xs.getD (i).toNat QNodeV.zero)).feat) :: (int ((xs.getD (i).toNat QNodeV.zero)).lo) :: (int ((xs.getD (i).toNat QNodeV.zero)).ln) :: (int ((xs.getD (i).toNat QNodeV.zero)).ld) :: (int ((xs.getD (i).toNat QNodeV.zero)).ho) :: (int ((xs.getD (i).toNat QNodeV.zero)).hn) :: (int ((xs.getD (i).toNat QNodeV.zero)).hd) :: (@List.drop _ (0 + ([(int ((xs.getD (i).toNat QNodeV.zero)).kind), (int ((xs.getD (i).toNat QNodeV.zero)).count), (int ((xs.getD (i).toNat QNodeV.zero)).feat), (int ((xs.getD (i).toNat QNodeV.zero)).lo), (int ((xs.getD (i).toNat QNodeV.zero)).ln), (int ((xs.getD (i).toNat QNodeV.zero)).ld), (int ((xs.getD (i).toNat QNodeV.zero)).ho), (int ((xs.getD (i).toNat QNodeV.zero)).hn), (int ((xs.getD (i).toNat QNodeV.zero)).hd)]).length) [(int (0 : Int)), (int (0 : Int)), (int (0 : Int)), (int (0 : Int)), (int (0 : Int)), (int (0 : Int)), (int (0 : Int)), (int (0 : Int)), (int (0 : Int))])) 45 none)), (some (@Blk.mk [(@AV.lit (@Value.string s)), (@qview xs)] 24 none))]) = (@Mem.mk 2 1 [(some (@Blk.mk [(int ((xs.getD (i).toNat QNodeV.zero)).kind), (int ((xs.getD (i).toNat QNodeV.zero)).count), (int ((xs.getD (i).toNat QNodeV.zero)).feat), (int ((xs.getD (i).toNat QNodeV.zero)).lo), (int ((xs.getD (i).toNat QNodeV.zero)).ln), (int ((xs.getD (i).toNat QNodeV.zero)).ld), (int ((xs.getD (i).toNat QNodeV.zero)).ho), (int ((xs.getD (i).toNat QNodeV.zero)).hn), (int ((xs.getD (i).toNat QNodeV.zero)).hd)] 45 none)), (some (@Blk.mk [(@AV.lit (@Value.string s)), (@qview xs)] 24 none))])))) (.need (@isSo (@And ((xs).length ≤ 17592186044416) (@And (∀ (b : Int), (i, (xs.getD i.toNat QNodeV.zero).count, w64 (i + 1), 0).snd.snd.fst ≤ b → C b) (@And ((0 : Int) ≤ (Int.ofNat 0)) (@And ((Int.ofNat 0) < (w64 (i + (1 : Int)))) ((w64 (i + (1 : Int))) ≤ (((xs).length : Nat) : Int))))))) (.fork (eqI (@posI xs (w64 (i + (1 : Int))) ((((xs.getD (i).toNat QNodeV.zero)).count - (Int.ofNat 0))).toNat) (0 : Int)) (.leaf (int (0 : Int))) (.leaf (int (@posI xs (w64 (i + (1 : Int))) ((((xs.getD (i).toNat QNodeV.zero)).count - (Int.ofNat 0))).toNat)))))) (.fork (eqI ((xs.getD (i).toNat QNodeV.zero)).kind (2 : Int)) (.need (@isSo (@And ((none :: (some (int i)) :: [(some (@AV.ptr 0 0)), none, (some (int (0 : Int))), none, (some (int ((xs.getD (i).toNat QNodeV.zero)).count)), (some (int (w64 (i + (1 : Int))))), (some (int (0 : Int))), none, none, none, none, none, none, none, none, none, none, none, none, none, none, none, none, none, none, none, none, none, none, none, none, none, none, none, none, none, none, none, none, none, none, none, none, none, none]) = [none, (some (int i)), (some (@AV.ptr 0 0)), none, (some (int (0 : Int))), none, (some (int ((xs.getD (i).toNat QNodeV.zero)).count)), (some (int (w64 (i + (1 : Int))))), (some (int (Int.ofNat 0))), none, none, none, none, none, none, none, none, none, none, none, none, none, none, none, none, none, none, none, none, none, none, none, none, none, none, none, none, none, none, none, none, none, none, none, none, none, none]) ((@Mem.mk ((0 + 1) + 1) (0 + 1) [(some (@Blk.mk ((int ((xs.getD (i).toNat QNodeV.zero)).kind) :: (int ((xs.getD (i).toNat QNodeV.zero)).count) :: (int ((xs.getD (i).toNat QNodeV.zero)).feat) :: (int ((xs.getD (i).toNat QNodeV.zero)).lo) :: (int ((xs.getD (i).toNat QNodeV.zero)).ln) :: (int ((xs.getD (i).toNat QNodeV.zero)).ld) :: (int ((xs.getD (i).toNat QNodeV.zero)).ho) :: (int ((xs.getD (i).toNat QNodeV.zero)).hn) :: (int ((xs.getD (i).toNat QNodeV.zero)).hd) :: (@List.drop _ (0 + ([(int ((xs.getD (i).toNat QNodeV.zero)).kind), (int ((xs.getD (i).toNat QNodeV.zero)).count), (int ((xs.getD (i).toNat QNodeV.zero)).feat), (int ((xs.getD (i).toNat QNodeV.zero)).lo), (int ((xs.getD (i).toNat QNodeV.zero)).ln), (int ((xs.getD (i).toNat QNodeV.zero)).ld), (int ((xs.getD (i).toNat QNodeV.zero)).ho), (int ((xs.getD (i).toNat QNodeV.zero)).hn), (int ((xs.getD (i).toNat QNodeV.zero)).hd)]).length) [(int (0 : Int)), (int (0 : Int)), (int (0 : Int)), (int (0 : Int)), (int (0 : Int)), (int (0 : Int)), (int (0 : Int)), (int (0 : Int)), (int (0 : Int))])) 45 none)), (some (@Blk.mk [(@AV.lit (@Value.string s)), (@qview xs)] 24 none))]) = (@Mem.mk 2 1 [(some (@Blk.mk [(int ((xs.getD (i).toNat QNodeV.zero)).kind), (int ((xs.getD (i).toNat QNodeV.zero)).count), (int ((xs.getD (i).toNat QNodeV.zero)).feat), (int ((xs.getD (i).toNat QNodeV.zero)).lo), (int ((xs.getD (i).toNat QNodeV.zero)).ln), (int ((xs.getD (i).toNat QNodeV.zero)).ld), (int ((xs.getD (i).toNat QNodeV.zero)).ho), (int ((xs.getD (i).toNat QNodeV.zero)).hn), (int ((xs.getD (i).toNat QNodeV.zero)).hd)] 45 none)), (some (@Blk.mk [(@AV.lit (@Value.string s)), (@qview xs)] 24 none))])))) (.need (@isSo (@And ((xs).length ≤ 17592186044416) (@And (∀ (b : Int), (i, (xs.getD i.toNat QNodeV.zero).count, w64 (i + 1), 0).snd.snd.fst ≤ b → C b) (@And ((0 : Int) ≤ (Int.ofNat 0)) (@And ((Int.ofNat 0) < (w64 (i + (1 : Int)))) ((w64 (i + (1 : Int))) ≤ (((xs).length : Nat) : Int))))))) (.fork (eqI (@posI xs (w64 (i + (1 : Int))) ((((xs.getD (i).toNat QNodeV.zero)).count - (Int.ofNat 0))).toNat) (0 : Int)) (.leaf (int (0 : Int))) (.leaf (int (@posI xs (w64 (i + (1 : Int))) ((((xs.getD (i).toNat QNodeV.zero)).count - (Int.ofNat 0))).toNat)))))) (.fork (eqI ((xs.getD (i).toNat QNodeV.zero)).kind (3 : Int)) (.need (@isSo (@And ((none :: (some (int i)) :: [(some (@AV.ptr 0 0)), none, (some (int (0 : Int))), none, (some (int (1 : Int))), (some (int (w64 (i + (1 : Int))))), (some (int (0 : Int))), none, none, none, none, none, none, none, none, none, none, none, none, none, none, none, none, none, none, none, none, none, none, none, none, none, none, none, none, none, none, none, none, none, none, none, none, none, none]) = [none, (some (int i)), (some (@AV.ptr 0 0)), none, (some (int (0 : Int))), none, (some (int (Int.ofNat 1))), (some (int (w64 (i + (1 : Int))))), (some (int (Int.ofNat 0))), none, none, none, none, none, none, none, none, none, none, none, none, none, none, none, none, none, none, none, none, none, none, none, none, none, none, none, none, none, none, none, none, none, none, none, none, none, none]) ((@Mem.mk ((0 + 1) + 1) (0 + 1) [(some (@Blk.mk ((int ((xs.getD (i).toNat QNodeV.zero)).kind) :: (int ((xs.getD (i).toNat QNodeV.zero)).count) :: (int ((xs.getD (i).toNat QNodeV.zero)).feat) :: (int ((xs.getD (i).toNat QNodeV.zero)).lo) :: (int ((xs.getD (i).toNat QNodeV.zero)).ln) :: (int ((xs.getD (i).toNat QNodeV.zero)).ld) :: (int ((xs.getD (i).toNat QNodeV.zero)).ho) :: (int ((xs.getD (i).toNat QNodeV.zero)).hn) :: (int ((xs.getD (i).toNat QNodeV.zero)).hd) :: (@List.drop _ (0 + ([(int ((xs.getD (i).toNat QNodeV.zero)).kind), (int ((xs.getD (i).toNat QNodeV.zero)).count), (int ((xs.getD (i).toNat QNodeV.zero)).feat), (int ((xs.getD (i).toNat QNodeV.zero)).lo), (int ((xs.getD (i).toNat QNodeV.zero)).ln), (int ((xs.getD (i).toNat QNodeV.zero)).ld), (int ((xs.getD (i).toNat QNodeV.zero)).ho), (int ((xs.getD (i).toNat QNodeV.zero)).hn), (int ((xs.getD (i).toNat QNodeV.zero)).hd)]).length) [(int (0 : Int)), (int (0 : Int)), (int (0 : Int)), (int (0 : Int)), (int (0 : Int)), (int (0 : Int)), (int (0 : Int)), (int (0 : Int)), (int (0 : Int))])) 45 none)), (some (@Blk.mk [(@AV.lit (@Value.string s)), (@qview xs)] 24 none))]) = (@Mem.mk 2 1 [(some (@Blk.mk [(int ((xs.getD (i).toNat QNodeV.zero)).kind), (int ((xs.getD (i).toNat QNodeV.zero)).count), (int ((xs.getD (i).toNat QNodeV.zero)).feat), (int ((xs.getD (i).toNat QNodeV.zero)).lo), (int ((xs.getD (i).toNat QNodeV.zero)).ln), (int ((xs.getD (i).toNat QNodeV.zero)).ld), (int ((xs.getD (i).toNat QNodeV.zero)).ho), (int ((xs.getD (i).toNat QNodeV.zero)).hn), (int ((xs.getD (i).toNat QNodeV.zero)).hd)] 45 none)), (some (@Blk.mk [(@AV.lit (@Value.string s)), (@qview xs)] 24 none))])))) (.need (@isSo (@And ((xs).length ≤ 17592186044416) (@And (∀ (b : Int), (i, 1, w64 (i + 1), 0).snd.snd.fst ≤ b → C b) (@And ((0 : Int) ≤ (Int.ofNat 0)) (@And ((Int.ofNat 0) < (w64 (i + (1 : Int)))) ((w64 (i + (1 : Int))) ≤ (((xs).length : Nat) : Int))))))) (.fork (eqI (@posI xs (w64 (i + (1 : Int))) (((Int.ofNat 1) - (Int.ofNat 0))).toNat) (0 : Int)) (.leaf (int (0 : Int))) (.leaf (int (@posI xs (w64 (i + (1 : Int))) (((Int.ofNat 1) - (Int.ofNat 0))).toNat)))))) (.fork (eqI ((xs.getD (i).toNat QNodeV.zero)).kind (4 : Int)) (.need (@isSo (@And ((none :: (some (int i)) :: [(some (@AV.ptr 0 0)), none, (some (int (0 : Int))), none, (some (int (0 : Int))), (some (int (w64 (i + (1 : Int))))), (some (int (0 : Int))), none, none, none, none, none, none, none, none, none, none, none, none, none, none, none, none, none, none, none, none, none, none, none, none, none, none, none, none, none, none, none, none, none, none, none, none, none, none]) = [none, (some (int i)), (some (@AV.ptr 0 0)), none, (some (int (0 : Int))), none, (some (int (Int.ofNat 0))), (some (int (w64 (i + (1 : Int))))), (some (int (Int.ofNat 0))), none, none, none, none, none, none, none, none, none, none, none, none, none, none, none, none, none, none, none, none, none, none, none, none, none, none, none, none, none, none, none, none, none, none, none, none, none, none]) ((@Mem.mk ((0 + 1) + 1) (0 + 1) [(some (@Blk.mk ((int ((xs.getD (i).toNat QNodeV.zero)).kind) :: (int ((xs.getD (i).toNat QNodeV.zero)).count) :: (int ((xs.getD (i).toNat QNodeV.zero)).feat) :: (int ((xs.getD (i).toNat QNodeV.zero)).lo) :: (int ((xs.getD (i).toNat QNodeV.zero)).ln) :: (int ((xs.getD (i).toNat QNodeV.zero)).ld) :: (int ((xs.getD (i).toNat QNodeV.zero)).ho) :: (int ((xs.getD (i).toNat QNodeV.zero)).hn) :: (int ((xs.getD (i).toNat QNodeV.zero)).hd) :: (@List.drop _ (0 + ([(int ((xs.getD (i).toNat QNodeV.zero)).kind), (int ((xs.getD (i).toNat QNodeV.zero)).count), (int ((xs.getD (i).toNat QNodeV.zero)).feat), (int ((xs.getD (i).toNat QNodeV.zero)).lo), (int ((xs.getD (i).toNat QNodeV.zero)).ln), (int ((xs.getD (i).toNat QNodeV.zero)).ld), (int ((xs.getD (i).toNat QNodeV.zero)).ho), (int ((xs.getD (i).toNat QNodeV.zero)).hn), (int ((xs.getD (i).toNat QNodeV.zero)).hd)]).length) [(int (0 : Int)), (int (0 : Int)), (int (0 : Int)), (int (0 : Int)), (int (0 : Int)), (int (0 : Int)), (int (0 : Int)), (int (0 : Int)), (int (0 : Int))])) 45 none)), (some (@Blk.mk [(@AV.lit (@Value.string s)), (@qview xs)] 24 none))]) = (@Mem.mk 2 1 [(some (@Blk.mk [(int ((xs.getD (i).toNat QNodeV.zero)).kind), (int ((xs.getD (i).toNat QNodeV.zero)).count), (int ((xs.getD (i).toNat QNodeV.zero)).feat), (int ((xs.getD (i).toNat QNodeV.zero)).lo), (int ((xs.getD (i).toNat QNodeV.zero)).ln), (int ((xs.getD (i).toNat QNodeV.zero)).ld), (int ((xs.getD (i).toNat QNodeV.zero)).ho), (int ((xs.getD (i).toNat QNodeV.zero)).hn), (int ((xs.getD (i).toNat QNodeV.zero)).hd)] 45 none)), (some (@Blk.mk [(@AV.lit (@Value.string s)), (@qview xs)] 24 none))])))) (.need (@isSo (@And ((xs).length ≤ 17592186044416) (@And (∀ (b : Int), (i, 0, w64 (i + 1), 0).snd.snd.fst ≤ b → C b) (@And ((0 : Int) ≤ (Int.ofNat 0)) (@And ((Int.ofNat 0) < (w64 (i + (1 : Int)))) ((w64 (i + (1 : Int))) ≤ (((xs).length : Nat) : Int))))))) (.fork (eqI (@posI xs (w64 (i + (1 : Int))) (((Int.ofNat 0) - (Int.ofNat 0))).toNat) (0 : Int)) (.leaf (int (0 : Int))) (.leaf (int (@posI xs (w64 (i + (1 : Int))) (((Int.ofNat 0) - (Int.ofNat 0))).toNat)))))) (.leaf (int (0 : Int))))))))) (.leaf (int (0 : Int)))) (by kernel_rfl) (by
    have hs := spanI_eq xs i
    refine fork_ok (fun h1 => ?_) (fun h1 => ?_)
    · simp only [Bool.not_eq_true', Bool.not_eq_false', leI_t, leI_f, eqI_t, eqI_f, inR_t, inR_f, isSo_t, isSo_f] at h1
      rw [if_neg (by omega)] at hs
      refine fork_ok (fun h2 => ?_) (fun h2 => need_t (by simp only [Bool.not_eq_true', Bool.not_eq_false', leI_t, leI_f, eqI_t, eqI_f, inR_t, inR_f, isSo_t, isSo_f] at h2; rw [inR_t]; omega) ?_)
      · simp only [Bool.not_eq_true', Bool.not_eq_false', leI_t, leI_f, eqI_t, eqI_f, inR_t, inR_f, isSo_t, isSo_f] at h2
        rw [posI_out _ _ h2] at hs
        exact leaf_int hs.symm
      · simp only [Bool.not_eq_true', Bool.not_eq_false', leI_t, leI_f, eqI_t, eqI_f, inR_t, inR_f, isSo_t, isSo_f] at h2
        rw [posI_one _ _ (by omega) (by omega)] at hs
        rw [show w64 (i + 1) = i + 1 from w64_in (by omega)]
        have f1 : ∀ b, i + 1 ≤ b → C b := fun b hb => hC (by omega) b (by omega)
        have f2 : (0 : Int) < i + 1 := by omega
        have f3 : i + 1 ≤ (xs.length : Int) := by omega
        refine fork_ok (fun h3 => need_so ⟨rfl, rfl⟩ (need_so ⟨hx, f1, Int.le_refl 0, f2, f3⟩ (span_fin ?_))) (fun h3 => fork_ok (fun h4 => need_so ⟨rfl, rfl⟩ (need_so ⟨hx, f1, Int.le_refl 0, f2, f3⟩ (span_fin ?_))) (fun h4 => fork_ok (fun h5 => need_so ⟨rfl, rfl⟩ (need_so ⟨hx, f1, Int.le_refl 0, f2, f3⟩ (span_fin ?_))) (fun h5 => fork_ok (fun h6 => need_so ⟨rfl, rfl⟩ (need_so ⟨hx, f1, Int.le_refl 0, f2, f3⟩ (span_fin ?_))) (fun h6 => leaf_int ?_))))
        · simp only [Bool.not_eq_true', Bool.not_eq_false', leI_t, leI_f, eqI_t, eqI_f, inR_t, inR_f, isSo_t, isSo_f] at h3
          have e : hasI (xs.getD i.toNat QNodeV.zero).kind (xs.getD i.toNat QNodeV.zero).count = if (xs.getD i.toNat QNodeV.zero).count < 0 then 0 else (xs.getD i.toNat QNodeV.zero).count := by unfold hasI; rw [if_pos (.inl h3)]
          rw [e, if_neg (by split <;> omega)] at hs
          rw [hs]
          congr 1
          show (if (xs.getD i.toNat QNodeV.zero).count < 0 then 0 else (xs.getD i.toNat QNodeV.zero).count).toNat = ((xs.getD i.toNat QNodeV.zero).count - 0).toNat
          split <;> omega
        · simp only [Bool.not_eq_true', Bool.not_eq_false', leI_t, leI_f, eqI_t, eqI_f, inR_t, inR_f, isSo_t, isSo_f] at h4
          have e : hasI (xs.getD i.toNat QNodeV.zero).kind (xs.getD i.toNat QNodeV.zero).count = if (xs.getD i.toNat QNodeV.zero).count < 0 then 0 else (xs.getD i.toNat QNodeV.zero).count := by unfold hasI; rw [if_pos (.inr h4)]
          rw [e, if_neg (by split <;> omega)] at hs
          rw [hs]
          congr 1
          show (if (xs.getD i.toNat QNodeV.zero).count < 0 then 0 else (xs.getD i.toNat QNodeV.zero).count).toNat = ((xs.getD i.toNat QNodeV.zero).count - 0).toNat
          split <;> omega
        · simp only [Bool.not_eq_true', Bool.not_eq_false', leI_t, leI_f, eqI_t, eqI_f, inR_t, inR_f, isSo_t, isSo_f] at h3
          simp only [Bool.not_eq_true', Bool.not_eq_false', leI_t, leI_f, eqI_t, eqI_f, inR_t, inR_f, isSo_t, isSo_f] at h4
          simp only [Bool.not_eq_true', Bool.not_eq_false', leI_t, leI_f, eqI_t, eqI_f, inR_t, inR_f, isSo_t, isSo_f] at h5
          have e : hasI (xs.getD i.toNat QNodeV.zero).kind (xs.getD i.toNat QNodeV.zero).count = 1 := by unfold hasI; rw [if_neg (by omega), if_pos h5]
          rw [e, if_neg (by omega)] at hs
          exact hs
        · simp only [Bool.not_eq_true', Bool.not_eq_false', leI_t, leI_f, eqI_t, eqI_f, inR_t, inR_f, isSo_t, isSo_f] at h3
          simp only [Bool.not_eq_true', Bool.not_eq_false', leI_t, leI_f, eqI_t, eqI_f, inR_t, inR_f, isSo_t, isSo_f] at h4
          simp only [Bool.not_eq_true', Bool.not_eq_false', leI_t, leI_f, eqI_t, eqI_f, inR_t, inR_f, isSo_t, isSo_f] at h5
          simp only [Bool.not_eq_true', Bool.not_eq_false', leI_t, leI_f, eqI_t, eqI_f, inR_t, inR_f, isSo_t, isSo_f] at h6
          have e : hasI (xs.getD i.toNat QNodeV.zero).kind (xs.getD i.toNat QNodeV.zero).count = 0 := by unfold hasI; rw [if_neg (by omega), if_neg h5, if_pos h6]
          rw [e, if_neg (by omega)] at hs
          exact hs
        · simp only [Bool.not_eq_true', Bool.not_eq_false', leI_t, leI_f, eqI_t, eqI_f, inR_t, inR_f, isSo_t, isSo_f] at h3
          simp only [Bool.not_eq_true', Bool.not_eq_false', leI_t, leI_f, eqI_t, eqI_f, inR_t, inR_f, isSo_t, isSo_f] at h4
          simp only [Bool.not_eq_true', Bool.not_eq_false', leI_t, leI_f, eqI_t, eqI_f, inR_t, inR_f, isSo_t, isSo_f] at h5
          simp only [Bool.not_eq_true', Bool.not_eq_false', leI_t, leI_f, eqI_t, eqI_f, inR_t, inR_f, isSo_t, isSo_f] at h6
          have e : hasI (xs.getD i.toNat QNodeV.zero).kind (xs.getD i.toNat QNodeV.zero).count = -1 := by unfold hasI; rw [if_neg (by omega), if_neg h5, if_neg h6]
          rw [e, if_pos (by omega)] at hs
          exact hs.symm
    · simp only [Bool.not_eq_true', Bool.not_eq_false', leI_t, leI_f, eqI_t, eqI_f, inR_t, inR_f, isSo_t, isSo_f] at h1
      rw [if_pos (by omega)] at hs
      exact leaf_int hs.symm)
theorem Sy.span_ref (s : ByteArray) (xs : List QNodeV) (hx : xs.length ≤ 17592186044416) (i : Int) : CallTo Try.prog 22 [Sy.query s xs, int i] M0 fun v _ => v = int (spanI xs i) := by
  have key : ∀ (n : Nat) (i : Int), (xs.length : Int) - i < n → CallTo Try.prog 22 [Sy.query s xs, int i] M0 fun v _ => v = int (spanI xs i) := by
    intro n
    induction n with
    | zero => intro i hi; exact Sy.span_ref0 s xs hx (fun _ => False) (fun _ hb => hb.elim) i (fun hl => by omega)
    | succ n ih => intro i hi; exact Sy.span_ref0 s xs hx (fun b => (xs.length : Int) - b < n) ih i (fun _ b hb => by omega)
  exact key ((xs.length - i).toNat + 1) i (by omega)
noncomputable abbrev Sy.cSpanRef (s : ByteArray) (xs : List QNodeV) : Con Try.prog := cSpanR s xs (fun _ => xs.length ≤ 17592186044416) (fun i h => Sy.span_ref s xs h i)
end Go.Proofs.Ytlmanlpgknhfpaa
namespace Go.Proofs.Ytlmanlpgknhfpaa
open Go Go.RowKit Pl Sy
namespace Sy
abbrev rrM (s : ByteArray) (xs : List QNodeV) : Mem := (@Mem.mk 1 0 [(some (@Blk.mk [(@AV.lit (@Value.string s)), (@qview xs)] 24 none))])
abbrev rrF (s : ByteArray) (xs : List QNodeV) (i : Int) : Fr := [none, some ((@AV.ptr 0 0)), some ((boo false)), some (int i), none, none, none, none, none, none, none, none, none, none, none, none, none, none, none, none, none, none, none, none, none, none, none, none, none, none, none, none, none, none, none, none, none, none, none, none, none, none, none, none, none, none, none, none, none, none]
abbrev rrN (s : ByteArray) (xs : List QNodeV) : Fr := [none, some ((@AV.ptr 0 0)), some ((boo false)), none, none, none, none, none, none, none, none, none, none, none, none, none, none, none, none, none, none, none, none, none, none, none, none, none, none, none, none, none, none, none, none, none, none, none, none, none, none, none, none, none, none, none, none, none, none, none]
end Sy
theorem Sy.rr_loop (s : ByteArray) (xs : List QNodeV) (hx : xs.length ≤ 17592186044416) : ∀ (l pre : List QNodeV) (i : Int), xs = pre ++ l → i = pre.length →
    LoopTo Try.prog (theBody Try.prog 8 5) (l.length + 1) (rrF s xs i) (rrM s xs) fun ex F M => M = rrM s xs ∧ (((wrongL l).isSome = true ∧ ex = .ret ∧ ∃ j, F = rrF s xs j) ∨ ((wrongL l).isSome = false ∧ ex = .exit 0 ∧ ∃ j, F = rrF s xs j)) := by
  intro l
  induction l with
  | nil =>
    intro pre i hxs hi
    have hl : xs.length = pre.length := by rw [hxs]; simp
    refine roundL [cRightNode] [] 400 30 8 5 Try.func8 rfl (by kernel_rfl) [false, true, true, true, false, false, false, false, false, false, false, false, false, false, false, false, false, false, false, false, false, false, false, false, false, false, false, false, false, false, false, false, false, false, false, false, false, false, false, false, false, false, false, false, false, false, false, false, false, false] (.br (.yes (.br .done .done)) .done) (.fork (!(leI (((xs).length : Nat) : Int) i)) (.need (@inR i (xs).length) (.fork (!(@rightV ((xs.getD (i).toNat QNodeV.zero)).kind ((xs.getD (i).toNat QNodeV.zero)).count ((xs.getD (i).toNat QNodeV.zero)).feat ((xs.getD (i).toNat QNodeV.zero)).lo ((xs.getD (i).toNat QNodeV.zero)).ln ((xs.getD (i).toNat QNodeV.zero)).ld ((xs.getD (i).toNat QNodeV.zero)).ho ((xs.getD (i).toNat QNodeV.zero)).hn ((xs.getD (i).toNat QNodeV.zero)).hd)) (.leaf (Ex.ret, ([none, (some (@AV.ptr 0 0)), (some (boo false)), (some (int i)), none, none, none, none, none, none, none, none, none, none, none, none, none, none, none, none, none, none, none, none, none, none, none, none, none, none, none, none, none, none, none, none, none, none, none, none, none, none, none, none, none, none, none, none, none, none], (@Mem.mk 1 0 [(some (@Blk.mk [(@AV.lit (@Value.string s)), (@qview xs)] 24 none))])))) (.leaf (Ex.norm, ([none, (some (@AV.ptr 0 0)), (some (boo false)), (some (int (w64 (i + (1 : Int))))), none, none, none, none, none, none, none, none, none, none, none, none, none, none, none, none, none, none, none, none, none, none, none, none, none, none, none, none, none, none, none, none, none, none, none, none, none, none, none, none, none, none, none, none, none, none], (@Mem.mk 1 0 [(some (@Blk.mk [(@AV.lit (@Value.string s)), (@qview xs)] 24 none))])))))) (.leaf ((@Ex.exit 0), ([none, (some (@AV.ptr 0 0)), (some (boo false)), (some (int i)), none, none, none, none, none, none, none, none, none, none, none, none, none, none, none, none, none, none, none, none, none, none, none, none, none, none, none, none, none, none, none, none, none, none, none, none, none, none, none, none, none, none, none, none, none, none], (@Mem.mk 1 0 [(some (@Blk.mk [(@AV.lit (@Value.string s)), (@qview xs)] 24 none))]))))) (by kernel_rfl) ?_
    refine fork_ok (fun h => ?_) (fun h => ⟨rfl, .inr ⟨rfl, rfl, i, rfl⟩⟩)
    simp only [Bool.not_eq_true', Bool.not_eq_false', leI_t, leI_f, eqI_t, eqI_f, inR_t, inR_f, isSo_t, isSo_f] at h
    omega
  | cons n l ih =>
    intro pre i hxs hi
    have hl : xs.length = pre.length + l.length + 1 := by rw [hxs]; simp; omega
    have hg : xs.getD i.toNat QNodeV.zero = n := by rw [hxs]; exact getD_at _ _ _ _ _ hi
    refine roundL [cRightNode] [] 400 30 8 5 Try.func8 rfl (by kernel_rfl) [false, true, true, true, false, false, false, false, false, false, false, false, false, false, false, false, false, false, false, false, false, false, false, false, false, false, false, false, false, false, false, false, false, false, false, false, false, false, false, false, false, false, false, false, false, false, false, false, false, false] (.br (.yes (.br .done .done)) .done) (.fork (!(leI (((xs).length : Nat) : Int) i)) (.need (@inR i (xs).length) (.fork (!(@rightV ((xs.getD (i).toNat QNodeV.zero)).kind ((xs.getD (i).toNat QNodeV.zero)).count ((xs.getD (i).toNat QNodeV.zero)).feat ((xs.getD (i).toNat QNodeV.zero)).lo ((xs.getD (i).toNat QNodeV.zero)).ln ((xs.getD (i).toNat QNodeV.zero)).ld ((xs.getD (i).toNat QNodeV.zero)).ho ((xs.getD (i).toNat QNodeV.zero)).hn ((xs.getD (i).toNat QNodeV.zero)).hd)) (.leaf (Ex.ret, ([none, (some (@AV.ptr 0 0)), (some (boo false)), (some (int i)), none, none, none, none, none, none, none, none, none, none, none, none, none, none, none, none, none, none, none, none, none, none, none, none, none, none, none, none, none, none, none, none, none, none, none, none, none, none, none, none, none, none, none, none, none, none], (@Mem.mk 1 0 [(some (@Blk.mk [(@AV.lit (@Value.string s)), (@qview xs)] 24 none))])))) (.leaf (Ex.norm, ([none, (some (@AV.ptr 0 0)), (some (boo false)), (some (int (w64 (i + (1 : Int))))), none, none, none, none, none, none, none, none, none, none, none, none, none, none, none, none, none, none, none, none, none, none, none, none, none, none, none, none, none, none, none, none, none, none, none, none, none, none, none, none, none, none, none, none, none, none], (@Mem.mk 1 0 [(some (@Blk.mk [(@AV.lit (@Value.string s)), (@qview xs)] 24 none))])))))) (.leaf ((@Ex.exit 0), ([none, (some (@AV.ptr 0 0)), (some (boo false)), (some (int i)), none, none, none, none, none, none, none, none, none, none, none, none, none, none, none, none, none, none, none, none, none, none, none, none, none, none, none, none, none, none, none, none, none, none, none, none, none, none, none, none, none, none, none, none, none, none], (@Mem.mk 1 0 [(some (@Blk.mk [(@AV.lit (@Value.string s)), (@qview xs)] 24 none))]))))) (by kernel_rfl) ?_
    have hr : inR i xs.length = true := by rw [inR_t]; omega
    rw [hg]
    refine fork_ok (fun h => need_t hr (fork_ok (fun h2 => ?_) (fun h2 => ?_))) (fun h => ?_)
    · simp only [Bool.not_eq_true', Bool.not_eq_false', leI_t, leI_f, eqI_t, eqI_f, inR_t, inR_f, isSo_t, isSo_f] at h2
      have hw : (wrongL (n :: l)).isSome = true := by unfold wrongL; rw [if_neg (by rw [h2]; simp)]; rfl
      exact ⟨rfl, .inl ⟨hw, rfl, i, rfl⟩⟩
    · simp only [Bool.not_eq_true', Bool.not_eq_false', leI_t, leI_f, eqI_t, eqI_f, inR_t, inR_f, isSo_t, isSo_f] at h2
      have hw : (wrongL (n :: l)).isSome = (wrongL l).isSome := by rw [wrongL, if_pos h2]; cases wrongL l <;> rfl
      rw [w64_in (r := i + 1) (by omega)]
      refine (ih (pre ++ [n]) (i + 1) (by rw [hxs]; simp) (by simp; omega)).mono fun ex F M hg => ?_
      rw [hw]
      exact hg
    · simp only [Bool.not_eq_true', Bool.not_eq_false', leI_t, leI_f, eqI_t, eqI_f, inR_t, inR_f, isSo_t, isSo_f] at h
      omega
namespace Sy
noncomputable abbrev rrRes (s : ByteArray) (xs : List QNodeV) (x : Int) : Tr (Ex × Fr × Mem) :=
  .fork (wrongL (xs.drop x.toNat)).isSome (.leaf (.ret, rrN s xs, rrM s xs)) (.leaf (.exit 0, rrN s xs, rrM s xs))
noncomputable abbrev rrLp (s : ByteArray) (xs : List QNodeV) : Lp Try.prog where
  f := 8
  key := 5
  S := formS (fun F M => slotI F 3) (fun x => rrF s xs x) (fun _ => rrM s xs) (fun x => xs.length ≤ 17592186044416 ∧ 0 ≤ x ∧ x ≤ xs.length) (rrRes s xs) [false, true, true, true, false, false, false, false, false, false, false, false, false, false, false, false, false, false, false, false, false, false, false, false, false, false, false, false, false, false, false, false, false, false, false, false, false, false, false, false, false, false, false, false, false, false, false, false, false, false]
  one := by kernel_rfl
  ok := formS_ok fun x ⟨h1, h2, h3⟩ => by
    refine ⟨(xs.drop x.toNat).length + 1, ?_⟩
    have h6 := Sy.rr_loop s xs h1 (xs.drop x.toNat) (xs.take x.toNat) x (by simp) (by simp; omega)
    refine (h6.out [false, true, true, false, false, false, false, false, false, false, false, false, false, false, false, false, false, false, false, false, false, false, false, false, false, false, false, false, false, false, false, false, false, false, false, false, false, false, false, false, false, false, false, false, false, false, false, false, false, false]).mono fun ex F M hg => ?_
    obtain ⟨F0, ⟨hM, hg⟩, rfl⟩ := hg
    rcases hg with ⟨q1, rfl, k', rfl⟩ | ⟨q1, rfl, k', rfl⟩
    · exact .inl ⟨q1, by rw [hM]; rfl⟩
    · exact .inr ⟨q1, by rw [hM]; rfl⟩
end Sy
theorem Sy.right_ref (s : ByteArray) (xs : List QNodeV) (hs : s.size ≤ maxLen) (hx : xs.length ≤ 17592186044416) : CallTo Try.prog 8 [Sy.query s xs] M0 fun v _ => v = boo (rightQ s xs) :=
  toV [cNameR, cReservedR, cSpanRef s xs] [rrLp s xs] 400 30 (.br (.auto 1 (.yes (.auto 1 (.br (.auto 1 (.yes (.auto 2 (.br .done (.br .done (.br (.auto 3 (.br (.auto 0 (.yes (.auto 4 .done))) (.auto 5 .done))) (.auto 10 .done))))))) (.auto 5 .done))))) (.auto 9 (.br .done (.br (.auto 3 (.br (.auto 0 (.yes (.auto 4 .done))) (.auto 5 .done))) (.auto 10 .done))))) (.fork (!(@bytesEq (@Array.toList _ (@ByteArray.data s)) (@Array.toList _ (@ByteArray.data (@ByteArray.mk (@Array.mk _ [])))))) (.need (@isSo ((@ByteArray.size s) ≤ 9223372036854775807)) (.fork (!(!(@Pl.nameL (@Array.toList _ (@ByteArray.data s))))) (.need (@isSo True) (.fork (@resB s) (.leaf (boo false)) (.need (@isSo (@And ((none :: [(some (@AV.ptr 0 0)), (some (boo false)), (some (int (0 : Int))), none, none, none, none, none, none, none, none, none, none, none, none, none, none, none, none, none, none, none, none, none, none, none, none, none, none, none, none, none, none, none, none, none, none, none, none, none, none, none, none, none, none, none, none, none, none]) = [none, (some (@AV.ptr 0 0)), (some (boo false)), (some (int (0 : Int))), none, none, none, none, none, none, none, none, none, none, none, none, none, none, none, none, none, none, none, none, none, none, none, none, none, none, none, none, none, none, none, none, none, none, none, none, none, none, none, none, none, none, none, none, none, none]) ((@Mem.mk 1 0 [(some (@Blk.mk [(@AV.lit (@Value.string s)), (@qview xs)] 24 none))]) = (@Mem.mk 1 0 [(some (@Blk.mk [(@AV.lit (@Value.string s)), (@qview xs)] 24 none))])))) (.need (@isSo (@And ((xs).length ≤ 17592186044416) (@And ((0 : Int) ≤ (0 : Int)) ((0 : Int) ≤ (((xs).length : Nat) : Int))))) (.fork (@Option.isSome _ (@wrongL xs)) (.leaf (boo false)) (.fork (!(leI (((xs).length : Nat) : Int) (0 : Int))) (.fork (leI (((xs).length : Nat) : Int) (32 : Int)) (.need (@isSo (@And ((@HAppend.hAppend _ _ _ _ (@HAppend.hAppend _ _ _ _ [] [(@AV.agg [(@AV.lit (@Value.string s)), (@qview xs)]), (int (0 : Int))]) []) = [(@query s xs), (int (0 : Int))]) ((xs).length ≤ 17592186044416))) (.leaf (boo (eqI (@spanI xs (0 : Int)) (((xs).length : Nat) : Int))))) (.leaf (boo false))) (.leaf (boo false)))))))) (.leaf (boo false)))) (.need (@isSo (@And ((none :: [(some (@AV.ptr 0 0)), (some (boo false)), (some (int (0 : Int))), none, none, none, none, none, none, none, none, none, none, none, none, none, none, none, none, none, none, none, none, none, none, none, none, none, none, none, none, none, none, none, none, none, none, none, none, none, none, none, none, none, none, none, none, none, none]) = [none, (some (@AV.ptr 0 0)), (some (boo false)), (some (int (0 : Int))), none, none, none, none, none, none, none, none, none, none, none, none, none, none, none, none, none, none, none, none, none, none, none, none, none, none, none, none, none, none, none, none, none, none, none, none, none, none, none, none, none, none, none, none, none, none]) ((@Mem.mk 1 0 [(some (@Blk.mk [(@AV.lit (@Value.string s)), (@qview xs)] 24 none))]) = (@Mem.mk 1 0 [(some (@Blk.mk [(@AV.lit (@Value.string s)), (@qview xs)] 24 none))])))) (.need (@isSo (@And ((xs).length ≤ 17592186044416) (@And ((0 : Int) ≤ (0 : Int)) ((0 : Int) ≤ (((xs).length : Nat) : Int))))) (.fork (@Option.isSome _ (@wrongL xs)) (.leaf (boo false)) (.fork (!(leI (((xs).length : Nat) : Int) (0 : Int))) (.fork (leI (((xs).length : Nat) : Int) (32 : Int)) (.need (@isSo (@And ((@HAppend.hAppend _ _ _ _ (@HAppend.hAppend _ _ _ _ [] [(@AV.agg [(@AV.lit (@Value.string s)), (@qview xs)]), (int (0 : Int))]) []) = [(@query s xs), (int (0 : Int))]) ((xs).length ≤ 17592186044416))) (.leaf (boo (eqI (@spanI xs (0 : Int)) (((xs).length : Nat) : Int))))) (.leaf (boo false))) (.leaf (boo false))))))) (by kernel_rfl) (by
    repeat' (first
      | refine fork_ok (fun _ => ?_) (fun _ => ?_)
      | refine need_so ⟨rfl, by (first | assumption | trivial | (try simp only [eqI_t, eqI_f, leI_t, leI_f, inR_t, inR_f, isSo_t, isSo_f, eqI_d, leI_d, decide_eq_true_eq, decide_eq_false_iff_not, Bool.not_eq_true', Bool.not_eq_false', Bool.false_eq_true, Bool.and_eq_true, Bool.or_eq_true, Bool.not_not, iff_false, false_iff, iff_true, true_iff] at *) <;> first | omega | grind)⟩ ?_
      | refine need_so (by (first | assumption | trivial | (try simp only [eqI_t, eqI_f, leI_t, leI_f, inR_t, inR_f, isSo_t, isSo_f, eqI_d, leI_d, decide_eq_true_eq, decide_eq_false_iff_not, Bool.not_eq_true', Bool.not_eq_false', Bool.false_eq_true, Bool.and_eq_true, Bool.or_eq_true, Bool.not_not, iff_false, false_iff, iff_true, true_iff] at *) <;> first | omega | grind)) ?_
      | refine need_t (by (first | assumption | trivial | (try simp only [eqI_t, eqI_f, leI_t, leI_f, inR_t, inR_f, isSo_t, isSo_f, eqI_d, leI_d, decide_eq_true_eq, decide_eq_false_iff_not, Bool.not_eq_true', Bool.not_eq_false', Bool.false_eq_true, Bool.and_eq_true, Bool.or_eq_true, Bool.not_not, iff_false, false_iff, iff_true, true_iff] at *) <;> first | omega | grind)) ?_)
    all_goals (first | refine leaf_boo ?_ | refine leaf_int ?_)
    all_goals (unfold rightQ; try simp only [eqI_t, eqI_f, leI_t, leI_f, inR_t, inR_f, isSo_t, isSo_f, eqI_d, leI_d, decide_eq_true_eq, decide_eq_false_iff_not, Bool.not_eq_true', Bool.not_eq_false', Bool.false_eq_true, Bool.and_eq_true, Bool.or_eq_true, Bool.not_not, iff_false, false_iff, iff_true, true_iff] at *)
    all_goals (first | omega | grind))
end Go.Proofs.Ytlmanlpgknhfpaa
namespace Go.Proofs.Ytlmanlpgknhfpaa
open Go Go.RowKit Pl Sy
def nodeN (xs : List QNodeV) (i : Int) : QNodeV := xs.getD i.toNat QNodeV.zero
def tmT (xs : List QNodeV) (g : Int → List TokV) (i : Int) : List TokV := if (nodeN xs i).kind = 4 then g i else [opnT] ++ (g i ++ [cloT])
def lpT (xs : List QNodeV) (g : Int → List TokV) (w : ByteArray) : Nat → Int → List TokV
  | 0, _ => []
  | m + 1, i => [spT, idT w, spT] ++ (tmT xs g i ++ lpT xs g w m (spanI xs i))
def wdS (k : Int) : ByteArray := if k = 2 then ⟨#[111, 114]⟩ else ⟨#[97, 110, 100]⟩
structure NdK where
  T : Int → List TokV
  C : Int → Prop
structure NdK.Ok (K : NdK) (s : ByteArray) (xs : List QNodeV) : Prop where
  call : ∀ L i, K.C i → limT (L.length + (K.T i).length) → CallTo Try.prog 18 [.ptr 0 0, query s xs, int i] (wM L) fun v M' => v = int (spanI xs i) ∧ WrEnd M' (L ++ K.T i)
theorem Sy.qv_free (s : ByteArray) (xs : List QNodeV) : Free (query s xs) := ⟨trivial, viewOf_free _ _ _ _, trivial⟩
noncomputable abbrev Sy.cNode (s : ByteArray) (xs : List QNodeV) (K : NdK) (hK : K.Ok s xs) : Con Try.prog := conV 18 (fun r => match r with | [_, .lit (.int .i64 i)] => some i | _ => none) (fun i => [query s xs, int i]) (fun i => int (spanI xs i)) (fun i => K.T i) (fun i => K.C i) fun L i h hl => ⟨⟨⟨qv_free s xs, trivial, trivial⟩, trivial⟩, hK.call L i h hl⟩
theorem Sy.wtm_t (s : ByteArray) (xs : List QNodeV) (K : NdK) (hK : K.Ok s xs) (L : List TokV) (i : Int) (h : inR i xs.length = true ∧ K.C i) (hl : limT (L.length + (tmT xs K.T i).length)) : CallTo Try.prog 37 [.ptr 0 0, query s xs, int i] (wM L) fun v M' => v = int (spanI xs i) ∧ WrEnd M' (L ++ tmT xs K.T i) :=
  to (G := fun r => r.1 = int (spanI xs i) ∧ WrEnd r.2 (L ++ tmT xs K.T i)) [cPutV, cNode s xs K hK] [] 400 30 (.yes (.br (.yes .done) (.yes (.yes (.yes .done))))) (let e1 := ([(@AV.agg [(@AV.lit (@Value.string s)), (@qview xs)]), (int i)] = [(@query s xs), (int i)]); let e2 := (@TokRows (L).length (@kcell L)); let e3 := ((L).length + (((K).T i)).length); let e4 := (some (@Blk.mk [(@AV.lit (@Value.string s)), (@qview xs)] 24 none)); let e5 := (@ByteArray.mk (@Array.mk _ [])); let e6 := (@AV.lit (@Value.string e5)); let e7 := (int (0 : Int)); let e8 := ((L).length + 1); let e9 := (@appc (L).length (@kcell L) (@kcell [(@TokV.mk (13 : Int) e5 (0 : Int))])); let e10 := (e8 + (((K).T i)).length); let e11 := (@appc e8 e9 (@kcell ((K).T i))); (.need (@inR i (xs).length) (.fork (eqI ((xs.getD (i).toNat QNodeV.zero)).kind (4 : Int)) (.need (@isSo (@And e1 (@And e2 (@And ((L).length = (L).length) (@And ((K).C i) (e3 ≤ 1000000)))))) (.leaf ((int (@spanI xs i)), (@Mem.mk ((2 + 1) + 1) ((0 + 1) + 1) ((some (@Blk.mk [] 40 (some (@Rw.mk e3 3 (@appc (L).length (@kcell L) (@kcell ((K).T i))))))) :: [e4, none, (some (@Blk.mk [(@AV.own (2 + 1) e3 3)] 48 none))]))))) (.need (@isSo (@And ([(int (13 : Int)), e6, e7] = [(int (13 : Int)), e6, e7]) (@And e2 (@And ((L).length = (L).length) (@And True (e8 ≤ 1000000)))))) (.need (@isSo (@And e1 (@And (@TokRows e8 e9) (@And (e8 = e8) (@And ((K).C i) (e10 ≤ 1000000)))))) (.need (@isSo (@And ([(int (14 : Int)), e6, e7] = [(int (14 : Int)), e6, e7]) (@And (@TokRows e10 e11) (@And (e10 = e10) (@And True ((e10 + 1) ≤ 1000000)))))) (.leaf ((int (@spanI xs i)), (@Mem.mk ((((2 + 1) + 1) + 1) + 1) ((((((0 + 1) + 1) + 1) + 1) + 1) + 1) ((some (@Blk.mk [] 40 (some (@Rw.mk (e10 + 1) 3 (@appc e10 e11 (@kcell [(@TokV.mk (14 : Int) e5 (0 : Int))])))))) :: (none :: (none :: [e4, none, (some (@Blk.mk [(@AV.own (((2 + 1) + 1) + 1) (e10 + 1) 3)] 48 none))])))))))))))) (by kernel_rfl) (by
    unfold limT tmT at hl
    unfold tmT
    refine need_t h.1 (fork_ok (fun c => ?_) (fun c => ?_))
    · have c : (nodeN xs i).kind = 4 := by rw [eqI_t] at c; exact c
      rw [if_pos c] at hl ⊢
      exact need_so ⟨rfl, (by repeat' (first | exact TokRows.kc _ | refine TokRows.app ?_ rfl)), rfl, h.2, (by (try unfold limT); (try simp only [List.length_cons, List.length_nil] at *); omega)⟩ ⟨rfl, _, _, _, rfl, rfl, by decide, CellIs.cast (CellIs.app2 (CellIs.kc _) rfl) rfl⟩
    · have c : ¬ (nodeN xs i).kind = 4 := by rw [eqI_f] at c; exact c
      rw [if_neg c] at hl ⊢
      simp only [List.length_append, List.length_cons, List.length_nil] at hl
      exact need_so ⟨rfl, (by repeat' (first | exact TokRows.kc _ | refine TokRows.app ?_ rfl)), rfl, trivial, (by (try unfold limT); (try simp only [List.length_cons, List.length_nil] at *); omega)⟩ (need_so ⟨rfl, (by repeat' (first | exact TokRows.kc _ | refine TokRows.app ?_ rfl)), rfl, h.2, (by (try unfold limT); (try simp only [List.length_cons, List.length_nil] at *); omega)⟩ (need_so ⟨rfl, (by repeat' (first | exact TokRows.kc _ | refine TokRows.app ?_ rfl)), rfl, trivial, (by (try unfold limT); (try simp only [List.length_cons, List.length_nil] at *); omega)⟩ ⟨rfl, _, _, _, rfl, rfl, by decide, CellIs.cast (CellIs.app2 (CellIs.app2 (CellIs.app2 (CellIs.kc _) rfl) rfl) rfl) (by simp [List.append_assoc])⟩)))
noncomputable abbrev Sy.cTerm (s : ByteArray) (xs : List QNodeV) (K : NdK) (hK : K.Ok s xs) : Con Try.prog := conV 37 (fun r => match r with | [_, .lit (.int .i64 i)] => some i | _ => none) (fun i => [query s xs, int i]) (fun i => int (spanI xs i)) (fun i => tmT xs K.T i) (fun i => inR i xs.length = true ∧ K.C i) fun L i h hl => ⟨⟨⟨qv_free s xs, trivial, trivial⟩, trivial⟩, wtm_t s xs K hK L i h hl⟩
namespace Sy
abbrev ndQ (s : ByteArray) (xs : List QNodeV) : Blk := ⟨[.lit (.string s), qview xs], 24, none⟩
abbrev ndN (q : QNodeV) : Blk := ⟨[int q.kind, int q.count, int q.feat, int q.lo, int q.ln, int q.ld, int q.ho, int q.hn, int q.hd], 45, none⟩
abbrev ndA (s : ByteArray) (xs : List QNodeV) (q : QNodeV) (L : List TokV) : Mem := ⟨4, 0, [some (ndN q), some (ndQ s xs), some (rowB L.length (kcell L)), some (wB 1 L.length)]⟩
abbrev ndM (s : ByteArray) (xs : List QNodeV) (L : List TokV) : Mem := ⟨5, 0, [some (rowB L.length (kcell L)), none, some (ndQ s xs), none, some (wB 4 L.length)]⟩
abbrev ndF (w : ByteArray) (i c k : Int) : Fr := (some ((@AV.ptr 0 0)) :: none :: some (int i) :: none :: some (.ptr 2 0) :: none :: none :: none :: some (.lit (.string w)) :: (nn30 (some (int c) :: some (int k) :: (nn17 []))))
end Sy
def spE (xs : List QNodeV) : Nat → Int → Int
  | 0, i => i
  | m + 1, i => spE xs m (spanI xs i)
def Spans (K : NdK) (xs : List QNodeV) : Nat → Int → Prop
  | 0, _ => True
  | m + 1, i => (inR i xs.length = true ∧ K.C i) ∧ Spans K xs m (spanI xs i)
namespace Sy
theorem ndF_ren (w : ByteArray) {x : Nat} {i i' c k k' : Int} (hi : i = i') (hk : k = k') : RenF (nm [0, 1, 2, 3, x]) (ndF w i c k) (ndF w i' c k') := by
  subst hi hk
  simp only [RenF, and_true]
  exact ⟨⟨rfl, rfl⟩, rfl, ⟨rfl, rfl⟩, rfl, rfl, rfl⟩
theorem ndM_ren {M : Mem} {s : ByteArray} {xs : List QNodeV} {L : List TokV} {x n : Nat} {cell : Nat → Nat → AV} (hd : [0, 1, 2, 3, x].Nodup) (h0 : M.get 0 = some (wB x n)) (h2 : M.get 2 = some (ndQ s xs)) (hx : M.get x = some (rowB n cell)) (hc : CellIs n cell L) : RenM (nm [0, 1, 2, 3, x]) M (ndM s xs L) :=
  .of rfl rfl hd ⟨⟨x, _, rfl, hx, rfl, trivial, hc.1.symm, rfl, fun i j hi hj => hc.free _ (by have hi : i < L.length := hi; have := hc.1; omega) hj⟩, ⟨2, _, rfl, h2, rfl, ⟨rfl, RenV.free _ (viewOf_free _ _ _ _), trivial⟩, trivial⟩, ⟨0, _, rfl, h0, rfl, ⟨⟨rfl, hc.1, rfl⟩, trivial⟩, trivial⟩, trivial⟩
end Sy
theorem Sy.wnd_loop (s : ByteArray) (xs : List QNodeV) (K : NdK) (hK : K.Ok s xs) (w : ByteArray) (c : Int) (hc : c ≤ 100000) : ∀ (r : Nat) (L : List TokV) (i k : Int), 1 ≤ k → k + r = c → Spans K xs r i → limT (L.length + (lpT xs K.T w r i).length) →
    LoopToT 4 Try.prog (theBody Try.prog 18 16) (r + 1) (ndF w i c k) (ndM s xs L) (RG 4 fun ex F M => ex = .exit 1 ∧ F = ndF w (spE xs r i) c c ∧ M = ndM s xs (L ++ lpT xs K.T w r i)) := by
  intro r
  induction r with
  | zero =>
    intro L i k h1 h2 h3 h4
    refine roundT plain mixed 4 [cPutV, cSp, cTerm s xs K hK] [] 400 30 18 16 Try.func18 rfl (by kernel_rfl) (true :: false :: true :: false :: true :: false :: false :: false :: true :: (ff30 (true :: true :: (ff17 [])))) (.br (.br (.yes (.yes (.yes (.yes .done)))) (.yes .done)) .done) (let e1 := (@TokRows (L).length (@kcell L)); let e2 := ((L).length + 1); let e3 := (@AV.lit (@Value.string w)); let e4 := (@appc (L).length (@kcell L) (@kcell [spT])); let e5 := (@TokV.mk (Int.ofNat 1) w (Int.ofNat 0)); let e6 := (e2 + ([e5]).length); let e7 := ([(@AV.agg [(@AV.lit (@Value.string s)), (@qview xs)]), (int i)] = [(@query s xs), (int i)]); let e8 := (@appc e6 (@appc e2 e4 (@kcell [e5])) (@kcell [spT])); let e9 := (@And ((@inR i (xs).length) = true) ((K).C i)); let e10 := ((e6 + 1) + ((@tmT xs (K).T i)).length); let e11 := (some (@AV.ptr 0 0)); let e12 := (some (@AV.ptr 2 0)); let e13 := (some (int (w64 (k + (1 : Int))))); let e14 := (some (@Blk.mk [(@AV.lit (@Value.string s)), (@qview xs)] 24 none)); let e15 := ((L).length + ((@tmT xs (K).T i)).length); (.fork (!(leI c k)) (.fork (!(leI k (0 : Int))) (.need (@isSo (@And (([] : List AV) = []) (@And e1 (@And ((L).length = (L).length) (@And True (e2 ≤ 1000000)))))) (.need (@isSo (@And ([(int (1 : Int)), e3, (int (0 : Int))] = [(int (Int.ofNat 1)), e3, (int (Int.ofNat 0))]) (@And (@TokRows e2 e4) (@And (e2 = e2) (@And True (e6 ≤ 1000000)))))) (.need (@isSo (@And (([] : List AV) = []) (@And (@TokRows e6 (@appc e2 e4 (@kcell [e5]))) (@And (e6 = e6) (@And True ((e6 + 1) ≤ 1000000)))))) (.need (@isSo (@And e7 (@And (@TokRows (e6 + 1) e8) (@And ((e6 + 1) = (e6 + 1)) (@And e9 (e10 ≤ 1000000)))))) (.leaf (Ex.norm, ((e11 :: none :: (some (int (@spanI xs i))) :: none :: e12 :: none :: none :: none :: (some e3) :: (nn30 ((some (int c)) :: e13 :: (nn17 [])))), (@Mem.mk ((((5 + 1) + 1) + 1) + 1) ((((((((0 + 1) + 1) + 1) + 1) + 1) + 1) + 1) + 1) ((some (@Blk.mk [] 40 (some (@Rw.mk e10 3 (@appc (e6 + 1) e8 (@kcell (@tmT xs (K).T i))))))) :: (none :: (none :: (none :: [none, none, e14, none, (some (@Blk.mk [(@AV.own (((5 + 1) + 1) + 1) e10 3)] 48 none))])))))))))))) (.need (@isSo (@And e7 (@And e1 (@And ((L).length = (L).length) (@And e9 (e15 ≤ 1000000)))))) (.leaf (Ex.norm, ((e11 :: none :: (some (int (@spanI xs i))) :: none :: e12 :: none :: none :: none :: (some e3) :: (nn30 ((some (int c)) :: e13 :: (nn17 [])))), (@Mem.mk (5 + 1) ((0 + 1) + 1) ((some (@Blk.mk [] 40 (some (@Rw.mk e15 3 (@appc (L).length (@kcell L) (@kcell (@tmT xs (K).T i))))))) :: [none, none, e14, none, (some (@Blk.mk [(@AV.own 5 e15 3)] 48 none))]))))))) (.leaf ((@Ex.exit 1), ((e11 :: none :: (some (int i)) :: none :: e12 :: none :: none :: none :: (some e3) :: (nn30 ((some (int c)) :: (some (int k)) :: (nn17 [])))), (@Mem.mk 5 0 [(some (@Blk.mk [] 40 (some (@Rw.mk (L).length 3 (@kcell L))))), none, e14, none, (some (@Blk.mk [(@AV.own 4 (L).length 3)] 48 none))])))))) (by kernel_rfl) ?_
    refine fork_ok (fun q => ?_) (fun q => ?_)
    · simp only [Bool.not_eq_true', Bool.not_eq_false', leI_t, leI_f, eqI_t, eqI_f, inR_t, inR_f, isSo_t, isSo_f] at q
      omega
    · have hk : k = c := by omega
      subst hk
      rw [show lpT xs K.T w 0 i = [] from rfl, List.append_nil]
      exact ⟨_, _, [0, 1, 2, 3, 4], rfl, ndF_ren w rfl rfl, ndM_ren (by decide) rfl rfl rfl (CellIs.kc L), rfl, rfl, rfl⟩
  | succ r ih =>
    intro L i k h1 h2 h3 h4
    obtain ⟨h5, h6⟩ := h3
    have e : lpT xs K.T w (r + 1) i = [spT, idT w, spT] ++ (tmT xs K.T i ++ lpT xs K.T w r (spanI xs i)) := rfl
    rw [e] at h4 ⊢
    unfold limT at h4
    simp only [List.length_append, List.length_cons, List.length_nil] at h4
    refine roundT plain mixed 4 [cPutV, cSp, cTerm s xs K hK] [] 400 30 18 16 Try.func18 rfl (by kernel_rfl) (true :: false :: true :: false :: true :: false :: false :: false :: true :: (ff30 (true :: true :: (ff17 [])))) (.br (.br (.yes (.yes (.yes (.yes .done)))) (.yes .done)) .done) (let e1 := (@TokRows (L).length (@kcell L)); let e2 := ((L).length + 1); let e3 := (@AV.lit (@Value.string w)); let e4 := (@appc (L).length (@kcell L) (@kcell [spT])); let e5 := (@TokV.mk (Int.ofNat 1) w (Int.ofNat 0)); let e6 := (e2 + ([e5]).length); let e7 := ([(@AV.agg [(@AV.lit (@Value.string s)), (@qview xs)]), (int i)] = [(@query s xs), (int i)]); let e8 := (@appc e6 (@appc e2 e4 (@kcell [e5])) (@kcell [spT])); let e9 := (@And ((@inR i (xs).length) = true) ((K).C i)); let e10 := ((e6 + 1) + ((@tmT xs (K).T i)).length); let e11 := (some (@AV.ptr 0 0)); let e12 := (some (@AV.ptr 2 0)); let e13 := (some (int (w64 (k + (1 : Int))))); let e14 := (some (@Blk.mk [(@AV.lit (@Value.string s)), (@qview xs)] 24 none)); let e15 := ((L).length + ((@tmT xs (K).T i)).length); (.fork (!(leI c k)) (.fork (!(leI k (0 : Int))) (.need (@isSo (@And (([] : List AV) = []) (@And e1 (@And ((L).length = (L).length) (@And True (e2 ≤ 1000000)))))) (.need (@isSo (@And ([(int (1 : Int)), e3, (int (0 : Int))] = [(int (Int.ofNat 1)), e3, (int (Int.ofNat 0))]) (@And (@TokRows e2 e4) (@And (e2 = e2) (@And True (e6 ≤ 1000000)))))) (.need (@isSo (@And (([] : List AV) = []) (@And (@TokRows e6 (@appc e2 e4 (@kcell [e5]))) (@And (e6 = e6) (@And True ((e6 + 1) ≤ 1000000)))))) (.need (@isSo (@And e7 (@And (@TokRows (e6 + 1) e8) (@And ((e6 + 1) = (e6 + 1)) (@And e9 (e10 ≤ 1000000)))))) (.leaf (Ex.norm, ((e11 :: none :: (some (int (@spanI xs i))) :: none :: e12 :: none :: none :: none :: (some e3) :: (nn30 ((some (int c)) :: e13 :: (nn17 [])))), (@Mem.mk ((((5 + 1) + 1) + 1) + 1) ((((((((0 + 1) + 1) + 1) + 1) + 1) + 1) + 1) + 1) ((some (@Blk.mk [] 40 (some (@Rw.mk e10 3 (@appc (e6 + 1) e8 (@kcell (@tmT xs (K).T i))))))) :: (none :: (none :: (none :: [none, none, e14, none, (some (@Blk.mk [(@AV.own (((5 + 1) + 1) + 1) e10 3)] 48 none))])))))))))))) (.need (@isSo (@And e7 (@And e1 (@And ((L).length = (L).length) (@And e9 (e15 ≤ 1000000)))))) (.leaf (Ex.norm, ((e11 :: none :: (some (int (@spanI xs i))) :: none :: e12 :: none :: none :: none :: (some e3) :: (nn30 ((some (int c)) :: e13 :: (nn17 [])))), (@Mem.mk (5 + 1) ((0 + 1) + 1) ((some (@Blk.mk [] 40 (some (@Rw.mk e15 3 (@appc (L).length (@kcell L) (@kcell (@tmT xs (K).T i))))))) :: [none, none, e14, none, (some (@Blk.mk [(@AV.own 5 e15 3)] 48 none))]))))))) (.leaf ((@Ex.exit 1), ((e11 :: none :: (some (int i)) :: none :: e12 :: none :: none :: none :: (some e3) :: (nn30 ((some (int c)) :: (some (int k)) :: (nn17 [])))), (@Mem.mk 5 0 [(some (@Blk.mk [] 40 (some (@Rw.mk (L).length 3 (@kcell L))))), none, e14, none, (some (@Blk.mk [(@AV.own 4 (L).length 3)] 48 none))])))))) (by kernel_rfl) ?_
    refine fork_ok (fun q => fork_ok (fun q2 => ?_) (fun q2 => ?_)) (fun q => ?_)
    · refine need_so ⟨rfl, (by repeat' (first | exact TokRows.kc _ | refine TokRows.app ?_ rfl)), rfl, trivial, (by (try unfold limT); (try simp only [List.length_cons, List.length_nil] at *); omega)⟩ (need_so ⟨rfl, (by repeat' (first | exact TokRows.kc _ | refine TokRows.app ?_ rfl)), rfl, trivial, (by (try unfold limT); (try simp only [List.length_cons, List.length_nil] at *); omega)⟩ (need_so ⟨rfl, (by repeat' (first | exact TokRows.kc _ | refine TokRows.app ?_ rfl)), rfl, trivial, (by (try unfold limT); (try simp only [List.length_cons, List.length_nil] at *); omega)⟩ (need_so ⟨rfl, (by repeat' (first | exact TokRows.kc _ | refine TokRows.app ?_ rfl)), rfl, h5, (by (try unfold limT); (try simp only [List.length_cons, List.length_nil] at *); omega)⟩ ?_)))
      have hi := ih (L ++ ([spT, idT w, spT] ++ tmT xs K.T i)) (spanI xs i) (k + 1) (by omega) (by omega) h6 (by unfold limT; simp only [List.length_append, List.length_cons, List.length_nil]; omega)
      have e2 : L ++ ([spT, idT w, spT] ++ tmT xs K.T i) ++ lpT xs K.T w r (spanI xs i) = L ++ ([spT, idT w, spT] ++ (tmT xs K.T i ++ lpT xs K.T w r (spanI xs i))) := by simp [List.append_assoc]
      rw [e2] at hi
      refine LoopToT.ren [0, 1, 2, 3, 8] rfl (ndF_ren w rfl (w64_in (by omega))) (ndM_ren (by decide) rfl rfl rfl (CellIs.cast (CellIs.app2 (CellIs.app2 (CellIs.app2 (CellIs.app2 (CellIs.kc _) rfl) rfl) rfl) rfl) (by simp [List.append_assoc]))) hi
    · simp only [Bool.not_eq_true', Bool.not_eq_false', leI_t, leI_f, eqI_t, eqI_f, inR_t, inR_f, isSo_t, isSo_f] at q2
      omega
    · simp only [Bool.not_eq_true', Bool.not_eq_false', leI_t, leI_f, eqI_t, eqI_f, inR_t, inR_f, isSo_t, isSo_f] at q
      omega
theorem Sy.wnd_first (s : ByteArray) (xs : List QNodeV) (K : NdK) (hK : K.Ok s xs) (w : ByteArray) (q : QNodeV) (L : List TokV) (i : Int) (r : Nat) (hr : r + 1 ≤ 100000) (h3 : Spans K xs (r + 1) i) (h4 : limT (L.length + (tmT xs K.T i ++ lpT xs K.T w r (spanI xs i)).length)) :
    LoopToT 4 Try.prog (theBody Try.prog 18 16) (r + 2) (ndF w i ((r + 1 : Nat) : Int) 0) (ndA s xs q L) (RG 4 fun ex F M => ex = .exit 1 ∧ F = ndF w (spE xs (r + 1) i) ((r + 1 : Nat) : Int) ((r + 1 : Nat) : Int) ∧ M = ndM s xs (L ++ (tmT xs K.T i ++ lpT xs K.T w r (spanI xs i)))) := by
  obtain ⟨h5, h6⟩ := h3
  unfold limT at h4
  simp only [List.length_append] at h4
  refine roundT plain mixed 4 [cPutV, cSp, cTerm s xs K hK] [] 400 30 18 16 Try.func18 rfl (by kernel_rfl) (true :: false :: true :: false :: true :: false :: false :: false :: true :: (ff30 (true :: true :: (ff17 [])))) (.br (.auto 0 (.yes .done)) .done) (let c : Int := ((r + 1 : Nat) : Int); (let e1 := ((L).length + ((@tmT xs (K).T i)).length); let e2 := (some (@AV.lit (@Value.string w))); let e3 := (some (@Blk.mk [(int (q).kind), (int (q).count), (int (q).feat), (int (q).lo), (int (q).ln), (int (q).ld), (int (q).ho), (int (q).hn), (int (q).hd)] 45 none)); let e4 := (some (@Blk.mk [(@AV.lit (@Value.string s)), (@qview xs)] 24 none)); (.fork (!(leI c (0 : Int))) (.need (@isSo (@And ([(@AV.agg [(@AV.lit (@Value.string s)), (@qview xs)]), (int i)] = [(@query s xs), (int i)]) (@And (@TokRows (L).length (@kcell L)) (@And ((L).length = (L).length) (@And (@And ((@inR i (xs).length) = true) ((K).C i)) (e1 ≤ 1000000)))))) (.leaf (Ex.norm, (((some (@AV.ptr 0 0)) :: none :: (some (int (@spanI xs i))) :: none :: (some (@AV.ptr 2 0)) :: none :: none :: none :: e2 :: (nn30 ((some (int c)) :: (some (int (1 : Int))) :: (nn17 [])))), (@Mem.mk (4 + 1) ((0 + 1) + 1) ((some (@Blk.mk [] 40 (some (@Rw.mk e1 3 (@appc (L).length (@kcell L) (@kcell (@tmT xs (K).T i))))))) :: [e3, e4, none, (some (@Blk.mk [(@AV.own 4 e1 3)] 48 none))])))))) (.leaf ((@Ex.exit 1), (((some (@AV.ptr 0 0)) :: none :: (some (int i)) :: none :: (some (@AV.ptr 2 0)) :: none :: none :: none :: e2 :: (nn30 ((some (int c)) :: (some (int (0 : Int))) :: (nn17 [])))), (@Mem.mk 4 0 [e3, e4, (some (@Blk.mk [] 40 (some (@Rw.mk (L).length 3 (@kcell L))))), (some (@Blk.mk [(@AV.own 1 (L).length 3)] 48 none))]))))))) (by kernel_rfl) ?_
  refine fork_ok (fun q1 => ?_) (fun q1 => ?_)
  · refine need_so ⟨rfl, (by repeat' (first | exact TokRows.kc _ | refine TokRows.app ?_ rfl)), rfl, h5, (by (try unfold limT); omega)⟩ ?_
    have hi := Sy.wnd_loop s xs K hK w ((r + 1 : Nat) : Int) (by omega) r (L ++ tmT xs K.T i) (spanI xs i) 1 (Int.le_refl 1) (by omega) h6 (by unfold limT; simp only [List.length_append]; omega)
    rw [List.append_assoc] at hi
    exact LoopToT.ren [0, 1, 2, 3, 4] rfl (ndF_ren w rfl rfl) (ndM_ren (by decide) rfl rfl rfl (CellIs.cast (CellIs.app2 (CellIs.kc _) rfl) rfl)) hi
  · simp only [Bool.not_eq_true', Bool.not_eq_false', leI_t, leI_f, eqI_t, eqI_f, inR_t, inR_f, isSo_t, isSo_f] at q1
    omega
end Go.Proofs.Ytlmanlpgknhfpaa
namespace Go.Proofs.Ytlmanlpgknhfpaa
open Go Go.RowKit Pl Sy
theorem Sy.Mem.put_same {M : Mem} {b : Nat} {B : Blk} (h : M.get b = some B) : M.put b (some B) = ⟨M.top, M.stamp + 1, M.bs⟩ := by
  have hlt := Mem.get_lt h
  rw [Mem.put_def]
  rw [Mem.get_def, if_pos hlt] at h
  congr 1
  have h2 : M.bs[M.top - 1 - b]? = some (some B) := by
    cases hx : M.bs[M.top - 1 - b]? with
    | none => rw [hx] at h; cases h
    | some x =>
      rw [hx] at h
      cases x with
      | none => cases h
      | some y => simp only [Option.some.injEq] at h; rw [h]
  obtain ⟨h3, h4⟩ := List.getElem?_eq_some_iff.1 h2
  rw [← h4]
  exact List.set_getElem_self h3
namespace Sy
noncomputable abbrev cKindS (T : List TokV) : Con Try.prog where
  f := 24
  run := fun args M => match rdGet args M with
    | some x => match x.rest with
      | [] => some (int (kindI T x.a), M)
      | _ => none
    | none => none
  ob := fun args M => match rdGet args M with
    | some x => match x.rest with
      | [] => some (isSo (M.get x.rb = some (rdB T x.a) ∧ InT T x.a))
      | _ => none
    | none => none
  ok := fun args M v M' hr hob => by
    cases hg : rdGet args M with
    | none => rw [hg] at hr; cases hr
    | some x =>
      rw [hg] at hr hob
      cases hy : x.rest with
      | cons y ys => simp only [hy] at hr; cases hr
      | nil =>
        simp only [hy] at hr hob
        simp at hr
        obtain ⟨rfl, rfl⟩ := hr
        have h1 := hob _ rfl
        rw [isSo_t] at h1
        obtain ⟨hb, hC⟩ := h1
        have e : args = .ptr x.rb 0 :: [] := by
          rw [← hy]
          unfold rdGet at hg
          split at hg
          · split at hg
            · simp at hg; subst hg; rfl
            · cases hg
          · cases hg
        refine ⟨Grow.refl _, ?_⟩
        rw [e]
        have key := CallTo.frame1 (P := Try.prog) (M := M) (b := x.rb) (B0 := rdB T x.a) (B := rdB T x.a) (B' := rdB T x.a) (args := [.ptr x.rb 0]) (args1 := [.ptr 0 0]) (v0 := int (kindI T x.a)) ((kind_t T x.a hC).mono fun v M' ⟨q1, q2⟩ => by
          subst q1 q2
          exact ⟨Frz.lit _ _ _ _, _, rfl, rfl, Frz.free _ _ (kv_free T), Frz.lit _ _ _ _, trivial⟩) ⟨⟨rfl, rfl⟩, trivial⟩ hb ⟨rfl, ⟨RenV.free _ (kv_free T), rfl, trivial⟩, trivial⟩ rfl rfl rfl ⟨kv_free T, trivial, trivial⟩ trivial
        rw [Mem.put_same hb] at key
        refine fun w0 ρ us w q1 q2 => (key w0 ρ us w q1 q2).mono ?_
        rintro ex w2 ⟨ρ', u, v, M2, r1, r2, r3, r4, rfl, rfl⟩
        exact ⟨ρ', u, _, M, r1, r2, r3, r4.restamp M.stamp, rfl, rfl⟩
end Sy
def idP (T : List TokV) (k : Nat) : Nat := Sy.hops (fun j => eqI (tokAt T j).kind 1) (fun j => j + 1) T.length k
def idI (T : List TokV) (a : Int) : Int := (idP T a.toNat : Nat)
theorem idP_le (T : List TokV) (k : Nat) (h : k ≤ T.length) : k ≤ idP T k ∧ idP T k ≤ T.length := Sy.hops_le (fun k _ => Nat.lt_succ_self k) (fun k h => h) _ k (Nat.le_refl _) h
theorem kindI_at (T : List TokV) (κ : Nat) (h : κ < T.length) : kindI T (κ : Int) = (tokAt T κ).kind := by
  unfold kindI
  rw [if_neg (by rw [leI_t]; omega)]
  rfl
theorem Sy.bck_scan (T : List TokV) (hl : lim T) (a : Int) (k0 : Nat) (h1 : k0 ≤ T.length) : LoopTo Try.prog (theBody Try.prog 88 3) (T.length - k0 + 1) bcF (bcM T a k0) fun ex F' M' => ex = .exit 0 ∧ F' = bcF ∧ M' = bcM T a (idP T k0 : Nat) := by
  have key := hopL (P := Try.prog) (body := theBody Try.prog 88 3) T.length (fun j => eqI (tokAt T j).kind 1) (fun j => j + 1) (fun k _ => Nat.lt_succ_self k) (fun k h => h) (fun k => bcF) (fun k => bcF) (fun k => bcM T a (k : Nat)) (.exit 0) (fun κ n G h0 c1 c2 c3 => by
    generalize hκ : (κ : Int) = b at *
    refine roundL [cKindS T] [] 400 30 88 3 Try.func88 rfl (by kernel_rfl) (true :: false :: true :: false :: true :: (ff11 (ff48 (ff48 [])))) (.br (.yes (.auto 1 (.br .done .done))) (.auto 2 .done)) (let e1 := (@AV.view (T).length 3 (fun y0 => (fun y1 => (@AV.lit ([(@Value.int IntKind.i64 ((T.getD y0 tok0)).kind), (@Value.string ((T.getD y0 tok0)).text), (@Value.int IntKind.i64 ((T.getD y0 tok0)).n)].getD y1 (@Value.tuple (@Array.mk _ []))))))); let e2 := (some (@Blk.mk [e1, (int b)] 55 none)); let e3 := (some (@Blk.mk [e1, (int a)] 55 none)); (.fork (!(leI (((T).length : Nat) : Int) b)) (.need (@isSo (@And (e2 = e2) (@InT T b))) (.fork (!(eqI (@kindI T b) (1 : Int))) (.leaf (Ex.norm, (((some (@AV.ptr 0 0)) :: none :: (some (@AV.ptr 1 0)) :: none :: (some (@AV.ptr 2 0)) :: (nn11 (nn48 (nn48 [])))), (@Mem.mk 3 (0 + 1) [(some (@Blk.mk (e1 :: [(int (w64 (b + (1 : Int))))]) 55 none)), (some qzB), e3])))) (.leaf ((@Ex.exit 0), (((some (@AV.ptr 0 0)) :: none :: (some (@AV.ptr 1 0)) :: none :: (some (@AV.ptr 2 0)) :: (nn11 (nn48 (nn48 [])))), (@Mem.mk 3 0 [e2, (some qzB), e3])))))) (.leaf ((@Ex.exit 0), (((some (@AV.ptr 0 0)) :: none :: (some (@AV.ptr 1 0)) :: none :: (some (@AV.ptr 2 0)) :: (nn11 (nn48 (nn48 [])))), (@Mem.mk 3 0 [e2, (some qzB), e3])))))) (by kernel_rfl) ?_
    have hl' : T.length ≤ 17592186044416 := hl
    refine fork_ok (fun h => ?_) (fun h => ?_)
    · simp only [Bool.not_eq_true', Bool.not_eq_false', leI_t, leI_f, eqI_t, eqI_f, inR_t, inR_f, isSo_t, isSo_f] at h
      have hk : κ < T.length := by omega
      have hκ' : eqI (tokAt T κ).kind 1 = eqI (kindI T b) 1 := by rw [← hκ, kindI_at T κ hk]
      refine need_so ⟨rfl, ⟨by omega, by omega⟩, hl⟩ (fork_ok (fun h2 => ?_) (fun h2 => c2 hk (by rw [hκ']; simpa using h2)))
      have := c1 hk (by rw [hκ']; simpa using h2)
      rw [show ((κ + 1 : Nat) : Int) = b + 1 by omega] at this
      rw [w64_in (r := b + 1) (by omega)]
      exact Sy.LoopTo.stampA 0 this
    · simp only [Bool.not_eq_true', Bool.not_eq_false', leI_t, leI_f, eqI_t, eqI_f, inR_t, inR_f, isSo_t, isSo_f] at h
      have hk : κ = T.length := by omega
      have := c3 hk
      rw [← hk, hκ] at this
      exact this) k0 h1
  refine key.mono fun ex F M hg => ?_
  obtain ⟨rfl, hg⟩ := hg
  rcases hg with ⟨q1, rfl, rfl⟩ | ⟨q1, rfl, rfl⟩
  · exact ⟨rfl, rfl, rfl⟩
  · exact ⟨rfl, rfl, rfl⟩
namespace Sy
noncomputable abbrev lpBck (T : List TokV) (a : Int) : Lp Try.prog where
  f := 88
  key := 3
  S := formS (fun F M => some M.stamp) (fun _ => bcF) (fun s => ⟨3, s, [some (rdB T a), some qzB, some (rdB T a)]⟩) (fun _ => lim T ∧ 0 ≤ a ∧ a ≤ T.length) (fun _ => .leaf (.exit 0, bcF, bcM T a (idI T a))) (true :: false :: true :: false :: true :: (ff11 (ff48 (ff48 []))))
  one := by kernel_rfl
  ok := formS_ok fun s ⟨h1, h2, h3⟩ => by
    obtain ⟨k0, rfl⟩ := Int.eq_ofNat_of_zero_le h2
    refine ⟨_, Sy.LoopTo.stampA 0 ((Sy.bck_scan T h1 k0 k0 (by omega)).mono fun ex F M hg => ?_)⟩
    obtain ⟨rfl, rfl, rfl⟩ := hg
    rfl
end Sy
def bkF (T : List TokV) (a : Int) : Int := calI (T.getD (idI T a).toNat tok0).text
def bk1 (T : List TokV) (a : Int) : Int := bnA T a (bkF T a)
def bk2 (T : List TokV) (a : Int) : Int := opA T (bk1 T a)
def bk3 (T : List TokV) (a : Int) : Int := wordA T (bk2 T a) (featS (bkF T a))
def bk5 (T : List TokV) (a : Int) : Int := opA T (skI T (bk3 T a))
def bk6 (T : List TokV) (a : Int) : Int := bnA T (bk5 T a) (bkF T a)
def bkG {α : Type} (T : List TokV) (a : Int) (none_ bad badv badw one two : α) : α :=
  if eqI (idI T a) T.length then none_ else if eqI (bkF T a) 0 then bad else if eqI (bkF T a) 6 then bad else if bnB T a (bkF T a) then (if eqI (opI T (bk1 T a)) 0 then badv else if wordB T (bk2 T a) (featS (bkF T a)) then (if doneB T (bk3 T a) then one else two) else badw) else badv
def bkQ0 (T : List TokV) (a : Int) : QNodeV := ⟨4, 0, bkF T a, 0, 0, 0, 0, 0, 0⟩
def bkQ1 (T : List TokV) (a : Int) : QNodeV := ⟨4, 0, bkF T a, 0, 0, 0, 6 - opI T (bk1 T a), bnN T a (bkF T a), bnD T a (bkF T a)⟩
def bkQ2 (T : List TokV) (a : Int) : QNodeV := ⟨4, 0, bkF T a, opI T (bk1 T a), bnN T a (bkF T a), bnD T a (bkF T a), opI T (skI T (bk3 T a)), bnN T (bk5 T a) (bkF T a), bnD T (bk5 T a) (bkF T a)⟩
def qfits (q : QNodeV) : Bool := fitsV q.feat q.lo q.ln q.ld q.ho q.hn q.hd
def bkV (T : List TokV) (a : Int) : QNodeV := bkG T a QNodeV.zero (bkQ0 T a) (bkQ0 T a) (bkQ0 T a) (bkQ1 T a) (bkQ2 T a)
def bkB (T : List TokV) (a : Int) : Bool := bkG T a false false false false true (bnB T (bk5 T a) (bkF T a) && (doneB T (bk6 T a) && qfits (bkQ2 T a)))
def bkA (T : List TokV) (a : Int) : Int := bkG T a a a (bk2 T a) (bk3 T a) (skI T (bk3 T a)) (if bnB T (bk5 T a) (bkF T a) then skI T (bk6 T a) else bk6 T a)
theorem opI_in (T : List TokV) (a : Int) : 0 ≤ opI T a ∧ opI T a ≤ 5 := by
  unfold opI
  repeat' split
  all_goals omega
theorem Sy.bck_t (T : List TokV) (a : Int) (h : InT T a) (hs : TxtOk T) : CallTo Try.prog 88 [.ptr 0 0] (rdM T a) fun v M' => v = feG (bkV T a) (bkB T a) ∧ M'.get 0 = some (rdB T (bkA T a)) :=
  to (G := fun r => r.1 = feG (bkV T a) (bkB T a) ∧ r.2.get 0 = some (rdB T (bkA T a))) [cSpc T, cKind T, cBnd T, cDone T, cOp T, cWord T, cCal, cFea, cFits] [lpBck T a] 400 30 (.br .done (.yes (.yes (.br (.auto 1 (.br .done (.yes (.yes (.br (.auto 2 (.br (.auto 2 (.yes (.auto 1 (.br .done (.yes (.br .done (.yes (.yes (.br (.auto 0 (.yes (.auto 0 (.br (.auto 3 (.yes (.yes (.yes (.yes (.yes (.yes (.yes (.auto 1 (.yes (.yes (.yes (.yes (.yes (.yes (.yes .done)))))))))))))))) (.auto 3 (.yes (.yes (.yes (.yes (.yes (.yes (.yes (.auto 1 (.yes (.yes (.yes (.yes (.yes (.yes (.yes .done)))))))))))))))))))) (.auto 4 .done)))))))))) (.auto 5 .done))) (.auto 9 .done)))))) (.auto 2 .done))))) (let e1 := (@AV.view (T).length 3 (fun y0 => (fun y1 => (@AV.lit ([(@Value.int IntKind.i64 ((T.getD y0 tok0)).kind), (@Value.string ((T.getD y0 tok0)).text), (@Value.int IntKind.i64 ((T.getD y0 tok0)).n)].getD y1 (@Value.tuple (@Array.mk _ []))))))); let e2 := (int (0 : Int)); let e3 := (some (@Blk.mk [e2, e2, e2, e2, e2, e2, e2, e2, e2] 45 none)); let e4 := (some (@Blk.mk [e1, (int a)] 55 none)); let e5 := (some (@Blk.mk [e1, (int (@idI T a))] 55 none)); let e6 := (@calI ((T.getD ((@idI T a)).toNat tok0)).text); let e7 := (int (4 : Int)); let e8 := (int e6); let e9 := (e7 :: e2 :: (e8 :: [e2, e2, e2, e2, e2, e2])); let e10 := (@AV.tup [(@AV.agg (@List.take _ 9 e9)), (boo false)]); let e11 := (@Value.int IntKind.i64 (0 : Int)); let e12 := (e7 :: e2 :: (e8 :: (e2 :: e2 :: e2 :: e2 :: e2 :: e2 :: (@List.drop _ (0 + ((e7 :: e2 :: (e8 :: (@List.drop _ (2 + ([e8]).length) (e7 :: (@List.drop _ 1 (@List.map _ _ AV.lit (@Array.toList _ (@Array.mk _ [e11, e11, e11, e11, e11, e11, e11, e11, e11]))))))))).length) [e2, e2, e2, e2, e2, e2, e2, e2, e2])))); let e13 := (some (@Blk.mk e12 45 none)); let e14 := (some (@Blk.mk e9 45 none)); let e15 := (int (Int.ofNat 0)); let e16 := (@bnA T a e6); let e17 := (some (@Blk.mk [e1, (int e16)] 55 none)); let e18 := (([] : List AV) = []); let e19 := (@opI T e16); let e20 := (some (@Blk.mk [e1, (int (@opA T e16))] 55 none)); let e21 := (@AV.lit (@Value.string (@featS e6))); let e22 := ((3 + 1) + 1); let e23 := ((((((0 + 1) + 1) + 1) + 1) + 1) + 1); let e24 := (int e19); let e25 := (@bnN T a e6); let e26 := (int e25); let e27 := (@bnD T a e6); let e28 := (int e27); let e29 := (e24 :: (@List.drop _ (0 + ([e24]).length) (e15 :: e26 :: e28 :: (@List.drop _ (0 + ([e15, e26, e28]).length) [e2, e2, e2])))); let e30 := (some (@Blk.mk e29 43 none)); let e31 := (@wordA T (@opA T e16) (@featS e6)); let e32 := (some (@Blk.mk [e1, (int e31)] 55 none)); let e33 := (int (w64 ((6 : Int) - e19))); let e34 := (e7 :: e2 :: (e8 :: (e2 :: e2 :: e2 :: (e33 :: [e26, e28])))); let e35 := (some (@Blk.mk [e1, (int (@skI T e31))] 55 none)); let e36 := (@opA T (@skI T e31)); let e37 := (some (@Blk.mk [e1, (int e36)] 55 none)); let e38 := (@opI T (@skI T e31)); let e39 := (@bnA T e36 e6); let e40 := (some (@Blk.mk [e1, (int e39)] 55 none)); let e41 := (eqI e19 e19); let e42 := (eqI e25 e25); let e43 := (eqI e27 e27); let e44 := (eqI e38 e38); let e45 := (@bnN T e36 e6); let e46 := (eqI e45 e45); let e47 := (@bnD T e36 e6); let e48 := (eqI e47 e47); let e49 := (e7 :: e2 :: (e8 :: (e24 :: [e26, e28, (int e38), (int e45), (int e47)]))); let e50 := (@AV.agg (@List.take _ 9 e49)); let e51 := ((((((e23 + 1) + 1) + 1) + 1) + 1) + 1); let e52 := (some (@Blk.mk (e7 :: e2 :: (e8 :: (e24 :: (e26 :: e28 :: (int e38) :: (int e45) :: (int e47) :: (@List.drop _ (6 + ([(int e38), (int e45), (int e47)]).length) (e7 :: e2 :: (e8 :: (e24 :: (e26 :: e28 :: (@List.drop _ (3 + ((e24 :: [e26, e28])).length) e12)))))))))) 45 none)); let e53 := (@Mem.mk e22 (e51 + 1) (e30 :: [e52, e5, (some (@Blk.mk e49 45 none)), (some (@Blk.mk [e1, (int (@skI T e39))] 55 none))])); (.need (@isSo (@And (((some (@AV.ptr 0 0)) :: none :: (some (@AV.ptr 1 0)) :: none :: (some (@AV.ptr (1 + 1) 0)) :: (nn11 (nn48 (nn48 [])))) = bcF) ((@Mem.mk ((1 + 1) + 1) (0 + 1) [(some (@Blk.mk (e1 :: (int a) :: (@List.drop _ (0 + ([e1, (int a)]).length) [(@AV.lit (@Value.slice none 0 0)), e2])) 55 none)), e3, e4]) = (@Mem.mk 3 (0 + 1) [e4, (some qzB), e4])))) (.need (@isSo (@And (@lim T) (@And ((0 : Int) ≤ a) (a ≤ (((T).length : Nat) : Int))))) (.fork (eqI (@idI T a) (((T).length : Nat) : Int)) (.leaf ((@AV.tup [(@AV.agg (@List.take _ 9 [e2, e2, e2, e2, e2, e2, e2, e2, e2])), (boo false)]), (@Mem.mk 3 (0 + 1) [e5, e3, e4]))) (.need (@inR (@idI T a) (T).length) (.need (@isSo True) (.fork (!(eqI e6 (0 : Int))) (.fork (eqI e6 (6 : Int)) (.leaf (e10, (@Mem.mk (3 + 1) ((0 + 1) + 1) [e13, e5, e14, e4]))) (.need (@isSo (@And (e4 = e4) (@And ([e8, e2] = [e8, e15]) (@InT T a)))) (.need (@isSo (@And (e17 = e17) (@And e18 (@InT T e16)))) (.fork (!(!(@bnB T a e6))) (.fork (!(eqI e19 (0 : Int))) (.need (@isSo (@And (e20 = e20) (@And ([e21] = [e21]) (@InT T (@opA T e16))))) (.fork (!(@wordB T (@opA T e16) (@featS e6))) (.leaf (e10, (@Mem.mk e22 (e23 + 1) (e30 :: [e13, e5, e14, e32])))) (.need (@isSo (@And (e32 = e32) (@And e18 (@InT T e31)))) (.fork (@doneB T e31) (.leaf ((@AV.tup [(@AV.agg (@List.take _ 9 e34)), (boo true)]), (@Mem.mk e22 ((((e23 + 1) + 1) + 1) + 1) ((some (@Blk.mk (e33 :: (@List.drop _ (0 + ([e33]).length) e29)) 43 none)) :: [(some (@Blk.mk (e7 :: e2 :: (e8 :: (e2 :: e2 :: e2 :: (e33 :: (e26 :: e28 :: (@List.drop _ (6 + ((e33 :: [e26, e28])).length) e12)))))) 45 none)), e5, (some (@Blk.mk e34 45 none)), e35])))) (.need (@isSo (@And (e35 = e35) (@And e18 (@InT T (@skI T e31))))) (.need (@isSo (@And (e37 = e37) (@And ([e8, (int e38)] = [e8, (int e38)]) (@InT T e36)))) (.fork (@bnB T e36 e6) (.need (@isSo (@And (e40 = e40) (@And e18 (@InT T e39)))) (.fork (@doneB T e39) (.need (eqI e6 e6) (.need e41 (.need e42 (.need e43 (.need e44 (.need e46 (.need e48 (.need (eqI e6 e6) (.need e41 (.need e42 (.need e43 (.need e44 (.need e46 (.need e48 (.leaf ((@AV.tup [e50, (boo (@fitsV e6 e19 e25 e27 e38 e45 e47))]), e53)))))))))))))))) (.need (eqI e6 e6) (.need e41 (.need e42 (.need e43 (.need e44 (.need e46 (.need e48 (.need (eqI e6 e6) (.need e41 (.need e42 (.need e43 (.need e44 (.need e46 (.need e48 (.leaf ((@AV.tup [e50, (boo false)]), e53)))))))))))))))))) (.leaf ((@AV.tup [e50, (boo false)]), (@Mem.mk e22 e51 (e30 :: [e52, e5, (some (@Blk.mk e49 45 none)), e40]))))))))))) (.leaf (e10, (@Mem.mk e22 e23 (e30 :: [e13, e5, e14, e20]))))) (.leaf (e10, (@Mem.mk e22 e23 (e30 :: [e13, e5, e14, e20])))))))) (.leaf (e10, (@Mem.mk (3 + 1) ((0 + 1) + 1) [e13, e5, e14, e4])))))))))) (by kernel_rfl) (by
    have hi := idP_le T a.toNat (by have := h.1; omega)
    refine need_so ⟨rfl, rfl⟩ (need_so ⟨h.2, h.1.1, h.1.2⟩ (fork_ok (fun c1 => ?_) (fun c1 => ?_)))
    · have c1 : eqI (idI T a) T.length = true := c1
      simp only [bkV, bkB, bkA, bkG, *, if_true, Bool.false_eq_true, if_false, Bool.true_and, Bool.false_and]
      exact ⟨rfl, rfl⟩
    · have hr : inR (idI T a) T.length = true := by
        rw [inR_t]
        rw [eqI_f] at c1
        unfold idI at c1 ⊢
        omega
      have c1 : eqI (idI T a) T.length = false := c1
      refine need_t hr (need_so trivial (fork_ok (fun c2 => fork_ok (fun c3 => ?_) (fun c3 => ?_)) (fun c2 => ?_)))
      · have c2 : eqI (bkF T a) 0 = false := n_t c2
        have c3 : eqI (bkF T a) 6 = true := c3
        simp only [bkV, bkB, bkA, bkG, *, if_true, Bool.false_eq_true, if_false, Bool.true_and, Bool.false_and]
        exact ⟨rfl, rfl⟩
      · have c2 : eqI (bkF T a) 0 = false := n_t c2
        have c3 : eqI (bkF T a) 6 = false := c3
        have h1 : InT T (bk1 T a) := bnA_in h
        have h2 : InT T (bk2 T a) := opA_in h1
        have h3 : InT T (bk3 T a) := wordA_in h2
        have h5 : InT T (bk5 T a) := opA_in (skI_in h3)
        have h6 : InT T (bk6 T a) := bnA_in h5
        refine need_so ⟨rfl, rfl, h⟩ (need_so ⟨rfl, rfl, h1⟩ (fork_ok (fun c4 => ?_) (fun c4 => ?_)))
        · have c4 : bnB T a (bkF T a) = true := n_f (n_t c4)
          refine fork_ok (fun c5 => ?_) (fun c5 => ?_)
          · have c5 : eqI (opI T (bk1 T a)) 0 = false := n_t c5
            refine need_so ⟨rfl, rfl, h2⟩ (fork_ok (fun c6 => ?_) (fun c6 => ?_))
            · have c6 : wordB T (bk2 T a) (featS (bkF T a)) = false := n_t c6
              simp only [bkV, bkB, bkA, bkG, *, if_true, Bool.false_eq_true, if_false, Bool.true_and, Bool.false_and]
              exact ⟨rfl, rfl⟩
            · have c6 : wordB T (bk2 T a) (featS (bkF T a)) = true := n_f c6
              refine need_so ⟨rfl, rfl, h3⟩ (fork_ok (fun c7 => ?_) (fun c7 => ?_))
              · have c7 : doneB T (bk3 T a) = true := c7
                have hw : w64 (6 - opI T (bk1 T a)) = 6 - opI T (bk1 T a) := w64_in (by have := opI_in T (bk1 T a); omega)
                have hw' : w64 (6 - opI T (bnA T a (calI (T.getD (idI T a).toNat tok0).text))) = 6 - opI T (bk1 T a) := hw
                rw [hw']
                simp only [bkV, bkB, bkA, bkG, *, if_true, Bool.false_eq_true, if_false, Bool.true_and, Bool.false_and]
                exact ⟨rfl, rfl⟩
              · have c7 : doneB T (bk3 T a) = false := c7
                refine need_so ⟨rfl, rfl, skI_in h3⟩ (need_so ⟨rfl, rfl, h5⟩ (fork_ok (fun c8 => ?_) (fun c8 => ?_)))
                · have c8 : bnB T (bk5 T a) (bkF T a) = true := c8
                  refine need_so ⟨rfl, rfl, h6⟩ (fork_ok (fun c9 => ?_) (fun c9 => ?_))
                  · have c9 : doneB T (bk6 T a) = true := c9
                    (repeat' (first | refine need_t (eqI_self _) ?_))
                    simp only [bkV, bkB, bkA, bkG, *, if_true, Bool.false_eq_true, if_false, Bool.true_and, Bool.false_and]
                    exact ⟨rfl, rfl⟩
                  · have c9 : doneB T (bk6 T a) = false := c9
                    (repeat' (first | refine need_t (eqI_self _) ?_))
                    simp only [bkV, bkB, bkA, bkG, *, if_true, Bool.false_eq_true, if_false, Bool.true_and, Bool.false_and]
                    exact ⟨rfl, rfl⟩
                · have c8 : bnB T (bk5 T a) (bkF T a) = false := c8
                  simp only [bkV, bkB, bkA, bkG, *, if_true, Bool.false_eq_true, if_false, Bool.true_and, Bool.false_and]
                  exact ⟨rfl, rfl⟩
          · have c5 : eqI (opI T (bk1 T a)) 0 = true := n_f c5
            simp only [bkV, bkB, bkA, bkG, *, if_true, Bool.false_eq_true, if_false, Bool.true_and, Bool.false_and]
            exact ⟨rfl, rfl⟩
        · have c4 : bnB T a (bkF T a) = false := n_t (n_f c4)
          simp only [bkV, bkB, bkA, bkG, *, if_true, Bool.false_eq_true, if_false, Bool.true_and, Bool.false_and]
          exact ⟨rfl, rfl⟩
      · have c2 : eqI (bkF T a) 0 = true := n_f c2
        simp only [bkV, bkB, bkA, bkG, *, if_true, Bool.false_eq_true, if_false, Bool.true_and, Bool.false_and]
        exact ⟨rfl, rfl⟩)
noncomputable abbrev Sy.cBck (T : List TokV) : Con Try.prog := conR T 88 (fun r => match r with | [] => some () | _ => none) (fun _ => []) (fun a _ => feG (bkV T a) (bkB T a)) (fun a _ => bkA T a) (fun a _ => TxtOk T ∧ InT T a) fun a _ h => by
  refine ⟨⟨trivial, feG_free _ _⟩, (bck_t T a h.2 h.1).mono fun v M' ⟨q1, q2⟩ => ?_⟩
  subst q1
  exact ⟨Frz.free _ _ (feG_free _ _), q2⟩
end Go.Proofs.Ytlmanlpgknhfpaa
namespace Go.Proofs.Ytlmanlpgknhfpaa
open Go Go.RowKit Pl Sy
def ftB0 (T : List TokV) (a : Int) : Bool := eqI (kindI T (skI T a)) 1
def ftV (T : List TokV) (a : Int) : QNodeV := if ftB0 T a then frV T (skI T a) else bkV T (skI T a)
def ftB (T : List TokV) (a : Int) : Bool := if ftB0 T a then frB T (skI T a) else bkB T (skI T a)
def ftA (T : List TokV) (a : Int) : Int := if ftB0 T a then frA T (skI T a) else bkA T (skI T a)
theorem Sy.ftr_t (T : List TokV) (a : Int) (h : InT T a) (hs : TxtOk T) : CallTo Try.prog 75 [.ptr 0 0] (rdM T a) fun v M' => v = feG (ftV T a) (ftB T a) ∧ M'.get 0 = some (rdB T (ftA T a)) :=
  to (G := fun r => r.1 = feG (ftV T a) (ftB T a) ∧ r.2.get 0 = some (rdB T (ftA T a))) [cSpc T, cKind T, cFrn T, cBck T] [] 400 30 (.yes (.yes (.br (.yes .done) (.yes .done)))) (let e1 := (@AV.view (T).length 3 (fun y0 => (fun y1 => (@AV.lit ([(@Value.int IntKind.i64 ((T.getD y0 tok0)).kind), (@Value.string ((T.getD y0 tok0)).text), (@Value.int IntKind.i64 ((T.getD y0 tok0)).n)].getD y1 (@Value.tuple (@Array.mk _ []))))))); let e2 := (some (@Blk.mk [e1, (int a)] 55 none)); let e3 := (([] : List AV) = []); let e4 := (@skI T a); let e5 := (some (@Blk.mk [e1, (int e4)] 55 none)); let e6 := (int (0 : Int)); let e7 := ((int ((@frV T e4)).kind) :: (int ((@frV T e4)).count) :: (int ((@frV T e4)).feat) :: (int ((@frV T e4)).lo) :: (int ((@frV T e4)).ln) :: (int ((@frV T e4)).ld) :: (int ((@frV T e4)).ho) :: (int ((@frV T e4)).hn) :: (int ((@frV T e4)).hd) :: (@List.drop _ (0 + ([(int ((@frV T e4)).kind), (int ((@frV T e4)).count), (int ((@frV T e4)).feat), (int ((@frV T e4)).lo), (int ((@frV T e4)).ln), (int ((@frV T e4)).ld), (int ((@frV T e4)).ho), (int ((@frV T e4)).hn), (int ((@frV T e4)).hd)]).length) [e6, e6, e6, e6, e6, e6, e6, e6, e6])); let e8 := ((int ((@bkV T e4)).kind) :: (int ((@bkV T e4)).count) :: (int ((@bkV T e4)).feat) :: (int ((@bkV T e4)).lo) :: (int ((@bkV T e4)).ln) :: (int ((@bkV T e4)).ld) :: (int ((@bkV T e4)).ho) :: (int ((@bkV T e4)).hn) :: (int ((@bkV T e4)).hd) :: (@List.drop _ (0 + ([(int ((@bkV T e4)).kind), (int ((@bkV T e4)).count), (int ((@bkV T e4)).feat), (int ((@bkV T e4)).lo), (int ((@bkV T e4)).ln), (int ((@bkV T e4)).ld), (int ((@bkV T e4)).ho), (int ((@bkV T e4)).hn), (int ((@bkV T e4)).hd)]).length) [e6, e6, e6, e6, e6, e6, e6, e6, e6])); (.need (@isSo (@And (e2 = e2) (@And e3 (@InT T a)))) (.need (@isSo (@And (e5 = e5) (@And e3 (@InT T e4)))) (.fork (eqI (@kindI T e4) (1 : Int)) (.need (@isSo (@And (e5 = e5) (@And e3 (@And ((∀ (t : TokV), t ∈ T → t.text.size ≤ 9223372036854775807)) (@And ((0 : Int) ≤ e4) (@InT T (e4 + (1 : Int)))))))) (.leaf ((@AV.tup [(@AV.agg (@List.take _ 9 e7)), (boo (@frB T e4))]), (@Mem.mk (1 + 1) ((((0 + 1) + 1) + 1) + 1) [(some (@Blk.mk e7 45 none)), (some (@Blk.mk [e1, (int (@frA T e4))] 55 none))])))) (.need (@isSo (@And (e5 = e5) (@And e3 (@And ((∀ (t : TokV), t ∈ T → t.text.size ≤ 9223372036854775807)) (@InT T e4))))) (.leaf ((@AV.tup [(@AV.agg (@List.take _ 9 e8)), (boo (@bkB T e4))]), (@Mem.mk (1 + 1) ((((0 + 1) + 1) + 1) + 1) [(some (@Blk.mk e8 45 none)), (some (@Blk.mk [e1, (int (@bkA T e4))] 55 none))])))))))) (by kernel_rfl) (by
    have h1 := skI_in h
    refine need_so ⟨rfl, rfl, h⟩ (need_so ⟨rfl, rfl, h1⟩ (fork_ok (fun c1 => need_so ⟨rfl, rfl, hs, h1.1.1, kind_step h1 c1 (by decide)⟩ ?_) (fun c1 => need_so ⟨rfl, rfl, hs, h1⟩ ?_)))
    · have c1 : ftB0 T a = true := c1
      simp only [ftV, ftB, ftA, c1, if_true]
      exact ⟨rfl, rfl⟩
    · have c1 : ftB0 T a = false := c1
      simp only [ftV, ftB, ftA, c1, Bool.false_eq_true, if_false]
      exact ⟨rfl, rfl⟩)
noncomputable abbrev Sy.cFtr (T : List TokV) : Con Try.prog := conR T 75 (fun r => match r with | [] => some () | _ => none) (fun _ => []) (fun a _ => feG (ftV T a) (ftB T a)) (fun a _ => ftA T a) (fun a _ => TxtOk T ∧ InT T a) fun a _ h => by
  refine ⟨⟨trivial, feG_free _ _⟩, (ftr_t T a h.2 h.1).mono fun v M' ⟨q1, q2⟩ => ?_⟩
  subst q1
  exact ⟨Frz.free _ _ (feG_free _ _), q2⟩
def innE (T : List TokV) (a : Int) : Int := mtI T (skI T a)
def innB (T : List TokV) (a : Int) : Bool := eqI (kindI T (skI T a)) 13 && !eqI (innE T a) T.length
def innL (T : List TokV) (a : Int) : List TokV := if innB T a then (T.drop (skI T a + 1).toNat).take (innE T a - (skI T a + 1)).toNat else []
def innA (T : List TokV) (a : Int) : Int := if innB T a then innE T a + 1 else skI T a
theorem inn_in {T : List TokV} {a : Int} (h : InT T a) (hb : innB T a = true) : skI T a + 1 ≤ innE T a ∧ innE T a < T.length := by
  have h1 := skI_in h
  unfold innB at hb
  rw [Bool.and_eq_true, Bool.not_eq_true', eqI_f] at hb
  obtain ⟨hk, he⟩ := hb
  have h2 := kind_step h1 hk (by decide)
  obtain ⟨κ, hκ⟩ := Int.eq_ofNat_of_zero_le h1.1.1
  have hlt : κ < T.length := by have := h2.1.2; omega
  have hm := mt_int T κ
  have hg : 0 ≤ innE T a ∧ (κ : Int) ≤ innE T a ∧ innE T a ≤ T.length := by
    unfold innE mtI
    rw [hκ]
    have := hm.2 hlt
    omega
  refine ⟨?_, by omega⟩
  rw [eqI_t, hκ, kindI_at T κ hlt, tokAt_eq hlt] at hk
  have hs := mt_some (l := T) hlt (by rw [hk]; decide)
  have hle := runs_le (kindsT T) _ (κ + 1) [clo T[κ].kind] (Nat.le_refl _)
  rw [kindsT_len] at hle
  have h3 := hle.2 (by omega)
  unfold innE mtI
  rw [hκ]
  show (κ : Int) + 1 ≤ mtc (kindsT T) (κ : Int)
  rw [hs]
  omega
theorem innA_in {T : List TokV} {a : Int} (h : InT T a) : InT T (innA T a) := by
  unfold innA
  split
  · rename_i hb
    have := inn_in h hb
    have h1 := skI_in h
    exact ⟨⟨by have := h1.1; omega, by omega⟩, h.2⟩
  · exact skI_in h
theorem innL_len {T : List TokV} {a : Int} (h : InT T a) (hb : innB T a = true) : ((innL T a).length : Int) = innE T a - (skI T a + 1) := by
  have h0 := inn_in h hb
  have h1 := skI_in h
  unfold innL
  rw [if_pos hb, List.length_take, List.length_drop]
  have := h1.1
  omega
theorem take_len {α : Type} (l : List α) (n : Nat) : l.take n = l.take (l.take n).length := by
  rw [List.length_take]
  rcases Nat.le_total n l.length with h | h
  · rw [Nat.min_eq_left h]
  · rw [Nat.min_eq_right h, List.take_of_length_le h, List.take_length]
theorem Sy.inn_t (T : List TokV) (a : Int) (h : InT T a) : CallTo Try.prog 74 [.ptr 0 0] (rdM T a) fun v M' => Frz true 1 M' v (.tup [kv (innL T a), boo (innB T a)]) ∧ M'.get 0 = some (rdB T (innA T a)) :=
  to (G := fun r => Frz true 1 r.2 r.1 (.tup [kv (innL T a), boo (innB T a)]) ∧ r.2.get 0 = some (rdB T (innA T a))) [cSpc T, cKind T, cMatch T] [] 400 30 (.yes (.yes (.yes (.br (.auto 6 (.br .done (.yes .done))) (.auto 7 .done))))) (let e1 := (@Value.tuple (@Array.mk _ [])); let e2 := (@AV.view (T).length 3 (fun y0 => (fun y1 => (@AV.lit ([(@Value.int IntKind.i64 ((T.getD y0 tok0)).kind), (@Value.string ((T.getD y0 tok0)).text), (@Value.int IntKind.i64 ((T.getD y0 tok0)).n)].getD y1 e1))))); let e3 := (some (@Blk.mk [e2, (int a)] 55 none)); let e4 := (some (@Blk.mk [e2, (int (@skI T a))] 55 none)); let e5 := (@mtI T (@skI T a)); let e6 := (w64 ((@skI T a) + (1 : Int))); (.need (@isSo (@And (e3 = e3) (@And (([] : List AV) = []) (@InT T a)))) (.need (@isSo (@And ((@HAppend.hAppend _ _ _ _ (@HAppend.hAppend _ _ _ _ [] [e2, (int (@skI T a))]) []) = [e2, (int (@skI T a))]) (@lim T))) (.need (@isSo (@And (e4 = e4) (@And (([] : List AV) = []) (@InT T (@skI T a))))) (.fork (!(!(eqI (@kindI T (@skI T a)) (13 : Int)))) (.fork (eqI e5 (((T).length : Nat) : Int)) (.leaf ((@AV.tup [(@AV.lit (@Value.slice none 0 0)), (boo false)]), (@Mem.mk 1 ((0 + 1) + 1) [e4]))) (.need ((leI (0 : Int) e6) && ((leI e6 e5) && (leI e5 (((T).length : Nat) : Int)))) (.leaf ((@AV.tup [(@AV.view ((e5).toNat - (e6).toNat) 3 (fun y0 => (fun y1 => (@AV.lit ([(@Value.int IntKind.i64 ((T.getD ((e6).toNat + y0) tok0)).kind), (@Value.string ((T.getD ((e6).toNat + y0) tok0)).text), (@Value.int IntKind.i64 ((T.getD ((e6).toNat + y0) tok0)).n)].getD y1 e1))))), (boo true)]), (@Mem.mk 1 (((0 + 1) + 1) + 1) [(some (@Blk.mk (e2 :: [(int (w64 (e5 + (1 : Int))))]) 55 none))]))))) (.leaf ((@AV.tup [(@AV.lit (@Value.slice none 0 0)), (boo false)]), (@Mem.mk 1 ((0 + 1) + 1) [e4])))))))) (by kernel_rfl) (by
    have h1 := skI_in h
    have hl : T.length ≤ 17592186044416 := h.2
    refine need_so ⟨rfl, rfl, h⟩ (need_so ⟨rfl, h.2⟩ (need_so ⟨rfl, rfl, h1⟩ (fork_ok (fun c1 => fork_ok (fun c2 => ?_) (fun c2 => ?_)) (fun c1 => ?_))))
    · have hb : innB T a = false := by unfold innB innE; rw [c2]; simp
      simp only [innL, innA, hb, Bool.false_eq_true, if_false]
      exact ⟨Frz.tup ⟨Frz.nil _ _ _ _ _, Frz.lit _ _ _ _, trivial⟩, rfl⟩
    · have hb : innB T a = true := by unfold innB innE; rw [c2, n_f (n_t c1)]; rfl
      have hn := inn_in h hb
      have hL := innL_len h hb
      have e1 : w64 (skI T a + 1) = skI T a + 1 := w64_in (by have := h1.1; omega)
      have e2 : w64 (mtI T (skI T a) + 1) = innE T a + 1 := w64_in (by have := h1.1; unfold innE at hn; omega)
      rw [e1, e2]
      have hn' : skI T a + 1 ≤ mtI T (skI T a) ∧ mtI T (skI T a) < T.length := hn
      refine need_t (by simp only [Bool.and_eq_true, leI_t]; have := h1.1; omega) ?_
      have eA : innA T a = innE T a + 1 := by unfold innA; rw [if_pos hb]
      rw [eA, hb]
      refine ⟨Frz.tup ⟨Frz.sub (Frz.free _ _ (fun i j => trivial)) (sub_part T (skI T a + 1).toNat (innL T a).length _ (by have := h1.1; omega) ?_ (innL T a) ?_), Frz.lit _ _ _ _, trivial⟩, rfl⟩
      · have : (mtI T (skI T a) - (skI T a + 1)).toNat = (innL T a).length := by unfold innE at hL; omega
        first | exact this | (have := h1.1; omega)
      · unfold innL
        rw [if_pos hb]
        exact take_len _ _
    · have hb : innB T a = false := by unfold innB; rw [n_t (n_f c1)]; rfl
      simp only [innL, innA, hb, Bool.false_eq_true, if_false]
      exact ⟨Frz.tup ⟨Frz.nil _ _ _ _ _, Frz.lit _ _ _ _, trivial⟩, rfl⟩)
end Go.Proofs.Ytlmanlpgknhfpaa
namespace Go.Proofs.Ytlmanlpgknhfpaa
open Go Go.RowKit Pl Sy
namespace Sy
theorem CallTo.post {P : Program} {f : FuncId} {args : List AV} {M : Mem} {G H : AV → Mem → Prop} (h : CallTo P f args M G) (hp : ∀ v M', G v M' → ∃ v2 M2, H v2 M2 ∧ ∀ w0 ρ w u, WR w0 ρ M' w → rel ρ v u → ∃ ρ2, Ext ρ ρ2 ∧ WR w0 ρ2 M2 w ∧ rel ρ2 v2 u) : CallTo P f args M H := fun w0 ρ us w hr hW => by
  refine (h w0 ρ us w hr hW).mono ?_
  rintro e w' ⟨ρ', u, v, M', rfl, hE, hv, hW', hg⟩
  obtain ⟨v2, M2, hH, hc⟩ := hp v M' hg
  obtain ⟨ρ2, e1, e2, e3⟩ := hc w0 ρ' w' u hW' hv
  exact ⟨ρ2, u, v2, M2, rfl, hE.trans e1, e3, e2, hH⟩
def qrow (xs : List QNodeV) (i j : Nat) : AV := .lit ((QNodeV.cells (xs.getD i QNodeV.zero)).getD j undef)
abbrev qB (xs : List QNodeV) : Blk := ⟨[], 45, some ⟨xs.length, 9, qrow xs⟩⟩
def QRows (n : Nat) (c : Nat → Nat → AV) (xs : List QNodeV) : Prop := n = xs.length ∧ ∀ i j, i < n → j < 9 → c i j = qrow xs i j
theorem QRows.base (xs : List QNodeV) : QRows xs.length (qrow xs) xs := ⟨rfl, fun i j _ _ => rfl⟩
theorem QRows.app {n m : Nat} {c c' : Nat → Nat → AV} {xs ys : List QNodeV} (h : QRows n c xs) (h' : QRows m c' ys) : QRows (n + m) (appc n c c') (xs ++ ys) := ⟨by rw [List.length_append, h.1, h'.1], fun i j hi hj => by
  have hn := h.1
  by_cases hlt : i < n
  · rw [appc_lt hlt, h.2 i j hlt hj]
    unfold qrow
    simp only [List.getD_eq_getElem?_getD]
    rw [List.getElem?_append_left (by omega)]
  · rw [appc_ge (by omega), h'.2 (i - n) j (by omega) hj]
    unfold qrow
    simp only [List.getD_eq_getElem?_getD]
    rw [List.getElem?_append_right (by omega), ← hn]⟩
def QEnd (T : List TokV) (a2 : Int) (xs : List QNodeV) (b : Bool) (v : AV) (M' : Mem) : Prop := ∃ x n cell, v = .tup [.own x n 9, boo b] ∧ M'.get 0 = some (rdB T a2) ∧ M'.get x = some ⟨[], 45, some ⟨n, 9, cell⟩⟩ ∧ x ≠ 0 ∧ QRows n cell xs
def QPre (T : List TokV) (a2 : Int) (xs : List QNodeV) (b : Bool) (v : AV) (M' : Mem) : Prop := QEnd T a2 xs b v M' ∨ (v = .tup [.lit (.slice none 0 0), boo b] ∧ M'.get 0 = some (rdB T a2) ∧ xs = []) ∨
  (∃ x n c M1, v = .tup [.sl x 0 n c 9, boo b] ∧ slRows M' (.sl x 0 n c 9) = some (M1, .own x n 9) ∧ QEnd T a2 xs b (.tup [.own x n 9, boo b]) M1)
theorem QPre.end {P : Program} {f : FuncId} {args : List AV} {M : Mem} {T : List TokV} {a2 : Int} {xs : List QNodeV} {b : Bool} (h : CallTo P f args M (QPre T a2 xs b)) : CallTo P f args M (QEnd T a2 xs b) := CallTo.post h fun v M' hv => by
  rcases hv with hv | ⟨rfl, h0, rfl⟩ | ⟨x, n, c, M1, rfl, hs, hv⟩
  · exact ⟨v, M', hv, fun w0 ρ w u hW hr => ⟨ρ, Ext.refl _, hW, hr⟩⟩
  · refine ⟨.tup [.own M'.top 0 9, boo b], M'.push ⟨[], 45, some ⟨0, 9, qrow []⟩⟩, ⟨M'.top, 0, qrow [], rfl, ?_, Mem.get_push_new _ _, ?_, QRows.base []⟩, fun w0 ρ w u hW hr => ?_⟩
    · rw [Mem.get_push_old _ _ (Mem.get_lt h0)]; exact h0
    · have := Mem.get_lt h0; omega
    · obtain ⟨q1, q2, q3⟩ := hW.virt 45 9 (qrow [])
      refine ⟨_, q1, q3, ?_⟩
      simp only [rel, rels] at hr ⊢
      obtain ⟨l, rfl, y, ys, rfl, hy, hys⟩ := hr
      exact ⟨_, rfl, _, _, rfl, .inl ⟨q2, trivial, hy⟩, hys⟩
  · refine ⟨_, M1, hv, fun w0 ρ w u hW hr => ?_⟩
    have hr' : rels ρ [.sl x 0 n c 9, boo b] (match u with | .tuple l => l.toList | _ => []) := by
      simp only [rel] at hr
      obtain ⟨l, rfl, hl⟩ := hr
      simpa using hl
    simp only [rel] at hr
    obtain ⟨l, rfl, hl⟩ := hr
    simp only [rels] at hl
    obtain ⟨y, ys, rfl, hy, hys⟩ := hl
    obtain ⟨q1, q2⟩ := slRows_sound hW hy hs
    refine ⟨ρ, Ext.refl _, q1, ?_⟩
    simp only [rel, rels]
    exact ⟨_, rfl, _, _, rfl, by simpa only [rel] using q2, by simpa only [rel, rels] using hys⟩
noncomputable def oRes (M : Mem) (rb : Nat) (T : List TokV) (a2 : Int) (xs : List QNodeV) : Mem := (M.put rb (some (rdB T a2))).push (qB xs)
noncomputable def conO {Y : Type} (T : List TokV) (f : FuncId) (get : List AV → Option Y) (args0 : Y → List AV) (xs0 : Int → Y → List QNodeV) (b0 : Int → Y → Bool) (at2 : Int → Y → Int) (C : Int → Y → Prop) (h : ∀ a y, C a y → Frees (args0 y) ∧ CallTo Try.prog f (.ptr 0 0 :: args0 y) (rdM T a) (QEnd T (at2 a y) (xs0 a y) (b0 a y))) : Con Try.prog where
  f := f
  run := fun args M => match rdGet args M with
    | some x => match get x.rest with
      | some y => some (.tup [.own M.top (xs0 x.a y).length 9, boo (b0 x.a y)], oRes M x.rb T (at2 x.a y) (xs0 x.a y))
      | none => none
    | none => none
  ob := fun args M => match rdGet args M with
    | some x => match get x.rest with
      | some y => some (isSo (M.get x.rb = some (rdB T x.a) ∧ x.rest = args0 y ∧ C x.a y))
      | none => none
    | none => none
  ok := fun args M v M' hr hob => by
    cases hg : rdGet args M with
    | none => rw [hg] at hr; cases hr
    | some x =>
      rw [hg] at hr hob
      cases hy : get x.rest with
      | none => simp only [hy] at hr; cases hr
      | some y =>
        simp only [hy] at hr hob
        simp at hr
        obtain ⟨rfl, rfl⟩ := hr
        have h1 := hob _ rfl
        rw [isSo_t] at h1
        obtain ⟨hb, hrest, hC⟩ := h1
        have e : args = .ptr x.rb 0 :: x.rest := by
          unfold rdGet at hg
          split at hg
          · split at hg
            · simp at hg; subst hg; rfl
            · cases hg
          · cases hg
        obtain ⟨hf, h2⟩ := h x.a y hC
        have hlt := Mem.get_lt hb
        refine ⟨by unfold oRes; exact (Grow.put _ _ _).trans (Grow.push _ _), ?_⟩
        rw [e, hrest]
        refine CallTo.frameG (σ := nm [x.rb]) h2 ⟨⟨rfl, rfl⟩, RenVs.free _ hf⟩ (.of rfl rfl (by simp) ⟨⟨x.rb, _, rfl, hb, rfl, ⟨RenV.free _ (kv_free T), rfl, trivial⟩, trivial⟩, trivial⟩) (fun z c hz => ?_) ?_
        · rcases z with _ | z
          · exact ⟨_, rfl⟩
          · cases hz
        · rintro v M2 ⟨b2, n2, cell2, rfl, q1, q2, q3, q4⟩
          have hn := q4.1
          refine ⟨fun z => if z = x.rb then some 0 else if z = M.top then some b2 else none, _, _, ⟨rfl, rfl⟩, ⟨⟨?_, hn, rfl⟩, rfl, trivial⟩, Nat.le_succ _, fun z c hz => ?_, fun z c hlt2 hz => ?_, fun z z' c hz hz' => ?_, fun z B' hz => ?_⟩
          · show (if M.top = x.rb then some 0 else if M.top = M.top then some b2 else none) = some b2
            rw [if_neg (by omega), if_pos rfl]
          · show z < M.top + 1
            split at hz
            · omega
            · split at hz
              · omega
              · cases hz
          · split at hz
            · rename_i e2; subst e2
              simp at hz; subst hz
              exact ⟨Nat.le_of_ble_eq_true rfl, rfl⟩
            · split at hz
              · omega
              · cases hz
          · split at hz <;> split at hz'
            · omega
            · split at hz'
              · simp at hz hz'; omega
              · cases hz'
            · split at hz
              · simp at hz hz'; omega
              · cases hz
            · split at hz
              · split at hz'
                · omega
                · cases hz'
              · cases hz
          · unfold oRes at hz
            rcases Mem.get_push hz with ⟨e1, e2⟩ | ⟨e1, e2⟩
            · have e1 : z = M.top := e1
              subst e1 e2
              refine .inr ⟨b2, _, by rw [if_neg (by omega), if_pos rfl], q2, rfl, trivial, hn.symm, rfl, fun i j hi hj => ?_⟩
              show RenV _ (cell2 i j) (qrow (xs0 x.a y) i j)
              rw [q4.2 i j (by have hi : i < (xs0 x.a y).length := hi; omega) hj]
              exact RenV.free _ trivial
            · have e1 : z < M.top := e1
              rcases Mem.get_put hlt e2 with ⟨rfl, e3⟩ | ⟨e3, e4⟩
              · simp at e3; subst e3
                exact .inr ⟨0, _, by rw [if_pos rfl], q1, rfl, ⟨RenV.free _ (kv_free T), rfl, trivial⟩, trivial⟩
              · refine .inl ⟨e1, fun c hc => ?_, e4⟩
                rcases c with _ | c
                · have : some x.rb = some z := hc
                  simp at this; omega
                · cases hc
end Sy
end Go.Proofs.Ytlmanlpgknhfpaa
namespace Go.Proofs.Ytlmanlpgknhfpaa
open Go Go.RowKit Pl Sy
theorem Sy.innG_free (T : List TokV) (b : Bool) : Free (.tup [kv T, boo b]) := ⟨kv_free T, trivial, trivial⟩
noncomputable abbrev Sy.cInn (T : List TokV) : Con Try.prog := conR T 74 (fun r => match r with | [] => some () | _ => none) (fun _ => []) (fun a _ => .tup [kv (innL T a), boo (innB T a)]) (fun a _ => innA T a) (fun a _ => InT T a) fun a _ h => ⟨⟨trivial, innG_free _ _⟩, inn_t T a h⟩
theorem Sy.qview_free (xs : List QNodeV) : Free (qview xs) := viewOf_free _ _ _ _
structure CnK where
  N : List TokV → List QNodeV
  B : List TokV → Bool
  A : List TokV → Int
  C : List TokV → Prop
structure CnK.Ok (K : CnK) : Prop where
  call : ∀ L, K.C L → CallTo Try.prog 26 [.ptr 0 0] (rdM L 0) (QEnd L (K.A L) (K.N L) (K.B L))
  len : ∀ L, K.C L → (K.N L).length ≤ L.length
noncomputable abbrev Sy.cCnd (K : CnK) (hK : K.Ok) (L : List TokV) : Con Try.prog := conO L 26 (fun r => match r with | [] => some () | _ => none) (fun _ => []) (fun _ _ => K.N L) (fun _ _ => K.B L) (fun _ _ => K.A L) (fun a _ => a = 0 ∧ K.C L) fun a _ h => by
  obtain ⟨rfl, h⟩ := h
  exact ⟨trivial, hK.call L h⟩
def trmN (K : CnK) (T : List TokV) (a : Int) : List QNodeV := if innB T a then (if ftB (innL T a) 0 then [ftV (innL T a) 0] else K.N (innL T a)) else []
def trmB (K : CnK) (T : List TokV) (a : Int) : Bool := innB T a && (ftB (innL T a) 0 || K.B (innL T a))
def TrmC (K : CnK) (T : List TokV) (a : Int) : Prop := (InT T a ∧ TxtOk T) ∧ (innB T a = true → ftB (innL T a) 0 = false → K.C (innL T a))
theorem innL_ok {T : List TokV} {a : Int} (h : InT T a) (hs : TxtOk T) : InT (innL T a) 0 ∧ TxtOk (innL T a) := by
  have hle : (innL T a).length ≤ T.length := by
    unfold innL
    split
    · rw [List.length_take, List.length_drop]; omega
    · exact Nat.zero_le _
  refine ⟨⟨⟨Int.le_refl 0, by omega⟩, Nat.le_trans hle h.2⟩, fun t ht => ?_⟩
  unfold innL at ht
  split at ht
  · exact hs t (List.mem_of_mem_drop (List.mem_of_mem_take ht))
  · cases ht
theorem Sy.trm_t (K : CnK) (hK : K.Ok) (T : List TokV) (a : Int) (h : TrmC K T a) : CallTo Try.prog 44 [.ptr 0 0] (rdM T a) (QEnd T (innA T a) (trmN K T a) (trmB K T a)) :=
  QPre.end (to (G := fun r => QPre T (innA T a) (trmN K T a) (trmB K T a) r.1 r.2) [cInn T, cFtr (innL T a), cCnd K hK (innL T a)] [] 400 30 (.yes (.br .done (.yes (.br .done (.yes .done))))) (let e1 := (@Value.tuple (@Array.mk _ [])); let e2 := (@AV.view (T).length 3 (fun y0 => (fun y1 => (@AV.lit ([(@Value.int IntKind.i64 ((T.getD y0 tok0)).kind), (@Value.string ((T.getD y0 tok0)).text), (@Value.int IntKind.i64 ((T.getD y0 tok0)).n)].getD y1 e1))))); let e3 := (some (@Blk.mk [e2, (int a)] 55 none)); let e4 := (([] : List AV) = []); let e5 := (some (@Blk.mk [e2, (int (@innA T a))] 55 none)); let e6 := (@innL T a); let e7 := (@AV.view (e6).length 3 (fun y0 => (fun y1 => (@AV.lit ([(@Value.int IntKind.i64 ((e6.getD y0 tok0)).kind), (@Value.string ((e6.getD y0 tok0)).text), (@Value.int IntKind.i64 ((e6.getD y0 tok0)).n)].getD y1 e1))))); let e8 := (@Value.int IntKind.i64 (0 : Int)); let e9 := (Int.ofNat 0); let e10 := ((some (@Blk.mk (e7 :: (@List.drop _ (0 + ([e7]).length) (@List.map _ _ AV.lit (@Array.toList _ (@Array.mk _ [(@Value.slice none 0 0), e8]))))) 55 none)) = (some (@Blk.mk [e7, (int e9)] 55 none))); let e11 := (((1 + 1) + 1) + 1); let e12 := (int ((@ftV e6 e9)).kind); let e13 := (int ((@ftV e6 e9)).count); let e14 := (int ((@ftV e6 e9)).feat); let e15 := (int ((@ftV e6 e9)).lo); let e16 := (int ((@ftV e6 e9)).ln); let e17 := (int ((@ftV e6 e9)).ld); let e18 := (int ((@ftV e6 e9)).ho); let e19 := (int ((@ftV e6 e9)).hn); let e20 := (int ((@ftV e6 e9)).hd); let e21 := (0 + ([e12, e13, e14, e15, e16, e17, e18, e19, e20]).length); let e22 := (@Array.toList _ (@Array.mk _ [e8, e8, e8, e8, e8, e8, e8, e8, e8])); let e23 := (int (0 : Int)); let e24 := ((some (@Blk.mk (e12 :: e13 :: e14 :: e15 :: e16 :: e17 :: e18 :: e19 :: e20 :: (@List.drop _ e21 [e23, e23, e23, e23, e23, e23, e23, e23, e23])) 45 none)) :: ((some (@Blk.mk [e7, (int (@ftA e6 e9))] 55 none)) :: [e5])); (.need (@isSo (@And (e3 = e3) (@And e4 (@InT T a)))) (.fork (!(@innB T a)) (.leaf ((@AV.tup [(@AV.lit (@Value.slice none 0 0)), (boo false)]), (@Mem.mk 1 (0 + 1) [e5]))) (.need (@isSo (@And e10 (@And e4 (@And ((∀ (t : TokV), t ∈ innL T a → t.text.size ≤ 9223372036854775807)) (@InT e6 e9))))) (.fork (@ftB e6 e9) (.leaf ((@AV.tup [(@AV.sl ((1 + 1) + 1) 0 1 (some 1) 9), (boo true)]), (@Mem.mk e11 (((0 + 1) + 1) + 1) ((some (@Blk.mk (e12 :: e13 :: e14 :: e15 :: e16 :: e17 :: e18 :: e19 :: e20 :: (@List.drop _ e21 (@List.map _ _ AV.lit (@Array.toList _ (@Array.mk _ [(@List.get _ e22 (@Fin.mk _ 0 (@Nat.le_of_ble_eq_true _ _ (@Eq.refl _ true)))), (@List.get _ e22 (@Fin.mk _ 1 (@Nat.le_of_ble_eq_true _ _ (@Eq.refl _ true)))), (@List.get _ e22 (@Fin.mk _ 2 (@Nat.le_of_ble_eq_true _ _ (@Eq.refl _ true)))), (@List.get _ e22 (@Fin.mk _ 3 (@Nat.le_of_ble_eq_true _ _ (@Eq.refl _ true)))), (@List.get _ e22 (@Fin.mk _ 4 (@Nat.le_of_ble_eq_true _ _ (@Eq.refl _ true)))), (@List.get _ e22 (@Fin.mk _ 5 (@Nat.le_of_ble_eq_true _ _ (@Eq.refl _ true)))), (@List.get _ e22 (@Fin.mk _ 6 (@Nat.le_of_ble_eq_true _ _ (@Eq.refl _ true)))), (@List.get _ e22 (@Fin.mk _ 7 (@Nat.le_of_ble_eq_true _ _ (@Eq.refl _ true)))), (@List.get _ e22 (@Fin.mk _ 8 (@Nat.le_of_ble_eq_true _ _ (@Eq.refl _ true))))]))))) 45 none)) :: e24)))) (.need (@isSo (@And e10 (@And e4 (@And (e9 = (0 : Int)) ((K).C e6))))) (.leaf ((@AV.tup [(@AV.own e11 (((K).N e6)).length 9), (boo ((K).B e6))]), (@Mem.mk (e11 + 1) ((((0 + 1) + 1) + 1) + 1) ((some (@Blk.mk [] 45 (some (@Rw.mk (((K).N e6)).length 9 (@qrow ((K).N e6)))))) :: ((some (@Blk.mk [e7, (int ((K).A e6))] 55 none)) :: e24))))))))))) (by kernel_rfl) (by
    obtain ⟨⟨h1, h2⟩, h3⟩ := h
    obtain ⟨h4, h5⟩ := innL_ok h1 h2
    refine need_so ⟨rfl, rfl, h1⟩ (fork_ok (fun c1 => ?_) (fun c1 => need_so ⟨rfl, rfl, h5, h4⟩ (fork_ok (fun c2 => ?_) (fun c2 => need_so ⟨rfl, rfl, rfl, h3 (n_f c1) c2⟩ ?_))))
    · have c1 := n_t c1
      simp only [trmN, trmB, c1, Bool.false_eq_true, if_false, Bool.false_and]
      exact .inr (.inl ⟨rfl, rfl, rfl⟩)
    · have c1 := n_f c1
      have c2 : ftB (innL T a) 0 = true := c2
      simp only [trmN, trmB, c1, c2, if_true, Bool.true_and, Bool.true_or]
      refine .inr (.inr ⟨3, 1, some 1, _, rfl, rfl, 3, 1, _, rfl, rfl, rfl, by decide, rfl, fun i j hi hj => ?_⟩)
      obtain rfl : i = 0 := by omega
      rcases j with _ | _ | _ | _ | _ | _ | _ | _ | _ | j
      · exact rfl
      · exact rfl
      · exact rfl
      · exact rfl
      · exact rfl
      · exact rfl
      · exact rfl
      · exact rfl
      · exact rfl
      · omega
    · have c1 := n_f c1
      have c2 : ftB (innL T a) 0 = false := c2
      simp only [trmN, trmB, c1, c2, if_true, Bool.false_eq_true, if_false, Bool.true_and, Bool.false_or]
      exact .inl ⟨_, _, _, rfl, rfl, rfl, by decide, QRows.base _⟩))
noncomputable abbrev Sy.cTrm (K : CnK) (hK : K.Ok) (T : List TokV) : Con Try.prog := conO T 44 (fun r => match r with | [] => some () | _ => none) (fun _ => []) (fun a _ => trmN K T a) (fun a _ => trmB K T a) (fun a _ => innA T a) (fun a _ => TrmC K T a) fun a _ h => ⟨trivial, trm_t K hK T a h⟩
end Go.Proofs.Ytlmanlpgknhfpaa
namespace Go.Proofs.Ytlmanlpgknhfpaa
open Go Go.RowKit Pl Sy
namespace Sy
abbrev chA (T : List TokV) (a b : Int) (xs : List QNodeV) : Mem := ⟨3, 0, [some (rdB T b), some (qB xs), some (rdB T a)]⟩
abbrev chB (T : List TokV) (a : Int) (xs : List QNodeV) : Mem := ⟨4, 0, [some (qB xs), none, none, some (rdB T a)]⟩
abbrev chG (k : Int) (s : ByteArray) (x n : Nat) (c : Int) : Fr := (some ((@AV.ptr 0 0)) :: some ((int k)) :: some ((@AV.lit (@Value.string s))) :: (nn5 (some ((@AV.lit (@Value.slice none 0 0))) :: some ((boo false)) :: some (.own x n 9) :: some (int c) :: (nn26 []))))
end Sy
structure ChR where
  N : List QNodeV
  c : Int
  a : Int
  ok : Bool
def chnE (K : CnK) (T : List TokV) (s : ByteArray) : Nat → Int → List QNodeV → Int → ChR
  | 0, a, xs, c => ⟨xs, c, a, false⟩
  | n + 1, a, xs, c => if wordB T a s then (if trmB K T (wordA T a s) then chnE K T s n (innA T (wordA T a s)) (xs ++ trmN K T (wordA T a s)) (c + 1) else ⟨xs, c, innA T (wordA T a s), false⟩) else ⟨xs, c, wordA T a s, true⟩
namespace Sy
theorem chG_ren (k : Int) (s : ByteArray) {x n n' : Nat} {c c' : Int} (hn : n = n') (hc : c = c') : RenF (nm [0, 1, 2, x]) (chG k s x n c) (chG k s 3 n' c') := by
  subst hn hc
  simp only [RenF, and_true]
  exact ⟨⟨rfl, rfl⟩, rfl, rfl, rfl, rfl, ⟨rfl, rfl, rfl⟩, rfl⟩
theorem chB_ren {M : Mem} {T : List TokV} {a a' : Int} {xs : List QNodeV} {x n : Nat} {c : Nat → Nat → AV} (hd : [0, 1, 2, x].Nodup) (ha : a = a') (h0 : M.get 0 = some (rdB T a)) (h1 : M.get x = some ⟨[], 45, some ⟨n, 9, c⟩⟩) (r : QRows n c xs) : RenM (nm [0, 1, 2, x]) M (chB T a' xs) := by
  subst ha
  refine .of rfl rfl hd ⟨⟨x, _, rfl, h1, rfl, trivial, r.1.symm, rfl, fun i j hi hj => ?_⟩, ⟨0, _, rfl, h0, rfl, ⟨RenV.free _ (kv_free T), rfl, trivial⟩, trivial⟩, trivial⟩
  show RenV _ (_ : AV) _
  simp only at hi hj ⊢
  rw [r.2 i j (by have := r.1; omega) hj]
  exact RenV.free _ trivial
end Sy
theorem trmN_len (K : CnK) (hK : K.Ok) {T : List TokV} {a : Int} (h : TrmC K T a) (hb : trmB K T a = true) : a + 1 + ((trmN K T a).length : Int) ≤ innA T a := by
  unfold trmB at hb
  rw [Bool.and_eq_true] at hb
  obtain ⟨hb, hb2⟩ := hb
  have h1 := inn_in h.1.1 hb
  have h2 := innL_len h.1.1 hb
  have h3 := skI_in h.1.1
  have h4 := skI_le h.1.1.1.1 h.1.1.1.2
  unfold innA trmN
  rw [if_pos hb, if_pos hb]
  split
  · simp only [List.length_cons, List.length_nil]; omega
  · rename_i hf
    have := hK.len _ (h.2 hb (by simpa using hf))
    omega
def ChEnd (k : Int) (s : ByteArray) (T : List TokV) (r : ChR) (ex : Ex) (F : Fr) (M : Mem) : Prop := (r.ok = true ∧ ex = .exit 0 ∧ F = chG k s 3 r.N.length r.c ∧ M = chB T r.a r.N) ∨ (r.ok = false ∧ ex = .ret ∧ F = chG k s 3 r.N.length r.c ∧ M = chB T r.a r.N)
structure TrmK (K : CnK) (T : List TokV) : Prop where
  lim : T.length ≤ 100000
  txt : TxtOk T
  all : ∀ a, InT T a → innB T a = true → ftB (innL T a) 0 = false → K.C (innL T a)
theorem TrmK.at {K : CnK} {T : List TokV} (h : TrmK K T) {a : Int} (ha : InT T a) : TrmC K T a := ⟨⟨ha, h.txt⟩, h.all a ha⟩
theorem Sy.chn_loop (K : CnK) (hK : K.Ok) (T : List TokV) (hT : TrmK K T) (k : Int) (s : ByteArray) : ∀ (n : Nat) (a : Int) (xs : List QNodeV) (c : Int), InT T a → (xs.length : Int) ≤ a → 0 ≤ c → c ≤ a → T.length - a < n →
    LoopToT 3 Try.prog (theBody Try.prog 46 3) n (chG k s 3 xs.length c) (chB T a xs) (RG 3 (ChEnd k s T (chnE K T s n a xs c))) := by
  intro n
  induction n with
  | zero => intro a xs c h1 h2 h3 h4 h5; have := h1.1.2; omega
  | succ n ih =>
    intro a xs c h1 h2 h3 h4 h5
    have hl := hT.lim
    have h1' := h1.1
    refine roundT plain mixed 3 [cWord T, cTrm K hK T] [] 400 30 46 3 Try.func46 rfl (by kernel_rfl) (true :: true :: true :: (ff5 (true :: true :: true :: true :: (ff26 [])))) (.yes (.br (.yes (.br .done (.yes .done))) .done)) (let e1 := (@AV.view (T).length 3 (fun y0 => (fun y1 => (@AV.lit ([(@Value.int IntKind.i64 ((T.getD y0 tok0)).kind), (@Value.string ((T.getD y0 tok0)).text), (@Value.int IntKind.i64 ((T.getD y0 tok0)).n)].getD y1 (@Value.tuple (@Array.mk _ []))))))); let e2 := (some (@Blk.mk [e1, (int a)] 55 none)); let e3 := (@AV.lit (@Value.string s)); let e4 := (@wordA T a s); let e5 := (some (@Blk.mk [e1, (int e4)] 55 none)); let e6 := (some (@AV.ptr 0 0)); let e7 := (some (@AV.lit (@Value.slice none 0 0))); let e8 := (some (boo false)); let e9 := (some (@AV.own 3 (xs).length 9)); let e10 := (some (@Blk.mk [] 45 (some (@Rw.mk ((@trmN K T e4)).length 9 (@qrow (@trmN K T e4)))))); let e11 := (some (@Blk.mk [] 45 (some (@Rw.mk (xs).length 9 (@qrow xs))))); let e12 := (some (@Blk.mk [e1, (int (@innA T e4))] 55 none)); let e13 := ((xs).length + ((@trmN K T e4)).length); (.need (@isSo (@And (e2 = e2) (@And ([e3] = [e3]) (@InT T a)))) (.fork (@wordB T a s) (.need (@isSo (@And (e5 = e5) (@And (([] : List AV) = []) (@TrmC K T e4)))) (.fork (!(@trmB K T e4)) (.leaf (Ex.ret, ((e6 :: (some (int k)) :: (some e3) :: (nn5 (e7 :: e8 :: e9 :: (some (int c)) :: (nn26 [])))), (@Mem.mk (4 + 1) ((0 + 1) + 1) (e10 :: [e11, none, none, e12]))))) (.need ((@Option.rec _ (fun _ => Bool) true (fun y0 => (@Option.rec _ (fun _ => Bool) true (fun y1 => (@Nat.ble ((@trmN K T e4)).length (y1).n)) (y0).rows)) e10) && ((@Nat.ble (xs).length (xs).length) && ((@Nat.ble (e13 * 72) 140737488355328) && (@Nat.ble e13 17592186044416)))) (.leaf (Ex.norm, ((e6 :: (some (int k)) :: (some e3) :: (nn5 (e7 :: e8 :: (some (@AV.own (4 + 1) e13 9)) :: (some (int (w64 (c + (1 : Int))))) :: (nn26 [])))), (@Mem.mk ((4 + 1) + 1) (((0 + 1) + 1) + 1) ((some (@Blk.mk [] 45 (some (@Rw.mk e13 9 (@appc (xs).length (@qrow xs) (@qrow (@trmN K T e4))))))) :: (e10 :: [none, none, none, e12]))))))))) (.leaf ((@Ex.exit 0), ((e6 :: (some (int k)) :: (some e3) :: (nn5 (e7 :: e8 :: e9 :: (some (int c)) :: (nn26 [])))), (@Mem.mk 4 (0 + 1) [e11, none, none, e5]))))))) (by kernel_rfl) ?_
    have hw : InT T (wordA T a s) := wordA_in h1
    have hC := hT.at hw
    have hsk := skI_le h1'.1 h1'.2
    refine need_so ⟨rfl, rfl, h1⟩ (fork_ok (fun c1 => need_so ⟨rfl, rfl, hC⟩ (fork_ok (fun c2 => ?_) (fun c2 => ?_))) (fun c1 => ?_))
    · have c2 := n_t c2
      have e : chnE K T s (n + 1) a xs c = ⟨xs, c, innA T (wordA T a s), false⟩ := by
        show (if wordB T a s = true then _ else _) = _
        rw [if_pos c1, if_neg (by rw [c2]; simp)]
      rw [e]
      exact ⟨_, _, [0, 1, 2, 3], rfl, chG_ren k s rfl rfl, chB_ren (by decide) rfl rfl rfl (QRows.base _), .inr ⟨rfl, rfl, rfl, rfl⟩⟩
    · have c2 := n_f c2
      have e : chnE K T s (n + 1) a xs c = chnE K T s n (innA T (wordA T a s)) (xs ++ trmN K T (wordA T a s)) (c + 1) := by
        show (if wordB T a s = true then _ else _) = _
        rw [if_pos c1, if_pos c2]
      rw [e]
      have hwa : wordA T a s = skI T a + 1 := by unfold wordA; rw [if_pos c1]
      have hlen := trmN_len K hK hC c2
      have hi := innA_in hw
      have hi' := hi.1
      refine need_t ?_ ?_
      · show (Nat.ble (trmN K T (wordA T a s)).length (trmN K T (wordA T a s)).length && _) = true
        simp only [Bool.and_eq_true, Nat.ble_eq]
        omega
      · refine LoopToT.ren [0, 1, 2, 5] rfl (chG_ren k s (by simp) (w64_in (by omega))) (chB_ren (by decide) rfl rfl rfl (QRows.app (QRows.base _) (QRows.base _))) (ih _ _ _ hi (by rw [List.length_append]; omega) (by omega) (by omega) (by omega))
    · have e : chnE K T s (n + 1) a xs c = ⟨xs, c, wordA T a s, true⟩ := by
        show (if wordB T a s = true then _ else _) = _
        rw [if_neg (by rw [c1]; simp)]
      rw [e]
      exact ⟨_, _, [0, 1, 2, 3], rfl, chG_ren k s rfl rfl, chB_ren (by decide) rfl rfl rfl (QRows.base _), .inl ⟨rfl, rfl, rfl, rfl⟩⟩
def chnR (K : CnK) (T : List TokV) (s : ByteArray) (a : Int) (xs : List QNodeV) : ChR := chnE K T s (T.length + 1) (innA T (wordA T a s)) (xs ++ trmN K T (wordA T a s)) 2
theorem Sy.chn_first (K : CnK) (hK : K.Ok) (T : List TokV) (hT : TrmK K T) (k : Int) (s : ByteArray) (a b : Int) (xs : List QNodeV) (h1 : InT T a) (h2 : (xs.length : Int) ≤ a) (h3 : 1 ≤ a) (hw1 : wordB T a s = true) :
    LoopToT 3 Try.prog (theBody Try.prog 46 3) (T.length + 2) (chG k s 1 xs.length 1) (chA T a b xs) (RG 3 fun ex F M => (trmB K T (wordA T a s) = true ∧ ChEnd k s T (chnR K T s a xs) ex F M) ∨ (trmB K T (wordA T a s) = false ∧ ex = .ret ∧ F = chG k s 1 xs.length 1 ∧ M = ⟨3, 0, [none, some (qB xs), some (rdB T (innA T (wordA T a s)))]⟩)) := by
  have hl := hT.lim
  have h1' := h1.1
  refine roundT plain mixed 3 [cWord T, cTrm K hK T] [] 400 30 46 3 Try.func46 rfl (by kernel_rfl) (true :: true :: true :: (ff5 (true :: true :: true :: true :: (ff26 [])))) (.yes (.br (.yes (.br .done (.yes .done))) .done)) (let c : Int := 1; (let e1 := (@AV.view (T).length 3 (fun y0 => (fun y1 => (@AV.lit ([(@Value.int IntKind.i64 ((T.getD y0 tok0)).kind), (@Value.string ((T.getD y0 tok0)).text), (@Value.int IntKind.i64 ((T.getD y0 tok0)).n)].getD y1 (@Value.tuple (@Array.mk _ []))))))); let e2 := (some (@Blk.mk [e1, (int a)] 55 none)); let e3 := (@AV.lit (@Value.string s)); let e4 := (@wordA T a s); let e5 := (some (@Blk.mk [e1, (int e4)] 55 none)); let e6 := (some (@AV.ptr 0 0)); let e7 := (some (@AV.lit (@Value.slice none 0 0))); let e8 := (some (boo false)); let e9 := (some (@AV.own 1 (xs).length 9)); let e10 := (some (@Blk.mk [] 45 (some (@Rw.mk ((@trmN K T e4)).length 9 (@qrow (@trmN K T e4)))))); let e11 := (some (@Blk.mk [e1, (int b)] 55 none)); let e12 := (some (@Blk.mk [] 45 (some (@Rw.mk (xs).length 9 (@qrow xs))))); let e13 := (some (@Blk.mk [e1, (int (@innA T e4))] 55 none)); let e14 := ((xs).length + ((@trmN K T e4)).length); (.need (@isSo (@And (e2 = e2) (@And ([e3] = [e3]) (@InT T a)))) (.fork (@wordB T a s) (.need (@isSo (@And (e5 = e5) (@And (([] : List AV) = []) (@TrmC K T e4)))) (.fork (!(@trmB K T e4)) (.leaf (Ex.ret, ((e6 :: (some (int k)) :: (some e3) :: (nn5 (e7 :: e8 :: e9 :: (some (int c)) :: (nn26 [])))), (@Mem.mk (3 + 1) ((0 + 1) + 1) (e10 :: [e11, e12, e13]))))) (.need ((@Option.rec _ (fun _ => Bool) true (fun y0 => (@Option.rec _ (fun _ => Bool) true (fun y1 => (@Nat.ble ((@trmN K T e4)).length (y1).n)) (y0).rows)) e10) && ((@Nat.ble (xs).length (xs).length) && ((@Nat.ble (e14 * 72) 140737488355328) && (@Nat.ble e14 17592186044416)))) (.leaf (Ex.norm, ((e6 :: (some (int k)) :: (some e3) :: (nn5 (e7 :: e8 :: (some (@AV.own (3 + 1) e14 9)) :: (some (int (w64 (c + (1 : Int))))) :: (nn26 [])))), (@Mem.mk ((3 + 1) + 1) (((0 + 1) + 1) + 1) ((some (@Blk.mk [] 45 (some (@Rw.mk e14 9 (@appc (xs).length (@qrow xs) (@qrow (@trmN K T e4))))))) :: (e10 :: [e11, none, e13]))))))))) (.leaf ((@Ex.exit 0), ((e6 :: (some (int k)) :: (some e3) :: (nn5 (e7 :: e8 :: e9 :: (some (int c)) :: (nn26 [])))), (@Mem.mk 3 (0 + 1) [e11, e12, e5])))))))) (by kernel_rfl) ?_
  have hw : InT T (wordA T a s) := wordA_in h1
  have hC := hT.at hw
  have hsk := skI_le h1'.1 h1'.2
  refine need_so ⟨rfl, rfl, h1⟩ (fork_t hw1 (need_so ⟨rfl, rfl, hC⟩ (fork_ok (fun c2 => ?_) (fun c2 => ?_))))
  · have c2 := n_t c2
    refine ⟨_, _, [0, 1, 2], rfl, ?_, ?_, .inr ⟨c2, rfl, rfl, rfl⟩⟩
    · simp only [RenF, and_true]
      exact ⟨⟨rfl, rfl⟩, rfl, rfl, rfl, rfl, ⟨rfl, rfl, rfl⟩, rfl⟩
    · refine .of rfl rfl (by decide) ⟨⟨1, _, rfl, rfl, rfl, trivial, rfl, rfl, fun i j hi hj => RenV.free _ trivial⟩, ⟨0, _, rfl, rfl, rfl, ⟨RenV.free _ (kv_free T), rfl, trivial⟩, trivial⟩, trivial⟩
  · have c2 := n_f c2
    have hwa : wordA T a s = skI T a + 1 := by unfold wordA; rw [if_pos hw1]
    have hlen := trmN_len K hK hC c2
    have hi := innA_in hw
    have hi' := hi.1
    have hg := chn_loop K hK T hT k s (T.length + 1) (innA T (wordA T a s)) (xs ++ trmN K T (wordA T a s)) 2 hi (by rw [List.length_append]; omega) (by omega) (by omega) (by omega)
    refine need_t ?_ ?_
    · show (Nat.ble (trmN K T (wordA T a s)).length (trmN K T (wordA T a s)).length && _) = true
      simp only [Bool.and_eq_true, Nat.ble_eq]
      omega
    · refine LoopToT.ren [0, 1, 2, 4] rfl (chG_ren k s (by simp) rfl) (chB_ren (by decide) rfl rfl rfl (QRows.app (QRows.base _) (QRows.base _))) (hg.mono fun ex F M hg => ?_)
      obtain ⟨F2, M2, l, q1, q2, q3, q4⟩ := hg
      exact ⟨F2, M2, l, q1, q2, q3, .inl ⟨c2, q4⟩⟩
namespace Sy
structure ChX where
  k : Int
  s : ByteArray
  b : Int
  z : Nat
noncomputable def chGet (F : Fr) (M : Mem) : Option ChX := match nth F 1 with
  | some (some (.lit (.int .i64 k))) => (match nth F 2 with
    | some (some (.lit (.string s))) => (match M.get 2 with
      | some ⟨[_, .lit (.int .i64 b)], _, none⟩ => some ⟨k, s, b, M.stamp⟩
      | _ => none)
    | _ => none)
  | _ => none
noncomputable abbrev lpChn (K : CnK) (hK : K.Ok) (T : List TokV) (a : Int) (xs : List QNodeV) : Lp Try.prog where
  f := 46
  key := 3
  S := formS chGet (fun x => chG x.k x.s 1 xs.length 1) (fun x => ⟨3, x.z, [some (rdB T x.b), some (qB xs), some (rdB T a)]⟩) (fun x => (TrmK K T ∧ InT T a) ∧ ((xs.length : Int) ≤ a ∧ 1 ≤ a) ∧ wordB T a x.s = true)
    (fun x => .fork (trmB K T (wordA T a x.s)) (.fork (chnR K T x.s a xs).ok (.leaf (.exit 0, chG x.k x.s 3 (chnR K T x.s a xs).N.length (chnR K T x.s a xs).c, chB T (chnR K T x.s a xs).a (chnR K T x.s a xs).N)) (.leaf (.ret, chG x.k x.s 3 (chnR K T x.s a xs).N.length (chnR K T x.s a xs).c, chB T (chnR K T x.s a xs).a (chnR K T x.s a xs).N))) (.leaf (.ret, chG x.k x.s 1 xs.length 1, ⟨3, 0, [none, some (qB xs), some (rdB T (innA T (wordA T a x.s)))]⟩))) (true :: true :: true :: (ff5 (true :: true :: true :: true :: (ff26 []))))
  one := by kernel_rfl
  ok := formS_ok fun x ⟨⟨h1, h2⟩, ⟨h3, h4⟩, h5⟩ => by
    refine ⟨T.length + 2, ?_⟩
    have key := LoopToT.to (T := 3) (LoopToT.out (chn_first K hK T h1 x.k x.s a x.b xs h2 h3 h4 h5)) (Nat.le_refl 3)
    refine (LoopTo.stampB 0 key).mono fun ex F M hg => ?_
    rcases hg with ⟨q1, ⟨q2, rfl, rfl, rfl⟩ | ⟨q2, rfl, rfl, rfl⟩⟩ | ⟨q1, rfl, rfl, rfl⟩
    · exact .inl ⟨q1, .inl ⟨q2, rfl⟩⟩
    · exact .inl ⟨q1, .inr ⟨q2, rfl⟩⟩
    · exact .inr ⟨q1, rfl⟩
end Sy
end Go.Proofs.Ytlmanlpgknhfpaa
namespace Go.Proofs.Ytlmanlpgknhfpaa
open Go Go.RowKit Pl Sy
def cn0 (T : List TokV) (a : Int) : Int := wordA T a ⟨⟨[110, 111, 116]⟩⟩
def cn1 (T : List TokV) (a : Int) : Int := skI T (innA T (cn0 T a))
def cnAnd (K : CnK) (T : List TokV) (a : Int) : ChR := chnR K T ⟨⟨[97, 110, 100]⟩⟩ (cn1 T a) (trmN K T (cn0 T a))
def cnOr (K : CnK) (T : List TokV) (a : Int) : ChR := chnR K T ⟨⟨[111, 114]⟩⟩ (cn1 T a) (trmN K T (cn0 T a))
def andB (T : List TokV) (a : Int) : Bool := wordB T (cn1 T a) ⟨⟨[97, 110, 100]⟩⟩
def orB (T : List TokV) (a : Int) : Bool := wordB T (wordA T (cn1 T a) ⟨⟨[97, 110, 100]⟩⟩) ⟨⟨[111, 114]⟩⟩
def andT (K : CnK) (T : List TokV) (a : Int) : Bool := trmB K T (wordA T (cn1 T a) ⟨⟨[97, 110, 100]⟩⟩)
def orT (K : CnK) (T : List TokV) (a : Int) : Bool := trmB K T (wordA T (cn1 T a) ⟨⟨[111, 114]⟩⟩)
def qNode (k c : Int) : QNodeV := ⟨k, c, 0, 0, 0, 0, 0, 0, 0⟩
def cnG {α : Type} (K : CnK) (T : List TokV) (a : Int) (not_ bad one and_ af1 af0 or_ of1 of0 fall : α) : α :=
  if wordB T a ⟨⟨[110, 111, 116]⟩⟩ then not_ else if trmB K T (cn0 T a) then (if doneB T (innA T (cn0 T a)) then one else if andB T a then (if andT K T a then (if (cnAnd K T a).ok then and_ else af1) else af0) else if orB T a then (if orT K T a then (if (cnOr K T a).ok then or_ else of1) else of0) else fall) else bad
def cndN (K : CnK) (T : List TokV) (a : Int) : List QNodeV := cnG K T a (qNode 3 1 :: trmN K T (cn0 T a)) (trmN K T (cn0 T a)) (trmN K T (cn0 T a)) (qNode 1 (cnAnd K T a).c :: (cnAnd K T a).N) [] [] (qNode 2 (cnOr K T a).c :: (cnOr K T a).N) [] [] []
def cndB (K : CnK) (T : List TokV) (a : Int) : Bool := cnG K T a (trmB K T (cn0 T a) && doneB T (innA T (cn0 T a))) false true (doneB T (cnAnd K T a).a) false false (doneB T (cnOr K T a).a) false false false
def cndA (K : CnK) (T : List TokV) (a : Int) : Int := cnG K T a (if trmB K T (cn0 T a) then cn1 T a else innA T (cn0 T a)) (innA T (cn0 T a)) (cn1 T a) (skI T (cnAnd K T a).a) (cnAnd K T a).a (innA T (wordA T (cn1 T a) ⟨⟨[97, 110, 100]⟩⟩)) (skI T (cnOr K T a).a) (cnOr K T a).a (innA T (wordA T (cn1 T a) ⟨⟨[111, 114]⟩⟩)) (cn1 T a)
theorem chnE_in (K : CnK) (hK : K.Ok) {T : List TokV} (hT : TrmK K T) (s : ByteArray) : ∀ (n : Nat) (a : Int) (xs : List QNodeV) (c : Int), InT T a → (xs.length : Int) ≤ a → InT T (chnE K T s n a xs c).a ∧ ((chnE K T s n a xs c).N.length : Int) ≤ (chnE K T s n a xs c).a := by
  intro n
  induction n with
  | zero => intro a xs c h1 h2; exact ⟨h1, h2⟩
  | succ n ih =>
    intro a xs c h1 h2
    have hw : InT T (wordA T a s) := wordA_in h1
    have hsk := skI_le h1.1.1 h1.1.2
    unfold chnE
    split
    · rename_i c1
      have hwa : wordA T a s = skI T a + 1 := by unfold wordA; rw [if_pos c1]
      split
      · rename_i c2
        have hlen := trmN_len K hK (hT.at hw) c2
        exact ih _ _ _ (innA_in hw) (by rw [List.length_append]; omega)
      · refine ⟨innA_in hw, ?_⟩
        have h3 : wordA T a s ≤ innA T (wordA T a s) := by
          have h4 := skI_le hw.1.1 hw.1.2
          unfold innA
          split
          · rename_i hb
            have := inn_in hw hb
            omega
          · omega
        show (xs.length : Int) ≤ innA T (wordA T a s)
        omega
    · refine ⟨hw, ?_⟩
      show (xs.length : Int) ≤ wordA T a s
      unfold wordA
      split <;> omega
theorem chnR_in (K : CnK) (hK : K.Ok) {T : List TokV} (hT : TrmK K T) (s : ByteArray) {a : Int} {xs : List QNodeV} (h1 : InT T a) (h2 : (xs.length : Int) ≤ a) (hw1 : wordB T a s = true) (hb : trmB K T (wordA T a s) = true) : InT T (chnR K T s a xs).a ∧ ((chnR K T s a xs).N.length : Int) ≤ (chnR K T s a xs).a := by
  have hw : InT T (wordA T a s) := wordA_in h1
  have hsk := skI_le h1.1.1 h1.1.2
  have hwa : wordA T a s = skI T a + 1 := by unfold wordA; rw [if_pos hw1]
  have hlen := trmN_len K hK (hT.at hw) hb
  exact chnE_in K hK hT s _ _ _ _ (innA_in hw) (by rw [List.length_append]; omega)
theorem Sy.QRows.one (k c : Int) {f : Nat → Nat → AV} (h : ∀ j, j < 9 → f 0 j = qrow [qNode k c] 0 j) : QRows 1 f [qNode k c] := ⟨rfl, fun i j hi hj => by
  obtain rfl : i = 0 := by omega
  exact h j hj⟩
theorem skI_idem {T : List TokV} {a : Int} (h : InT T a) : skI T (skI T a) = skI T a := by
  have h1 := skI_in h
  obtain ⟨κ, hκ⟩ := Int.eq_ofNat_of_zero_le h1.1.1
  have hst : ∀ k, skp T (skp T k) = skp T k := fun k => by
    have key : ∀ n k, T.length - k ≤ n → skp T (skp T k) = skp T k := by
      intro n
      induction n with
      | zero => intro k hk; rw [skp_step T k, if_neg (by omega), skp_step T k, if_neg (by omega)]
      | succ n ih =>
        intro k hk
        rw [skp_step T k]
        split
        · rename_i hc
          exact ih (k + 1) (by omega)
        · rename_i hc
          rw [skp_step T k, if_neg hc]
    exact key _ k (Nat.le_refl _)
  unfold skI
  rw [Int.toNat_natCast, hst]
theorem wordB_skip {T : List TokV} {a : Int} (h : InT T a) (s : ByteArray) : wordB T (skI T a) s = wordB T a s := by
  unfold wordB
  rw [skI_idem h]
theorem orB_here {T : List TokV} {a : Int} (h1 : InT T (cn1 T a)) (c4 : wordB T (cn1 T a) ⟨⟨[97, 110, 100]⟩⟩ = false) (c7 : wordB T (wordA T (cn1 T a) ⟨⟨[97, 110, 100]⟩⟩) ⟨⟨[111, 114]⟩⟩ = true) : wordB T (cn1 T a) ⟨⟨[111, 114]⟩⟩ = true := by
  have e : wordA T (cn1 T a) ⟨⟨[97, 110, 100]⟩⟩ = skI T (cn1 T a) := by unfold wordA; rw [if_neg (by rw [c4]; simp)]
  rw [e, wordB_skip h1] at c7
  exact c7
theorem trmN_bd (K : CnK) (hK : K.Ok) {T : List TokV} {a : Int} (h : TrmC K T a) : (trmN K T a).length ≤ T.length + 1 := by
  unfold trmN
  split
  · rename_i hb
    split
    · simp
    · rename_i hf
      have h1 := hK.len _ (h.2 hb (by simpa using hf))
      have h2 := innL_len h.1.1 hb
      have h3 := inn_in h.1.1 hb
      have h4 := (skI_in h.1.1).1
      omega
  · simp
theorem Sy.cnd_t (K : CnK) (hK : K.Ok) (T : List TokV) (hT : TrmK K T) (a : Int) (h : InT T a) : CallTo Try.prog 26 [.ptr 0 0] (rdM T a) (QEnd T (cndA K T a) (cndN K T a) (cndB K T a)) :=
  QPre.end (to (G := fun r => QPre T (cndA K T a) (cndN K T a) (cndB K T a) r.1 r.2) [cWord T, cTrm K hK T, cDone T] [lpChn K hK T (cn1 T a) (trmN K T (cn0 T a))] 400 30 (.yes (.br (.yes (.yes (.br (.auto 0 (.yes (.auto 0 .done))) (.auto 1 .done)))) (.yes (.br (.auto 0 (.yes (.auto 0 (.br .done (.yes (.br (.br (.br (.yes (.yes .done)) .done) .done) (.yes (.br (.br (.br (.yes (.yes .done)) .done) .done) .done)))))))) (.auto 2 .done))))) (let e1 := (@AV.view (T).length 3 (fun y0 => (fun y1 => (@AV.lit ([(@Value.int IntKind.i64 ((T.getD y0 tok0)).kind), (@Value.string ((T.getD y0 tok0)).text), (@Value.int IntKind.i64 ((T.getD y0 tok0)).n)].getD y1 (@Value.tuple (@Array.mk _ []))))))); let e2 := (some (@Blk.mk [e1, (int a)] 55 none)); let e3 := (@ByteArray.mk (@Array.mk _ [(110 : UInt8), (111 : UInt8), (116 : UInt8)])); let e4 := (@wordA T a e3); let e5 := (some (@Blk.mk [e1, (int e4)] 55 none)); let e6 := (([] : List AV) = []); let e7 := (@isSo (@And (e5 = e5) (@And e6 (@TrmC K T e4)))); let e8 := (some (@Blk.mk [] 45 (some (@Rw.mk ((@trmN K T e4)).length 9 (@qrow (@trmN K T e4)))))); let e9 := (1 + ((@trmN K T e4)).length); let e10 := (some (@Blk.mk [e1, (int (@innA T e4))] 55 none)); let e11 := (@isSo (@And (e10 = e10) (@And e6 (@InT T (@innA T e4))))); let e12 := ((1 + 1) + 1); let e13 := (((0 + 1) + 1) + 1); let e14 := ((e13 + 1) + 1); let e15 := (int (0 : Int)); let e16 := (@Value.int IntKind.i64 (0 : Int)); let e17 := (@Array.toList _ (@Array.mk _ [e16, e16, e16, e16, e16, e16, e16, e16, e16])); let e18 := (@List.map _ _ AV.lit e17); let e19 := (@List.map _ _ AV.lit (@Array.toList _ (@Array.mk _ [(@List.get _ e17 (@Fin.mk _ 0 (@Nat.le_of_ble_eq_true _ _ (@Eq.refl _ true)))), (@List.get _ e17 (@Fin.mk _ 1 (@Nat.le_of_ble_eq_true _ _ (@Eq.refl _ true)))), (@List.get _ e17 (@Fin.mk _ 2 (@Nat.le_of_ble_eq_true _ _ (@Eq.refl _ true)))), (@List.get _ e17 (@Fin.mk _ 3 (@Nat.le_of_ble_eq_true _ _ (@Eq.refl _ true)))), (@List.get _ e17 (@Fin.mk _ 4 (@Nat.le_of_ble_eq_true _ _ (@Eq.refl _ true)))), (@List.get _ e17 (@Fin.mk _ 5 (@Nat.le_of_ble_eq_true _ _ (@Eq.refl _ true)))), (@List.get _ e17 (@Fin.mk _ 6 (@Nat.le_of_ble_eq_true _ _ (@Eq.refl _ true)))), (@List.get _ e17 (@Fin.mk _ 7 (@Nat.le_of_ble_eq_true _ _ (@Eq.refl _ true)))), (@List.get _ e17 (@Fin.mk _ 8 (@Nat.le_of_ble_eq_true _ _ (@Eq.refl _ true))))]))); let e20 := (some (@Blk.mk [] 45 (some (@Rw.mk e9 9 (@appc 1 (fun y0 => (fun y1 => (@getA ((int (3 : Int)) :: (int (1 : Int)) :: e15 :: e15 :: e15 :: e15 :: e15 :: e15 :: e15 :: (@List.drop _ (0 + (((int (3 : Int)) :: (int (1 : Int)) :: (@List.drop _ 2 ((int (3 : Int)) :: (@List.drop _ 1 e18))))).length) e19)) ((y0 * 9) + y1)))) (@qrow (@trmN K T e4))))))); let e21 := (@skI T (@innA T e4)); let e22 := (some (@Blk.mk [e1, (int e21)] 55 none)); let e23 := (@AV.own 1 ((@trmN K T e4)).length 9); let e24 := (@AV.tup [e23, (boo (@trmB K T e4))]); let e25 := (@AV.lit (@Value.slice none 0 0)); let e26 := (@ByteArray.mk (@Array.mk _ [(97 : UInt8), (110 : UInt8), (100 : UInt8)])); let e27 := (@AV.lit (@Value.string e26)); let e28 := (some (@AV.ptr 0 0)); let e29 := (some (int (1 : Int))); let e30 := (some (boo false)); let e31 := (int (Int.ofNat 1)); let e32 := (@trmN K T (@cn0 T a)); let e33 := (some (@AV.own 1 (e32).length 9)); let e34 := (@wordA T e21 e26); let e35 := (some (@Blk.mk [e1, (int e34)] 55 none)); let e36 := (some (@Blk.mk [] 45 (some (@Rw.mk (e32).length 9 (@qrow e32))))); let e37 := (@cn1 T a); let e38 := (some (@Blk.mk [e1, (int e37)] 55 none)); let e39 := (@And (@TrmK K T) (@InT T e37)); let e40 := (@And ((((e32).length : Nat) : Int) ≤ e37) ((1 : Int) ≤ e37)); let e41 := (((@chnR K T e26 e37 e32)).N); let e42 := (@qrow ((@chnR K T e26 e37 e32)).N); let e43 := (some (@Blk.mk [] 45 (some (@Rw.mk e41.length 9 e42)))); let e44 := (1 + e41.length); let e45 := (some (@Blk.mk [e1, (int ((@chnR K T e26 e37 e32)).a)] 55 none)); let e46 := (int ((@chnR K T e26 e37 e32)).c); let e47 := (@AV.tup [e25, (boo false)]); let e48 := (@ByteArray.mk (@Array.mk _ [(111 : UInt8), (114 : UInt8)])); let e49 := (@AV.lit (@Value.string e48)); let e50 := (int (Int.ofNat 2)); let e51 := (some (@Blk.mk [e1, (int (@wordA T e34 e48))] 55 none)); let e52 := (@Mem.mk e12 (e14 + 1) (e51 :: (e8 :: [e22]))); let e53 := (((@chnR K T e48 e37 e32)).N); let e54 := (@qrow ((@chnR K T e48 e37 e32)).N); let e55 := (some (@Blk.mk [] 45 (some (@Rw.mk e53.length 9 e54)))); let e56 := (1 + e53.length); let e57 := (some (@Blk.mk [e1, (int ((@chnR K T e48 e37 e32)).a)] 55 none)); let e58 := (int ((@chnR K T e48 e37 e32)).c); (.need (@isSo (@And (e2 = e2) (@And ([(@AV.lit (@Value.string e3))] = [(@AV.lit (@Value.string e3))]) (@InT T a)))) (.fork (@wordB T a e3) (.need e7 (.need ((@Option.rec _ (fun _ => Bool) true (fun y0 => (@Option.rec _ (fun _ => Bool) true (fun y1 => (@Nat.ble ((@trmN K T e4)).length (y1).n)) (y0).rows)) e8) && ((@Nat.ble 1 1) && ((@Nat.ble (e9 * 72) 140737488355328) && (@Nat.ble e9 17592186044416)))) (.fork (@trmB K T e4) (.need e11 (.leaf ((@AV.tup [(@AV.own e12 e9 9), (boo (@doneB T (@innA T e4)))]), (@Mem.mk (e12 + 1) e14 (e20 :: (none :: e8 :: [e22])))))) (.leaf ((@AV.tup [(@AV.own e12 e9 9), (boo false)]), (@Mem.mk (e12 + 1) (e13 + 1) (e20 :: (none :: e8 :: [e10])))))))) (.need e7 (.fork (!(!(@trmB K T e4))) (.need e11 (.fork (@doneB T (@innA T e4)) (.leaf (e24, (@Mem.mk (1 + 1) e13 (e8 :: [e22])))) (.need (@isSo (@And ((some (@Blk.mk (e1 :: (int e21) :: (@List.drop _ (0 + ([e1, (int e21)]).length) [e25, e15])) 55 none)) = e22) (@And ([e27] = [e27]) (@InT T e21)))) (.fork (@wordB T e21 e26) (.need (@isSo (@And ((e28 :: e29 :: (some e27) :: none :: (none :: none :: none :: none :: (some e25) :: e30 :: (some e23) :: e29 :: (nn26 []))) = (e28 :: (some e31) :: (some e27) :: (nn5 ((some e25) :: e30 :: e33 :: e29 :: (nn26 []))))) ((@Mem.mk e12 e14 (e35 :: (e8 :: [e22]))) = (@Mem.mk 3 e14 [e35, e36, e38])))) (.need (@isSo (@And e39 (@And e40 ((@wordB T e37 e26) = true)))) (.fork (@trmB K T (@wordA T e37 e26)) (.fork ((@chnR K T e26 e37 e32)).ok (.need ((@Option.rec _ (fun _ => Bool) true (fun y0 => (@Option.rec _ (fun _ => Bool) true (fun y1 => (@Nat.ble e41.length (y1).n)) (y0).rows)) e43) && ((@Nat.ble 1 1) && ((@Nat.ble (e44 * 72) 140737488355328) && (@Nat.ble e44 17592186044416)))) (.need (@isSo (@And (e45 = e45) (@And e6 (@InT T ((@chnR K T e26 e37 e32)).a)))) (.leaf ((@AV.tup [(@AV.own (4 + 1) e44 9), (boo (@doneB T ((@chnR K T e26 e37 e32)).a))]), (@Mem.mk ((4 + 1) + 1) e13 ((some (@Blk.mk [] 45 (some (@Rw.mk e44 9 (@appc 1 (fun y0 => (fun y1 => (@getA (e31 :: (e46 :: (e15 :: e15 :: e15 :: e15 :: e15 :: e15 :: e15 :: (@List.drop _ (0 + ((e31 :: (e46 :: (@List.drop _ (1 + ([e46]).length) (e31 :: (@List.drop _ (0 + ([e31]).length) e18)))))).length) e19)))) ((y0 * 9) + y1)))) e42))))) :: [none, e43, none, none, (some (@Blk.mk [e1, (int (@skI T ((@chnR K T e26 e37 e32)).a))] 55 none))])))))) (.leaf (e47, (@Mem.mk 4 0 [e43, none, none, e45])))) (.leaf (e47, (@Mem.mk 3 0 [none, e36, (some (@Blk.mk [e1, (int (@innA T (@wordA T e37 e26)))] 55 none))])))))) (.need (@isSo (@And (e35 = e35) (@And ([e49] = [e49]) (@InT T e34)))) (.fork (@wordB T e34 e48) (.need (@isSo (@And ((e28 :: (some (int (2 : Int))) :: (some e49) :: none :: (none :: none :: none :: none :: (some e25) :: e30 :: (some e23) :: e29 :: (nn26 []))) = (e28 :: (some e50) :: (some e49) :: (nn5 ((some e25) :: e30 :: e33 :: e29 :: (nn26 []))))) (e52 = (@Mem.mk 3 (e14 + 1) [e51, e36, e38])))) (.need (@isSo (@And e39 (@And e40 ((@wordB T e37 e48) = true)))) (.fork (@trmB K T (@wordA T e37 e48)) (.fork ((@chnR K T e48 e37 e32)).ok (.need ((@Option.rec _ (fun _ => Bool) true (fun y0 => (@Option.rec _ (fun _ => Bool) true (fun y1 => (@Nat.ble e53.length (y1).n)) (y0).rows)) e55) && ((@Nat.ble 1 1) && ((@Nat.ble (e56 * 72) 140737488355328) && (@Nat.ble e56 17592186044416)))) (.need (@isSo (@And (e57 = e57) (@And e6 (@InT T ((@chnR K T e48 e37 e32)).a)))) (.leaf ((@AV.tup [(@AV.own (4 + 1) e56 9), (boo (@doneB T ((@chnR K T e48 e37 e32)).a))]), (@Mem.mk ((4 + 1) + 1) e13 ((some (@Blk.mk [] 45 (some (@Rw.mk e56 9 (@appc 1 (fun y0 => (fun y1 => (@getA (e50 :: (e58 :: (e15 :: e15 :: e15 :: e15 :: e15 :: e15 :: e15 :: (@List.drop _ (0 + ((e50 :: (e58 :: (@List.drop _ (1 + ([e58]).length) (e50 :: (@List.drop _ (0 + ([e50]).length) e18)))))).length) e19)))) ((y0 * 9) + y1)))) e54))))) :: [none, e55, none, none, (some (@Blk.mk [e1, (int (@skI T ((@chnR K T e48 e37 e32)).a))] 55 none))])))))) (.leaf (e47, (@Mem.mk 4 0 [e55, none, none, e57])))) (.leaf (e47, (@Mem.mk 3 0 [none, e36, (some (@Blk.mk [e1, (int (@innA T (@wordA T e37 e48)))] 55 none))])))))) (.leaf (e47, e52)))))))) (.leaf (e24, (@Mem.mk (1 + 1) ((0 + 1) + 1) (e8 :: [e10]))))))))) (by kernel_rfl) (by
    have hl := hT.lim
    have h0 : InT T (cn0 T a) := wordA_in h
    have hI : InT T (innA T (cn0 T a)) := innA_in h0
    have h1 : InT T (cn1 T a) := skI_in hI
    have hs1 := skI_le hI.1.1 hI.1.2
    have hlen : trmB K T (cn0 T a) = true → ((trmN K T (cn0 T a)).length : Int) + 1 ≤ cn1 T a := fun hb => by
      have := trmN_len K hK (hT.at h0) hb
      have := h0.1
      unfold cn1
      omega
    refine need_so ⟨rfl, rfl, h⟩ (fork_ok (fun c1 => need_so ⟨rfl, rfl, hT.at h0⟩ (need_t ?_ (fork_ok (fun c2 => need_so ⟨rfl, rfl, hI⟩ ?_) (fun c2 => ?_)))) (fun c1 => need_so ⟨rfl, rfl, hT.at h0⟩ (fork_ok (fun c2 => need_so ⟨rfl, rfl, hI⟩ (fork_ok (fun c3 => ?_) (fun c3 => ?_))) (fun c2 => ?_))))
    · have := trmN_bd K hK (hT.at h0)
      show (Nat.ble (trmN K T (cn0 T a)).length (trmN K T (cn0 T a)).length && (Nat.ble 1 1 && (Nat.ble ((1 + (trmN K T (cn0 T a)).length) * 72) 140737488355328 && Nat.ble (1 + (trmN K T (cn0 T a)).length) 17592186044416))) = true
      simp only [Bool.and_eq_true, Nat.ble_eq]
      omega
    · have c2 : trmB K T (cn0 T a) = true := c2
      simp only [cndN, cndB, cndA, cnG, *, if_true, Bool.false_eq_true, if_false, Bool.true_and, Bool.false_and]
      exact .inl ⟨3, _, _, rfl, rfl, rfl, by decide, QRows.app (xs := [qNode 3 1]) (QRows.one _ _ fun j hj => by
          rcases j with _ | _ | _ | _ | _ | _ | _ | _ | _ | j
          · exact rfl
          · exact rfl
          · exact rfl
          · exact rfl
          · exact rfl
          · exact rfl
          · exact rfl
          · exact rfl
          · exact rfl
          · omega) (QRows.base _)⟩
    · have c2 : trmB K T (cn0 T a) = false := c2
      simp only [cndN, cndB, cndA, cnG, *, if_true, Bool.false_eq_true, if_false, Bool.true_and, Bool.false_and]
      exact .inl ⟨3, _, _, rfl, rfl, rfl, by decide, QRows.app (xs := [qNode 3 1]) (QRows.one _ _ fun j hj => by
          rcases j with _ | _ | _ | _ | _ | _ | _ | _ | _ | j
          · exact rfl
          · exact rfl
          · exact rfl
          · exact rfl
          · exact rfl
          · exact rfl
          · exact rfl
          · exact rfl
          · exact rfl
          · omega) (QRows.base _)⟩
    · have c2 : trmB K T (cn0 T a) = true := n_f (n_t c2)
      have c3 : doneB T (innA T (cn0 T a)) = true := c3
      have e : trmB K T (wordA T a ⟨⟨[110, 111, 116]⟩⟩) = true := c2
      rw [e]
      simp only [cndN, cndB, cndA, cnG, *, if_true, Bool.false_eq_true, if_false, Bool.true_and, Bool.false_and]
      exact .inl ⟨1, _, _, rfl, rfl, rfl, by decide, QRows.base _⟩
    · have c2 : trmB K T (cn0 T a) = true := n_f (n_t c2)
      have c3 : doneB T (innA T (cn0 T a)) = false := c3
      have hln := hlen c2
      refine need_so ⟨rfl, rfl, h1⟩ (fork_ok (fun c4 => ?_) (fun c4 => ?_))
      · have c4' : andB T a = true := c4
        refine need_so ⟨rfl, rfl⟩ (need_so ⟨⟨hT, h1⟩, ⟨by omega, by omega⟩, c4⟩ (fork_ok (fun c5 => ?_) (fun c5 => ?_)))
        · have c5' : andT K T a = true := c5
          have hr := chnR_in K hK hT (xs := trmN K T (cn0 T a)) ⟨⟨[97, 110, 100]⟩⟩ h1 (by omega) c4 c5
          refine fork_ok (fun c6 => need_t ?_ (need_so ⟨rfl, rfl, hr.1⟩ ?_)) (fun c6 => ?_)
          · show (Nat.ble (cnAnd K T a).N.length (cnAnd K T a).N.length && (Nat.ble 1 1 && (Nat.ble ((1 + (cnAnd K T a).N.length) * 72) 140737488355328 && Nat.ble (1 + (cnAnd K T a).N.length) 17592186044416))) = true
            have hb1 : ((cnAnd K T a).N.length : Int) ≤ (cnAnd K T a).a := hr.2
            have hb2 : (cnAnd K T a).a ≤ T.length := hr.1.1.2
            simp only [Bool.and_eq_true, Nat.ble_eq]
            omega
          · have c6' : (cnAnd K T a).ok = true := c6
            simp only [cndN, cndB, cndA, cnG, *, if_true, Bool.false_eq_true, if_false, Bool.true_and, Bool.false_and]
            exact .inl ⟨5, _, _, rfl, rfl, rfl, by decide, QRows.app (xs := [qNode 1 (cnAnd K T a).c]) (QRows.one _ _ fun j hj => by
          rcases j with _ | _ | _ | _ | _ | _ | _ | _ | _ | j
          · exact rfl
          · exact rfl
          · exact rfl
          · exact rfl
          · exact rfl
          · exact rfl
          · exact rfl
          · exact rfl
          · exact rfl
          · omega) (QRows.base _)⟩
          · have c6' : (cnAnd K T a).ok = false := c6
            simp only [cndN, cndB, cndA, cnG, *, if_true, Bool.false_eq_true, if_false, Bool.true_and, Bool.false_and]
            exact .inr (.inl ⟨rfl, rfl, rfl⟩)
        · have c5' : andT K T a = false := c5
          simp only [cndN, cndB, cndA, cnG, *, if_true, Bool.false_eq_true, if_false, Bool.true_and, Bool.false_and]
          exact .inr (.inl ⟨rfl, rfl, rfl⟩)
      · have c4' : andB T a = false := c4
        refine need_so ⟨rfl, rfl, wordA_in h1⟩ (fork_ok (fun c7 => ?_) (fun c7 => ?_))
        · have c7' : orB T a = true := c7
          have c7o : wordB T (cn1 T a) ⟨⟨[111, 114]⟩⟩ = true := orB_here h1 c4 c7
          refine need_so ⟨rfl, rfl⟩ (need_so ⟨⟨hT, h1⟩, ⟨by omega, by omega⟩, c7o⟩ (fork_ok (fun c5 => ?_) (fun c5 => ?_)))
          · have c5' : orT K T a = true := c5
            have hr := chnR_in K hK hT (xs := trmN K T (cn0 T a)) ⟨⟨[111, 114]⟩⟩ h1 (by omega) c7o c5
            refine fork_ok (fun c6 => need_t ?_ (need_so ⟨rfl, rfl, hr.1⟩ ?_)) (fun c6 => ?_)
            · show (Nat.ble (cnOr K T a).N.length (cnOr K T a).N.length && (Nat.ble 1 1 && (Nat.ble ((1 + (cnOr K T a).N.length) * 72) 140737488355328 && Nat.ble (1 + (cnOr K T a).N.length) 17592186044416))) = true
              have hb1 : ((cnOr K T a).N.length : Int) ≤ (cnOr K T a).a := hr.2
              have hb2 : (cnOr K T a).a ≤ T.length := hr.1.1.2
              simp only [Bool.and_eq_true, Nat.ble_eq]
              omega
            · have c6' : (cnOr K T a).ok = true := c6
              simp only [cndN, cndB, cndA, cnG, *, if_true, Bool.false_eq_true, if_false, Bool.true_and, Bool.false_and]
              exact .inl ⟨5, _, _, rfl, rfl, rfl, by decide, QRows.app (xs := [qNode 2 (cnOr K T a).c]) (QRows.one _ _ fun j hj => by
          rcases j with _ | _ | _ | _ | _ | _ | _ | _ | _ | j
          · exact rfl
          · exact rfl
          · exact rfl
          · exact rfl
          · exact rfl
          · exact rfl
          · exact rfl
          · exact rfl
          · exact rfl
          · omega) (QRows.base _)⟩
            · have c6' : (cnOr K T a).ok = false := c6
              simp only [cndN, cndB, cndA, cnG, *, if_true, Bool.false_eq_true, if_false, Bool.true_and, Bool.false_and]
              exact .inr (.inl ⟨rfl, rfl, rfl⟩)
          · have c5' : orT K T a = false := c5
            simp only [cndN, cndB, cndA, cnG, *, if_true, Bool.false_eq_true, if_false, Bool.true_and, Bool.false_and]
            exact .inr (.inl ⟨rfl, rfl, rfl⟩)
        · have c7' : orB T a = false := c7
          simp only [cndN, cndB, cndA, cnG, *, if_true, Bool.false_eq_true, if_false, Bool.true_and, Bool.false_and]
          exact .inr (.inl ⟨rfl, rfl, rfl⟩)
    · have c2 : trmB K T (cn0 T a) = false := n_t (n_f c2)
      have e : trmB K T (wordA T a ⟨⟨[110, 111, 116]⟩⟩) = false := c2
      rw [e]
      simp only [cndN, cndB, cndA, cnG, *, if_true, Bool.false_eq_true, if_false, Bool.true_and, Bool.false_and]
      exact .inl ⟨1, _, _, rfl, rfl, rfl, by decide, QRows.base _⟩))
end Go.Proofs.Ytlmanlpgknhfpaa
namespace Go.Proofs.Ytlmanlpgknhfpaa
open Go Go.RowKit Pl Sy
theorem chnE_in1 (K : CnK) (hK : K.Ok) {T : List TokV} (hT : TrmK K T) (s : ByteArray) : ∀ (n : Nat) (a : Int) (xs : List QNodeV) (c : Int), InT T a → (xs.length : Int) + 1 ≤ a → ((chnE K T s n a xs c).N.length : Int) + 1 ≤ (chnE K T s n a xs c).a := by
  intro n
  induction n with
  | zero => intro a xs c h1 h2; exact h2
  | succ n ih =>
    intro a xs c h1 h2
    have hw : InT T (wordA T a s) := wordA_in h1
    have hsk := skI_le h1.1.1 h1.1.2
    unfold chnE
    split
    · rename_i c1
      have hwa : wordA T a s = skI T a + 1 := by unfold wordA; rw [if_pos c1]
      split
      · rename_i c2
        have hlen := trmN_len K hK (hT.at hw) c2
        exact ih _ _ _ (innA_in hw) (by rw [List.length_append]; omega)
      · have h3 : wordA T a s ≤ innA T (wordA T a s) := by
          have h4 := skI_le hw.1.1 hw.1.2
          unfold innA
          split
          · rename_i hb
            have := inn_in hw hb
            omega
          · omega
        show (xs.length : Int) + 1 ≤ innA T (wordA T a s)
        omega
    · show (xs.length : Int) + 1 ≤ wordA T a s
      unfold wordA
      split <;> omega
theorem chnR_in1 (K : CnK) (hK : K.Ok) {T : List TokV} (hT : TrmK K T) (s : ByteArray) {a : Int} {xs : List QNodeV} (h1 : InT T a) (h2 : (xs.length : Int) + 1 ≤ a) (hw1 : wordB T a s = true) (hb : trmB K T (wordA T a s) = true) : ((chnR K T s a xs).N.length : Int) + 1 ≤ (chnR K T s a xs).a := by
  have hw : InT T (wordA T a s) := wordA_in h1
  have hsk := skI_le h1.1.1 h1.1.2
  have hwa : wordA T a s = skI T a + 1 := by unfold wordA; rw [if_pos hw1]
  have hlen := trmN_len K hK (hT.at hw) hb
  exact chnE_in1 K hK hT s _ _ _ _ (innA_in hw) (by rw [List.length_append]; omega)
theorem trmN_le (K : CnK) (hK : K.Ok) {T : List TokV} {a : Int} (h : TrmC K T a) : a + ((trmN K T a).length : Int) ≤ T.length := by
  have h1 := h.1.1.1
  unfold trmN
  split
  · rename_i hb
    have h2 := innL_len h.1.1 hb
    have h3 := inn_in h.1.1 hb
    have h4 := skI_le h1.1 h1.2
    split
    · simp only [List.length_cons, List.length_nil]; omega
    · rename_i hf
      have := hK.len _ (h.2 hb (by simpa using hf))
      omega
  · simp only [List.length_nil]; omega
theorem cndN_len (K : CnK) (hK : K.Ok) {T : List TokV} (hT : TrmK K T) {a : Int} (h : InT T a) : ((cndN K T a).length : Int) ≤ T.length := by
  have h0 : InT T (cn0 T a) := wordA_in h
  have hI : InT T (innA T (cn0 T a)) := innA_in h0
  have h1 : InT T (cn1 T a) := skI_in hI
  have hs1 := skI_le hI.1.1 hI.1.2
  have hle := trmN_le K hK (hT.at h0)
  have h00 := h0.1.1
  have hlen : trmB K T (cn0 T a) = true → ((trmN K T (cn0 T a)).length : Int) + 1 ≤ cn1 T a := fun hb => by
    have := trmN_len K hK (hT.at h0) hb
    unfold cn1
    omega
  unfold cndN cnG
  split
  · rename_i c1
    have hsk := skI_le h.1.1 h.1.2
    have : cn0 T a = skI T a + 1 := by unfold cn0 wordA; rw [if_pos c1]
    have := h.1.1
    simp only [List.length_cons]
    omega
  · split
    · rename_i c2
      split
      · omega
      · split
        · rename_i c4
          split
          · rename_i c5
            split
            · have h2 := chnR_in1 K hK hT (xs := trmN K T (cn0 T a)) ⟨⟨[97, 110, 100]⟩⟩ h1 (hlen c2) c4 c5
              have h3 := (chnR_in K hK hT (xs := trmN K T (cn0 T a)) ⟨⟨[97, 110, 100]⟩⟩ h1 (by have := hlen c2; omega) c4 c5).1.1.2
              simp only [List.length_cons]
              unfold cnAnd
              omega
            · simp
          · simp
        · rename_i c4
          split
          · rename_i c7
            have c7o := orB_here h1 (by simpa [andB] using c4) c7
            split
            · rename_i c5
              split
              · have h2 := chnR_in1 K hK hT (xs := trmN K T (cn0 T a)) ⟨⟨[111, 114]⟩⟩ h1 (hlen c2) c7o c5
                have h3 := (chnR_in K hK hT (xs := trmN K T (cn0 T a)) ⟨⟨[111, 114]⟩⟩ h1 (by have := hlen c2; omega) c7o c5).1.1.2
                simp only [List.length_cons]
                unfold cnOr
                omega
              · simp
            · simp
          · simp
    · omega
def cndK : Nat → CnK
  | 0 => ⟨fun _ => [], fun _ => false, fun _ => 0, fun _ => False⟩
  | n + 1 => ⟨fun L => cndN (cndK n) L 0, fun L => cndB (cndK n) L 0, fun L => cndA (cndK n) L 0, fun L => L.length ≤ n ∧ limC L ∧ TxtOk L⟩
theorem cndK_trm (n : Nat) {T : List TokV} (h : T.length ≤ n) (hl : limC T) (ht : TxtOk T) : TrmK (cndK n) T := by
  refine ⟨hl, ht, fun a ha hb hf => ?_⟩
  have h1 := innL_len ha hb
  have h2 := inn_in ha hb
  have h3 := (skI_in ha).1
  have h4 : (innL T a).length < T.length := by omega
  cases n with
  | zero => omega
  | succ n => exact ⟨by omega, by unfold limC at hl ⊢; omega, (innL_ok ha ht).2⟩
theorem cndK_ok : ∀ n, (cndK n).Ok := by
  intro n
  induction n with
  | zero => exact ⟨fun L h => h.elim, fun L h => h.elim⟩
  | succ n ih =>
    have h0 : ∀ L : List TokV, limC L → InT L 0 := fun L h => ⟨⟨Int.le_refl 0, by omega⟩, h.lim⟩
    refine ⟨fun L hL => Sy.cnd_t (cndK n) ih L (cndK_trm n hL.1 hL.2.1 hL.2.2) 0 (h0 L hL.2.1), fun L hL => ?_⟩
    have := cndN_len (cndK n) ih (cndK_trm n hL.1 hL.2.1 hL.2.2) (h0 L hL.2.1)
    show (cndN (cndK n) L 0).length ≤ L.length
    omega
def cdN (T : List TokV) (a : Int) : List QNodeV := cndN (cndK T.length) T a
def cdB (T : List TokV) (a : Int) : Bool := cndB (cndK T.length) T a
def cdA (T : List TokV) (a : Int) : Int := cndA (cndK T.length) T a
theorem Sy.cd_t (T : List TokV) (hl : limC T) (ht : TxtOk T) (a : Int) (h : InT T a) : CallTo Try.prog 26 [.ptr 0 0] (rdM T a) (QEnd T (cdA T a) (cdN T a) (cdB T a)) := Sy.cnd_t _ (cndK_ok _) T (cndK_trm _ (Nat.le_refl _) hl ht) a h
noncomputable abbrev Sy.cCd (T : List TokV) : Con Try.prog := conO T 26 (fun r => match r with | [] => some () | _ => none) (fun _ => []) (fun a _ => cdN T a) (fun a _ => cdB T a) (fun a _ => cdA T a) (fun a _ => limC T ∧ TxtOk T ∧ InT T a) fun a _ h => ⟨trivial, cd_t T h.1 h.2.1 a h.2.2⟩
noncomputable abbrev Sy.cTrimP (l : List TokV) : Con Try.prog := at1 23 [kv l] (kv (trim l)) (limC l) fun h => ⟨⟨⟨kv_free l, trivial⟩, kv_free _⟩, trimp_t l h⟩
noncomputable abbrev Sy.cRightM (s : ByteArray) (xs : List QNodeV) : Con Try.prog := atM 15 (fun _ _ => some ()) (fun _ => [query s xs]) (fun _ => boo (rightQ s xs)) (fun _ => s.size ≤ maxLen ∧ xs.length ≤ 17592186044416) fun _ h => ⟨⟨_, rfl⟩, right_q0 s xs h.1 h.2⟩
def qName (T : List TokV) : Bool := eqI (kindI T 0) 1 && !resB (T.getD 0 tok0).text
def psS (T : List TokV) : ByteArray := if qName T then (tokAt T 0).text else ⟨#[]⟩
def psA (T : List TokV) : Int := if qName T then 1 else 0
def psN (T : List TokV) : List QNodeV := cdN T (psA T)
def psB (T : List TokV) : Bool := cdB T (psA T) && rightQ (psS T) (psN T)
def rdS (l : List TokV) : ByteArray := if psB (trim l) then psS (trim l) else ⟨#[]⟩
def rdN (l : List TokV) : List QNodeV := if psB (trim l) then psN (trim l) else []
def rdE (l : List TokV) : Int := if psB (trim l) then 0 else 21
theorem cdN_len (T : List TokV) (hl : limC T) (ht : TxtOk T) {a : Int} (h : InT T a) : (cdN T a).length ≤ T.length := by
  have := cndN_len _ (cndK_ok _) (cndK_trm _ (Nat.le_refl _) hl ht) h
  unfold cdN
  omega
theorem TxtOk.trim {l : List TokV} (h : TxtOk l) : TxtOk (trim l) := fun t ht => h t (by
  unfold Go.Proofs.Ytlmanlpgknhfpaa.trim at ht
  have h1 := List.mem_reverse.1 ht
  have h2 := (List.dropWhile_sublist _).subset h1
  have h3 := List.mem_reverse.1 h2
  exact (List.dropWhile_sublist _).subset h3)
theorem Sy.qps_t (l : List TokV) (hl : limC l) (ht : TxtOk l) : CallTo Try.prog 9 [kv l] M0 fun v M' => Frz true 0 M' v (.tup [query (rdS l) (rdN l), int (rdE l)]) :=
  to (G := fun r => Frz true 0 r.2 r.1 (.tup [query (rdS l) (rdN l), int (rdE l)])) [cTrimP l, cKind (trim l), cReserved, cCd (trim l), cRightM (if qName (trim l) then (tokAt (trim l) 0).text else ⟨#[]⟩) (cdN (trim l) (if qName (trim l) then 1 else 0))] [] 400 30 (.yes (.yes (.br (.auto 3 (.yes (.auto 2 (.yes (.auto 1 (.br (.yes (.yes (.br (.auto 0 (.yes (.auto 1 (.br .done .done)))) (.auto 3 .done)))) (.yes (.br (.auto 0 (.yes (.auto 1 (.br .done .done)))) (.auto 3 .done))))))))) (.auto 9 (.yes (.br (.auto 0 (.yes (.auto 1 (.br .done .done)))) (.auto 3 .done))))))) (let e1 := (@Value.tuple (@Array.mk _ [])); let e2 := (@AV.view (l).length 3 (fun y0 => (fun y1 => (@AV.lit ([(@Value.int IntKind.i64 ((l.getD y0 tok0)).kind), (@Value.string ((l.getD y0 tok0)).text), (@Value.int IntKind.i64 ((l.getD y0 tok0)).n)].getD y1 e1))))); let e3 := (@trim l); let e4 := (@AV.view (e3).length 3 (fun y0 => (fun y1 => (@AV.lit ([(@Value.int IntKind.i64 ((e3.getD y0 tok0)).kind), (@Value.string ((e3.getD y0 tok0)).text), (@Value.int IntKind.i64 ((e3.getD y0 tok0)).n)].getD y1 e1))))); let e5 := (Int.ofNat 0); let e6 := (some (@Blk.mk [e4, (int e5)] 55 none)); let e7 := (([] : List AV) = []); let e8 := (w64 (e5 + (1 : Int))); let e9 := (((0 + 1) + 1) + 1); let e10 := (e9 + 1); let e11 := (some (@Blk.mk [] 45 (some (@Rw.mk ((@cdN e3 e8)).length 9 (@qrow (@cdN e3 e8)))))); let e12 := (@AV.lit (@Value.string ((e3.getD 0 tok0)).text)); let e13 := (@AV.own e9 ((@cdN e3 e8)).length 9); let e14 := (@ByteArray.mk (@Array.mk _ [])); let e15 := (@AV.lit (@Value.string e14)); let e16 := (@AV.lit (@Value.slice none 0 0)); let e17 := (e12 :: e13 :: (@List.drop _ (1 + ([e13]).length) (e12 :: (@List.drop _ (0 + ([e12]).length) [e15, e16])))); let e18 := (some (@Blk.mk e17 24 none)); let e19 := (some (@Blk.mk [e4, (int (@cdA e3 e8))] 55 none)); let e20 := (some (@Blk.mk [e15, e16] 24 none)); let e21 := (@cdN e3 (if ((@qName e3) = true) then (1 : Int) else (0 : Int))); let e22 := (@query (if ((@qName e3) = true) then ((@tokAt e3 0)).text else e14) e21); let e23 := (@And ((@ByteArray.size (if ((@qName e3) = true) then ((@tokAt e3 0)).text else e14)) ≤ 9223372036854775807) ((e21).length ≤ 17592186044416)); let e24 := (!(@rightQ (if ((@qName e3) = true) then ((@tokAt e3 0)).text else e14) e21)); let e25 := (e15 :: e16 :: (@List.drop _ (0 + ([e15, e16]).length) [e15, e16])); let e26 := (@AV.tup [(@AV.agg (@List.take _ 2 e25)), (int (21 : Int))]); let e27 := (e12 :: e13 :: (@List.drop _ (0 + ([e12, e13]).length) [e15, e16])); let e28 := (some (@Blk.mk [] 45 (some (@Rw.mk ((@cdN e3 e5)).length 9 (@qrow (@cdN e3 e5)))))); let e29 := (@AV.own e9 ((@cdN e3 e5)).length 9); let e30 := (e15 :: e29 :: (@List.drop _ (1 + ([e29]).length) [e15, e16])); let e31 := (some (@Blk.mk e30 24 none)); let e32 := (some (@Blk.mk [e4, (int (@cdA e3 e5))] 55 none)); let e33 := (e15 :: e29 :: (@List.drop _ (0 + ([e15, e29]).length) [e15, e16])); (.need (@isSo (@And ((@HAppend.hAppend _ _ _ _ (@HAppend.hAppend _ _ _ _ [] [e2]) []) = [e2]) ((l).length ≤ 100000))) (.need (@isSo (@And ((some (@Blk.mk (e4 :: (@List.drop _ (0 + ([e4]).length) (@List.map _ _ AV.lit (@Array.toList _ (@Array.mk _ [(@Value.slice none 0 0), (@Value.int IntKind.i64 (0 : Int))]))))) 55 none)) = e6) (@And e7 (@InT e3 e5)))) (.fork (eqI (@kindI e3 e5) (1 : Int)) (.need (@inR (0 : Int) (e3).length) (.need (@isSo True) (.fork (!(@resB ((e3.getD 0 tok0)).text)) (.need (@inR (0 : Int) (e3).length) (.need (@isSo (@And ((some (@Blk.mk (e4 :: [(int e8)]) 55 none)) = (some (@Blk.mk [e4, (int e8)] 55 none))) (@And e7 (@And ((e3).length ≤ 100000) (@And (@TxtOk e3) (@InT e3 e8)))))) (.fork (!(!(@cdB e3 e8))) (.need (@isSo (@And (@Conv (@Mem.mk e10 (e10 + 1) (e11 :: [e18, e19, e20])) (@HAppend.hAppend _ _ _ _ (@HAppend.hAppend _ _ _ _ [] [(@AV.agg (@List.take _ 2 e17))]) []) [e22]) e23)) (.fork e24 (.leaf (e26, (@Mem.mk e10 ((e10 + 1) + 1) (e11 :: [e18, e19, (some (@Blk.mk e25 24 none))])))) (.leaf ((@AV.tup [(@AV.agg (@List.take _ 2 e27)), (int (0 : Int))]), (@Mem.mk e10 ((e10 + 1) + 1) (e11 :: [e18, e19, (some (@Blk.mk e27 24 none))])))))) (.leaf (e26, (@Mem.mk e10 ((e10 + 1) + 1) (e11 :: [e18, e19, (some (@Blk.mk e25 24 none))]))))))) (.need (@isSo (@And (e6 = e6) (@And e7 (@And ((e3).length ≤ 100000) (@And (@TxtOk e3) (@InT e3 e5)))))) (.fork (!(!(@cdB e3 e5))) (.need (@isSo (@And (@Conv (@Mem.mk e10 e9 (e28 :: [e31, e32, e20])) (@HAppend.hAppend _ _ _ _ (@HAppend.hAppend _ _ _ _ [] [(@AV.agg (@List.take _ 2 e30))]) []) [e22]) e23)) (.fork e24 (.leaf (e26, (@Mem.mk e10 e10 (e28 :: [e31, e32, (some (@Blk.mk e25 24 none))])))) (.leaf ((@AV.tup [(@AV.agg (@List.take _ 2 e33)), (int (0 : Int))]), (@Mem.mk e10 e10 (e28 :: [e31, e32, (some (@Blk.mk e33 24 none))])))))) (.leaf (e26, (@Mem.mk e10 e10 (e28 :: [e31, e32, (some (@Blk.mk e25 24 none))]))))))))) (.need (@isSo (@And (e6 = e6) (@And e7 (@And ((e3).length ≤ 100000) (@And (@TxtOk e3) (@InT e3 e5)))))) (.fork (!(!(@cdB e3 e5))) (.need (@isSo (@And (@Conv (@Mem.mk e10 e9 (e28 :: [e31, e32, e20])) (@HAppend.hAppend _ _ _ _ (@HAppend.hAppend _ _ _ _ [] [(@AV.agg (@List.take _ 2 e30))]) []) [e22]) e23)) (.fork e24 (.leaf (e26, (@Mem.mk e10 e10 (e28 :: [e31, e32, (some (@Blk.mk e25 24 none))])))) (.leaf ((@AV.tup [(@AV.agg (@List.take _ 2 e33)), (int (0 : Int))]), (@Mem.mk e10 e10 (e28 :: [e31, e32, (some (@Blk.mk e33 24 none))])))))) (.leaf (e26, (@Mem.mk e10 e10 (e28 :: [e31, e32, (some (@Blk.mk e25 24 none))])))))))))) (by kernel_rfl) (by
    have hlT : limC (trim l) := Nat.le_trans (trim_len l) hl
    have ht' : TxtOk (trim l) := ht.trim
    have h0 : InT (trim l) 0 := ⟨⟨Int.le_refl 0, by omega⟩, hlT.lim⟩
    have hfail : psB (trim l) = false → ∀ M', Frz true 0 M' (.tup [.agg [.lit (.string ⟨#[]⟩), .lit (.slice none 0 0)], int 21]) (.tup [query (rdS l) (rdN l), int (rdE l)]) := fun hb M' => by
      unfold rdS rdN rdE
      rw [hb]
      exact Frz.tup ⟨Frz.agg ⟨Frz.lit _ _ _ _, Frz.nil _ _ _ _ _, trivial⟩, Frz.lit _ _ _ _, trivial⟩
    have e1 : w64 ((Int.ofNat 0 : Int) + 1) = 1 := by decide
    conv => zeta
    rw [e1]
    refine need_so ⟨rfl, hl⟩ (need_so ⟨rfl, rfl, h0⟩ (fork_ok (fun c1 => ?_) (fun c1 => ?_)))
    · have h1 : InT (trim l) 1 := kind_step h0 c1 (by decide)
      have h1' := h1.1.2
      have hr : inR 0 (trim l).length = true := by rw [inR_t]; omega
      refine need_t hr (need_so trivial (fork_ok (fun c2 => need_t hr (need_so ⟨rfl, rfl, hlT, ht', h1⟩ ?_)) (fun c2 => need_so ⟨rfl, rfl, hlT, ht', h0⟩ ?_)))
      · have hq : qName (trim l) = true := by
          unfold qName
          have c1' : eqI (kindI (trim l) 0) 1 = true := c1
          rw [c1']
          exact c2
        refine fork_ok (fun c3 => ?_) (fun c3 => ?_)
        · exact (by
        have hS : (if qName (trim l) = true then (tokAt (trim l) 0).text else ⟨#[]⟩) = ((trim l).getD 0 tok0).text := by rw [if_pos hq]; rfl
        have hA : (if qName (trim l) = true then (1 : Int) else 0) = 1 := if_pos hq
        rw [hS, hA]
        refine need_so ⟨Conv.cons (Conv1.agg (Conv.cons (Conv1.lit _ _) (Conv.cons (Conv1.own rfl rfl (Nat.le_refl _) rfl fun i j _ _ => ⟨trivial, rfl⟩) (Conv.nil _)))) (Conv.nil _), ht'.at 0, Nat.le_trans (cdN_len (trim l) hlT ht' h1) (by unfold limC at hlT; omega)⟩ (fork_ok (fun c4 => ?_) (fun c4 => ?_))
        · refine hfail ?_ _
          unfold psB psN psA psS
          rw [hA, hS, n_t c4, Bool.and_false]
        · have hb : psB (trim l) = true := by
            unfold psB psN psA psS
            rw [hA, hS, n_f c4, Bool.and_true]
            exact n_f (n_t c3)
          unfold rdS rdN rdE
          simp only [hb, if_true]
          unfold psS psN psA
          rw [hA, hS]
          exact Frz.tup ⟨Frz.agg ⟨Frz.lit _ _ _ _, Frz.own (b := 3) (by decide) rfl rfl (Nat.le_refl _) rfl (fun i j _ _ => Frz.lit _ _ _ _), trivial⟩, Frz.lit _ _ _ _, trivial⟩)
        · exact (by
        refine hfail ?_ _
        have hA : (if qName (trim l) = true then (1 : Int) else 0) = 1 := if_pos hq
        unfold psB psA
        rw [hA, show cdB (trim l) 1 = false from n_t (n_f c3), Bool.false_and])
      · have hq : qName (trim l) = false := by
          unfold qName
          have c1' : eqI (kindI (trim l) 0) 1 = true := c1
          rw [c1']
          exact c2
        refine fork_ok (fun c3 => ?_) (fun c3 => ?_)
        · exact (by
        have hS : (if qName (trim l) = true then (tokAt (trim l) 0).text else ⟨#[]⟩) = ⟨#[]⟩ := by rw [if_neg (by rw [hq]; simp)]
        have hA : (if qName (trim l) = true then (1 : Int) else 0) = 0 := if_neg (by rw [hq]; simp)
        rw [hS, hA]
        refine need_so ⟨Conv.cons (Conv1.agg (Conv.cons (Conv1.lit _ _) (Conv.cons (Conv1.own rfl rfl (Nat.le_refl _) rfl fun i j _ _ => ⟨trivial, rfl⟩) (Conv.nil _)))) (Conv.nil _), (by show 0 ≤ _; exact Nat.zero_le _), Nat.le_trans (cdN_len (trim l) hlT ht' h0) (by unfold limC at hlT; omega)⟩ (fork_ok (fun c4 => ?_) (fun c4 => ?_))
        · refine hfail ?_ _
          unfold psB psN psA psS
          rw [hA, hS, n_t c4, Bool.and_false]
        · have hb : psB (trim l) = true := by
            unfold psB psN psA psS
            rw [hA, hS, n_f c4, Bool.and_true]
            exact n_f (n_t c3)
          unfold rdS rdN rdE
          simp only [hb, if_true]
          unfold psS psN psA
          rw [hA, hS]
          exact Frz.tup ⟨Frz.agg ⟨Frz.lit _ _ _ _, Frz.own (b := 3) (by decide) rfl rfl (Nat.le_refl _) rfl (fun i j _ _ => Frz.lit _ _ _ _), trivial⟩, Frz.lit _ _ _ _, trivial⟩)
        · exact (by
        refine hfail ?_ _
        have hA : (if qName (trim l) = true then (1 : Int) else 0) = 0 := if_neg (by rw [hq]; simp)
        unfold psB psA
        rw [hA, show cdB (trim l) 0 = false from n_t (n_f c3), Bool.false_and])
    · have hq : qName (trim l) = false := by
        unfold qName
        have c1' : eqI (kindI (trim l) 0) 1 = false := c1
        rw [c1']
        rfl
      refine need_so ⟨rfl, rfl, hlT, ht', h0⟩ (fork_ok (fun c3 => ?_) (fun c3 => ?_))
      · exact (by
        have hS : (if qName (trim l) = true then (tokAt (trim l) 0).text else ⟨#[]⟩) = ⟨#[]⟩ := by rw [if_neg (by rw [hq]; simp)]
        have hA : (if qName (trim l) = true then (1 : Int) else 0) = 0 := if_neg (by rw [hq]; simp)
        rw [hS, hA]
        refine need_so ⟨Conv.cons (Conv1.agg (Conv.cons (Conv1.lit _ _) (Conv.cons (Conv1.own rfl rfl (Nat.le_refl _) rfl fun i j _ _ => ⟨trivial, rfl⟩) (Conv.nil _)))) (Conv.nil _), (by show 0 ≤ _; exact Nat.zero_le _), Nat.le_trans (cdN_len (trim l) hlT ht' h0) (by unfold limC at hlT; omega)⟩ (fork_ok (fun c4 => ?_) (fun c4 => ?_))
        · refine hfail ?_ _
          unfold psB psN psA psS
          rw [hA, hS, n_t c4, Bool.and_false]
        · have hb : psB (trim l) = true := by
            unfold psB psN psA psS
            rw [hA, hS, n_f c4, Bool.and_true]
            exact n_f (n_t c3)
          unfold rdS rdN rdE
          simp only [hb, if_true]
          unfold psS psN psA
          rw [hA, hS]
          exact Frz.tup ⟨Frz.agg ⟨Frz.lit _ _ _ _, Frz.own (b := 3) (by decide) rfl rfl (Nat.le_refl _) rfl (fun i j _ _ => Frz.lit _ _ _ _), trivial⟩, Frz.lit _ _ _ _, trivial⟩)
      · exact (by
        refine hfail ?_ _
        have hA : (if qName (trim l) = true then (1 : Int) else 0) = 0 := if_neg (by rw [hq]; simp)
        unfold psB psA
        rw [hA, show cdB (trim l) 0 = false from n_t (n_f c3), Bool.false_and]))
theorem Sy.query_free (s : ByteArray) (xs : List QNodeV) : Free (query s xs) := ⟨trivial, qview_free xs, trivial⟩
theorem Sy.qps_v (l : List TokV) (hl : limC l) (ht : TxtOk l) : CallTo Try.prog 9 [kv l] M0 fun v _ => v = .tup [query (rdS l) (rdN l), int (rdE l)] :=
  CallTo.frz0 (qps_t l hl ht) ⟨kv_free l, trivial⟩ ⟨query_free _ _, trivial, trivial⟩
noncomputable abbrev Sy.cQps (l : List TokV) : Con Try.prog := at1 9 [kv l] (.tup [query (rdS l) (rdN l), int (rdE l)]) (limC l ∧ TxtOk l) fun h => ⟨⟨⟨kv_free l, trivial⟩, query_free _ _, trivial, trivial⟩, qps_v l h.1 h.2⟩
end Go.Proofs.Ytlmanlpgknhfpaa
namespace Go.Proofs.Ytlmanlpgknhfpaa
open Go Go.RowKit Pl Sy
theorem byE_t (a b : List UInt8) : (bytesEq a b = true) = (a = b) := by rw [bytesEq_eq]; simp
theorem byE_f (a b : List UInt8) : (bytesEq a b = false) = (a ≠ b) := by rw [bytesEq_eq]; simp
def At (T : List TokV) (a : Int) (l : List TokV) : Prop := (0 ≤ a ∧ a ≤ T.length) ∧ T.drop a.toNat = l
theorem At.zero (T : List TokV) : At T 0 T := ⟨⟨Int.le_refl 0, by omega⟩, rfl⟩
theorem At.len {T : List TokV} {a : Int} {l : List TokV} (h : At T a l) : a + l.length = T.length := by
  have h2 := congrArg List.length h.2
  rw [List.length_drop] at h2
  have := h.1
  omega
theorem At.app {T : List TokV} {a : Int} {x r : List TokV} (h : At T a (x ++ r)) : At T (a + x.length) r := by
  have hl := h.len
  rw [List.length_append] at hl
  have h1 := h.1
  refine ⟨by omega, ?_⟩
  rw [show (a + (x.length : Int)).toNat = a.toNat + x.length by omega, ← List.drop_drop, h.2, List.drop_left]
theorem At.tail {T : List TokV} {a : Int} {t : TokV} {l : List TokV} (h : At T a (t :: l)) : At T (a + 1) l := At.app (x := [t]) h
theorem At.head {T : List TokV} {a : Int} {t : TokV} {l : List TokV} (h : At T a (t :: l)) : T.getD a.toNat tok0 = t := by
  have h2 := congrArg (fun l => l.getD 0 tok0) h.2
  simp only [List.getD_cons_zero] at h2
  rw [← h2, List.getD_eq_getElem?_getD, List.getD_eq_getElem?_getD, List.getElem?_drop, Nat.add_zero]
theorem At.lt {T : List TokV} {a : Int} {t : TokV} {l : List TokV} (h : At T a (t :: l)) : a < T.length := by
  have := h.len
  rw [List.length_cons] at this
  omega
theorem At.end_ {T : List TokV} {a : Int} (h : At T a []) : a = T.length := by have := h.len; simp at this; omega
theorem At.kind {T : List TokV} {a : Int} {t : TokV} {l : List TokV} (h : At T a (t :: l)) : kindI T a = t.kind := by
  unfold kindI
  rw [if_neg (by rw [leI_t]; have := h.lt; omega), h.head]
theorem At.kind0 {T : List TokV} {a : Int} (h : At T a []) : kindI T a = 0 := by
  unfold kindI
  rw [if_pos (by rw [leI_t]; have := h.end_; omega)]
theorem At.sp {T : List TokV} {a : Int} {t : TokV} {l : List TokV} (h : At T a (t :: l)) (ht : t.kind = 20) : skI T a = skI T (a + 1) := by
  have h1 := h.1
  unfold skI
  rw [skp_step, if_pos ⟨by have := h.lt; omega, by unfold tokAt; rw [h.head]; unfold spB; rw [eqI_t]; exact ht⟩, show (a + 1).toNat = a.toNat + 1 by omega]
theorem At.ns {T : List TokV} {a : Int} {t : TokV} {l : List TokV} (h : At T a (t :: l)) (ht : t.kind ≠ 20) : skI T a = a := by
  have h1 := h.1
  unfold skI
  rw [skp_step, if_neg (by
    rintro ⟨_, h3⟩
    unfold tokAt at h3
    rw [h.head] at h3
    unfold spB at h3
    rw [eqI_t] at h3
    exact ht h3)]
  omega
theorem At.sk0 {T : List TokV} {a : Int} (h : At T a []) : skI T a = a := by
  have h1 := h.1
  have h2 := h.end_
  unfold skI
  rw [skp_step, if_neg (by rintro ⟨h3, _⟩; omega)]
  omega
def NsL : List TokV → Prop
  | [] => True
  | t :: _ => t.kind ≠ 20
theorem At.sk {T : List TokV} {a : Int} {l : List TokV} (h : At T a l) (hn : NsL l) : skI T a = a := by
  cases l with
  | nil => exact h.sk0
  | cons t l => exact h.ns hn
theorem At.sk1 {T : List TokV} {a : Int} {l : List TokV} (h : At T a (spT :: l)) (hn : NsL l) : skI T a = a + 1 := (h.sp rfl).trans (h.tail.sk hn)
theorem At.done {T : List TokV} {a : Int} (h : At T a []) : doneB T a = true := by
  unfold doneB
  rw [h.sk0, eqI_t]
  exact h.end_
theorem At.undone {T : List TokV} {a : Int} {t : TokV} {l : List TokV} (h : At T (skI T a) (t :: l)) : doneB T a = false := by
  unfold doneB
  rw [eqI_f]
  have := h.lt
  omega
theorem At.word {T : List TokV} {a : Int} {s : ByteArray} {l : List TokV} (h : At T (skI T a) (idT s :: l)) : wordB T a s = true ∧ wordA T a s = skI T a + 1 := by
  have h1 : wordB T a s = true := by
    unfold wordB
    rw [h.kind, h.head, show eqI (idT s).kind 1 = true from rfl, Bool.true_and, byE_t]
  exact ⟨h1, by unfold wordA; rw [if_pos h1]⟩
theorem At.noword {T : List TokV} {a : Int} {t : TokV} {s : ByteArray} {l : List TokV} (h : At T (skI T a) (t :: l)) (ht : t.kind ≠ 1 ∨ t.text.data.toList ≠ s.data.toList) : wordB T a s = false ∧ wordA T a s = skI T a := by
  have h1 : wordB T a s = false := by
    unfold wordB
    rw [h.kind, h.head, Bool.and_eq_false_iff, eqI_f, byE_f]
    exact ht
  exact ⟨h1, by unfold wordA; rw [if_neg (by rw [h1]; decide)]⟩
theorem At.noword0 {T : List TokV} {a : Int} (s : ByteArray) (h : At T (skI T a) []) : wordB T a s = false ∧ wordA T a s = skI T a := by
  have h1 : wordB T a s = false := by
    unfold wordB
    rw [h.kind0]
    rfl
  exact ⟨h1, by unfold wordA; rw [if_neg (by rw [h1]; decide)]⟩
theorem At.sign {T : List TokV} {a : Int} {s : ByteArray} {l : List TokV} (h : At T a (⟨19, s, 0⟩ :: l)) : signB T a s = true ∧ signA T a s = a + 1 := by
  have h1 : signB T a s = true := by
    unfold signB
    rw [h.kind, h.head, show eqI (19 : Int) 19 = true from rfl, Bool.true_and, byE_t]
  exact ⟨h1, by unfold signA; rw [if_pos h1]⟩
theorem At.nosign {T : List TokV} {a : Int} {t : TokV} {s : ByteArray} {l : List TokV} (h : At T a (t :: l)) (ht : t.kind ≠ 19 ∨ t.text.data.toList ≠ s.data.toList) : signB T a s = false ∧ signA T a s = a := by
  have h1 : signB T a s = false := by
    unfold signB
    rw [h.kind, h.head, Bool.and_eq_false_iff, eqI_f, byE_f]
    exact ht
  exact ⟨h1, by unfold signA; rw [if_neg (by rw [h1]; decide)]⟩
theorem At.op {T : List TokV} {a : Int} {o : Int} {l : List TokV} (h0 : 1 ≤ o) (h5 : o ≤ 5) (h : At T (skI T a) (opT o ++ spT :: l)) : opI T a = o ∧ opA T a = skI T a + (opT o).length := by
  have hc : o = 1 ∨ o = 2 ∨ o = 3 ∨ o = 4 ∨ o = 5 := by omega
  unfold opI opA opG opL
  rcases hc with rfl | rfl | rfl | rfl | rfl
  · have h : At T (skI T a) (ltT :: spT :: l) := h
    obtain ⟨e1, e2⟩ := h.sign
    obtain ⟨e3, e4⟩ := h.tail.nosign (s := ⟨⟨[61]⟩⟩) (.inl (by decide))
    simp only [e1, e2, e3, e4, if_true, if_false, Bool.false_eq_true]
    exact ⟨trivial, rfl⟩
  · have h : At T (skI T a) (ltT :: eqT :: spT :: l) := h
    obtain ⟨e1, e2⟩ := h.sign
    obtain ⟨e3, e4⟩ := h.tail.sign
    simp only [e1, e2, e3, e4, if_true, if_false, Bool.false_eq_true]
    exact ⟨trivial, by show _ = skI T a + (2 : Nat); omega⟩
  · have h : At T (skI T a) (eqT :: spT :: l) := h
    obtain ⟨e1, e2⟩ := h.nosign (s := ⟨⟨[60]⟩⟩) (.inr (by decide))
    obtain ⟨e3, e4⟩ := h.nosign (s := ⟨⟨[62]⟩⟩) (.inr (by decide))
    obtain ⟨e5, e6⟩ := h.sign
    simp only [e1, e2, e3, e4, e5, e6, if_true, if_false, Bool.false_eq_true]
    exact ⟨trivial, rfl⟩
  · have h : At T (skI T a) (gtT :: eqT :: spT :: l) := h
    obtain ⟨e1, e2⟩ := h.nosign (s := ⟨⟨[60]⟩⟩) (.inr (by decide))
    obtain ⟨e3, e4⟩ := h.sign
    obtain ⟨e5, e6⟩ := h.tail.sign
    simp only [e1, e2, e3, e4, e5, e6, if_true, if_false, Bool.false_eq_true]
    exact ⟨trivial, by show _ = skI T a + (2 : Nat); omega⟩
  · have h : At T (skI T a) (gtT :: spT :: l) := h
    obtain ⟨e1, e2⟩ := h.nosign (s := ⟨⟨[60]⟩⟩) (.inr (by decide))
    obtain ⟨e3, e4⟩ := h.sign
    obtain ⟨e5, e6⟩ := h.tail.nosign (s := ⟨⟨[61]⟩⟩) (.inl (by decide))
    simp only [e1, e2, e3, e4, e5, e6, if_true, if_false, Bool.false_eq_true]
    exact ⟨trivial, rfl⟩
theorem lenV {T : List TokV} {a : Int} {n : Int} {l : List TokV} (h : At T a (⟨9, ⟨#[112, 120]⟩, n⟩ :: l)) : lenN T a = n ∧ lenB T a = true ∧ lenA T a = a + 1 := by
  have h1 : pxB T a = true := by
    unfold pxB
    rw [h.kind, h.head, show eqI (9 : Int) 9 = true from rfl, Bool.true_and, byE_t]
  unfold lenN lenB lenA nI
  rw [h1, h.head]
  exact ⟨rfl, rfl, rfl⟩
theorem numV {T : List TokV} {a : Int} {n : Int} {l : List TokV} (h : At T a (⟨7, ⟨#[]⟩, n⟩ :: l)) : numbN T a = n ∧ numbB T a = true ∧ numbA T a = a + 1 := by
  have h1 : numbB T a = true := by
    unfold numbB
    rw [h.kind]
    rfl
  unfold numbN numbA nI
  rw [h1, h.head]
  exact ⟨rfl, rfl, rfl⟩
theorem ratV {T : List TokV} {a : Int} {n d : Int} {l : List TokV} (hn : 1 ≤ n) (hd : 1 ≤ d) (h : At T a (⟨7, ⟨#[]⟩, n⟩ :: spT :: slT :: spT :: ⟨7, ⟨#[]⟩, d⟩ :: l)) : ratB T a = true ∧ numbN T a = n ∧ ratD T a = d ∧ ratA T a = a + 5 := by
  obtain ⟨e1, e2, e3⟩ := numV h
  have h2 := h.tail
  have e4 : ratS T a = a + 2 := by
    unfold ratS
    rw [e3, h2.sk1 (by show (19 : Int) ≠ 20; decide)]
    omega
  have h3 : At T (a + 2) (slT :: spT :: ⟨7, ⟨#[]⟩, d⟩ :: l) := by have := h2.tail; rwa [show a + 1 + 1 = a + 2 by omega] at this
  obtain ⟨e5, e6⟩ := h3.sign
  have h4 := h3.tail
  have e7 : ratK T a = a + 4 := by
    unfold ratK
    rw [e4, e6, h4.sk1 (by show (7 : Int) ≠ 20; decide)]
    omega
  have h5 : At T (a + 4) (⟨7, ⟨#[]⟩, d⟩ :: l) := by have := h4.tail; rwa [show a + 2 + 1 + 1 = a + 4 by omega] at this
  obtain ⟨e8, e9, e10⟩ := numV h5
  have l1 : leI n 0 = false := by rw [leI_f]; omega
  have l2 : leI d 0 = false := by rw [leI_f]; omega
  refine ⟨?_, e1, ?_, ?_⟩
  · unfold ratB
    rw [e4, if_pos e5, e7, e2, e9, e1, e8, l1, l2]
    rfl
  · unfold ratD
    rw [e4, if_pos e5, e7, e8]
  · unfold ratA
    rw [e4, if_pos e5, e7, e10]
    omega
def VOk (f n d : Int) : Prop := if f = 5 then 1 ≤ n ∧ 1 ≤ d else d = 0
theorem At.value {T : List TokV} {a : Int} {f n d : Int} {l : List TokV} (h1 : f ≠ 6) (hv : VOk f n d) (h : At T (skI T a) (valT f n d ++ l)) : bnB T a f = true ∧ bnN T a f = n ∧ bnD T a f = d ∧ bnA T a f = skI T a + (valT f n d).length := by
  unfold bnB bnN bnD bnA
  unfold VOk at hv
  unfold valT at h ⊢
  have e6 : eqI f 6 = false := by rw [eqI_f]; exact h1
  by_cases h5 : f = 5
  · subst h5
    rw [if_pos rfl] at hv h
    have h : At T (skI T a) (⟨7, ⟨#[]⟩, n⟩ :: spT :: slT :: spT :: ⟨7, ⟨#[]⟩, d⟩ :: l) := h
    obtain ⟨r1, r2, r3, r4⟩ := ratV hv.1 hv.2 h
    simp only [show eqI (5 : Int) 5 = true from rfl, if_true]
    exact ⟨r1, r2, r3, r4⟩
  · have e5 : eqI f 5 = false := by rw [eqI_f]; exact h5
    rw [if_neg h5] at hv h ⊢
    have h : At T (skI T a) (⟨9, ⟨#[112, 120]⟩, n⟩ :: l) := h
    obtain ⟨r1, r2, r3⟩ := lenV h
    simp only [e5, e6, Bool.false_eq_true, if_false]
    exact ⟨r2, r1, hv.symm, r3⟩
end Go.Proofs.Ytlmanlpgknhfpaa
