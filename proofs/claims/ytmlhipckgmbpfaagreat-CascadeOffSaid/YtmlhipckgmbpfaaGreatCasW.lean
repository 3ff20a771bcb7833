/-
  What is told of each property: rules that do not count change nothing. Plain law.
-/
import Derived.Test.YtmlhipckgmbpfaaGreatOpenC
import Derived.Test.YtmlhipckgmbpfaaGreatSyR
import Derived.Test.YtmlhipckgmbpfaaGreatCasL
namespace Go.Proofs.YtmlhipckgmbpfaaGreat
open Go Go.RowKit Pl Sy
set_option linter.unusedVariables false
set_option linter.unusedSimpArgs false

structure ValueV where
  kind : Int
  n : Int
  d : Int
  name : ByteArray
structure ClaimV where
  lv : Int
  w : Int × Int × Int
  r : Int
  k : Int
/-- does a claim win over another one that was met ahead of it? -/
def claimB (c d : ClaimV) : Bool := if !eqI c.lv d.lv then !leI c.lv d.lv else ((eqI c.w.1 d.w.1 && (eqI c.w.2.1 d.w.2.1 && (eqI c.w.2.2 d.w.2.2 && true))) || !leI (cmp3 c.w.1 c.w.2.1 c.w.2.2 d.w.1 d.w.2.1 d.w.2.2) 0)
/-- what is known of each property -/
structure TSt where
  out : Nat → ValueV
  met : Nat → ClaimV
  is : Nat → Bool
def declVal (d : DeclV) : ValueV := ⟨d.kind, d.n, d.d, d.name⟩
def updN {α : Type} (f : Nat → α) (k : Nat) (x : α) : Nat → α := fun i => if i = k then x else f i
/-- is a claim passed over? -/
def overT (c : ClaimV) (d : DeclV) (st : TSt) : Bool := !leI 1 d.prop || (!leI d.prop 37 || (st.is (d.prop - 1).toNat && !claimB c (st.met (d.prop - 1).toNat)))
def stepT (c : ClaimV) (d : DeclV) (st : TSt) : TSt := if overT c d st then st else ⟨updN st.out (d.prop - 1).toNat (declVal d), updN st.met (d.prop - 1).toNat c, updN st.is (d.prop - 1).toNat true⟩
def declsT (o : Int) (w : Int × Int × Int) (r : Int) : List DeclV → Int → TSt → TSt
  | [], _, st => st
  | d :: ds, k, st => declsT o w r ds (k + 1) (stepT ⟨lvlI o d.loud, w, r, k⟩ d st)
/-- does a rule count? -/
noncomputable def countsB (ns : List NodeW) (i : Int) (on : List Bool) (r : Nat) (x : RuleV) : Bool := on.getD r false && (bestV ns i x.sels).2
noncomputable def ruleT (ns : List NodeW) (i : Int) (on : List Bool) (r : Nat) (x : RuleV) (st : TSt) : TSt := if countsB ns i on r x then declsT x.origin (bestV ns i x.sels).1 r x.decls 0 st else st
noncomputable def rulesT (ns : List NodeW) (i : Int) (on : List Bool) : List RuleV → Nat → TSt → TSt
  | [], _, st => st
  | x :: xs, r, st => rulesT ns i on xs (r + 1) (ruleT ns i on r x st)
noncomputable def leftT (ns : List NodeW) (i : Int) (on : List Bool) : List RuleV → Nat → List RuleV
  | [], _ => []
  | x :: xs, r => if countsB ns i on r x then x :: leftT ns i on xs (r + 1) else leftT ns i on xs (r + 1)
def LikeC (c d : ClaimV) : Prop := c.lv = d.lv ∧ c.w = d.w
def Like (s t : TSt) : Prop := ∀ k, s.out k = t.out k ∧ s.is k = t.is k ∧ LikeC (s.met k) (t.met k)
theorem Like.refl (s : TSt) : Like s s := fun k => ⟨rfl, rfl, rfl, rfl⟩
theorem claimB_like {c c' d d' : ClaimV} (h : LikeC c c') (h' : LikeC d d') : claimB c d = claimB c' d' := by
  unfold claimB
  rw [h.1, h.2, h'.1, h'.2]
theorem stepT_like {c c' : ClaimV} (hc : LikeC c c') (d : DeclV) {s t : TSt} (h : Like s t) : Like (stepT c d s) (stepT c' d t) := by
  have e : overT c d s = overT c' d t := by
    unfold overT
    rw [(h _).2.1, claimB_like hc (h _).2.2]
  unfold stepT
  rw [e]
  split
  · exact h
  · intro k
    simp only [updN]
    split
    · exact ⟨rfl, rfl, hc⟩
    · exact h k
theorem declsT_like (o : Int) (w : Int × Int × Int) (r r' : Int) : ∀ (ds : List DeclV) (k k' : Int) {s t : TSt}, Like s t → Like (declsT o w r ds k s) (declsT o w r' ds k' t)
  | [], _, _, _, _, h => h
  | d :: ds, k, k', s, t, h => declsT_like o w r r' ds (k + 1) (k' + 1) (stepT_like (c := ⟨lvlI o d.loud, w, r, k⟩) (c' := ⟨lvlI o d.loud, w, r', k'⟩) ⟨rfl, rfl⟩ d h)
/-- rules that do not count change nothing -/
theorem rulesT_left (ns : List NodeW) (i : Int) (on on' : List Bool) : ∀ (xs : List RuleV) (r r' : Nat) {s t : TSt}, Like s t → (∀ j, j < (leftT ns i on xs r).length → on'.getD (r' + j) false = true) → Like (rulesT ns i on xs r s) (rulesT ns i on' (leftT ns i on xs r) r' t)
  | [], _, _, _, _, h, _ => h
  | x :: xs, r, r', s, t, h, ho => by
    simp only [rulesT, leftT] at ho ⊢
    cases hc : countsB ns i on r x with
    | false =>
      rw [hc] at ho
      have e : ruleT ns i on r x s = s := by unfold ruleT; rw [hc]; rfl
      rw [e]
      exact rulesT_left ns i on on' xs (r + 1) r' h ho
    | true =>
      rw [hc] at ho
      simp only [if_true, rulesT]
      have h0 := ho 0 (by simp)
      rw [Nat.add_zero] at h0
      have hb : (bestV ns i x.sels).2 = true := by
        unfold countsB at hc
        simp only [Bool.and_eq_true] at hc
        exact hc.2
      have e1 : ruleT ns i on r x s = declsT x.origin (bestV ns i x.sels).1 r x.decls 0 s := by unfold ruleT; rw [hc]; rfl
      have e2 : ruleT ns i on' r' x t = declsT x.origin (bestV ns i x.sels).1 r' x.decls 0 t := by
        unfold ruleT countsB
        rw [h0, hb]; rfl
      rw [e1, e2]
      refine rulesT_left ns i on on' xs (r + 1) (r' + 1) (declsT_like _ _ _ _ _ _ _ h) fun j hj => ?_
      have := ho (j + 1) (by simp; omega)
      rw [show r' + 1 + j = r' + (j + 1) by omega]
      exact this
end Go.Proofs.YtmlhipckgmbpfaaGreat
namespace Go.Proofs.YtmlhipckgmbpfaaGreat
open Go Go.RowKit Pl Sy
set_option linter.unusedVariables false
set_option linter.unusedSimpArgs false

/-- flags -/
abbrev Sy.bview (bs : List Bool) : AV := .view bs.length 1 fun i _ => boo (bs.getD i false)
/-sy told_p
fun (ns : List NodeW) (i : Int) (rs : List RuleV) (on : List Bool) (d : D) => probeV SyTool.probe [] 400 30 10 [nview ns, int i, rview rs, bview on] M0 d
-/
namespace Sy
def vcell (f : Nat → ValueV) (i j : Nat) : AV := [int (f i).kind, int (f i).n, int (f i).d, .lit (.string (f i).name)].getD j (boo false)
def mcell (f : Nat → ClaimV) (i j : Nat) : AV := [int (f i).lv, int (f i).w.1, int (f i).w.2.1, int (f i).w.2.2, int (f i).r, int (f i).k].getD j (boo false)
def icell (f : Nat → Bool) (i j : Nat) : AV := [boo (f i)].getD j (boo false)
abbrev tdM (st : TSt) (s : Nat) : Mem := ⟨6, s, [some ⟨[.own 4 37 1], 24, none⟩, some ⟨[], 4, some ⟨37, 1, icell st.is⟩⟩, some ⟨[.own 2 37 6], 58, none⟩, some ⟨[], 61, some ⟨37, 6, mcell st.met⟩⟩, some ⟨[.own 0 37 4], 36, none⟩, some ⟨[], 40, some ⟨37, 4, vcell st.out⟩⟩]⟩
abbrev claimC (c : ClaimV) : AV := claimA c.lv c.w.1 c.w.2.1 c.w.2.2 c.r c.k
end Sy
/-sy btc_t
fun (c e : ClaimV) (d : D) => reckV [cCompare] [] 400 30 16 [claimC c, claimC e] M0 d
-/
theorem Sy.btc_t (c e : ClaimV) : CallTo Tryz.prog 16 [claimC c, claimC e] M0 fun v _ => v = boo (claimB c e) :=
  toV [cCompare] [] 400 30 (.br .done (.br (.auto 3 (.yes (.auto 1 .done))) (.auto 5 .done))) (.fork (!(eqI (c).lv (e).lv)) (.leaf (boo (!(leI (c).lv (e).lv)))) (.fork (!((eqI ((c).w).fst ((e).w).fst) && ((eqI (((c).w).snd).fst (((e).w).snd).fst) && ((eqI (((c).w).snd).snd (((e).w).snd).snd) && true)))) (.need (@isSo (@And ([(@AV.agg [(int ((c).w).fst), (int (((c).w).snd).fst), (int (((c).w).snd).snd)]), (@AV.agg [(int ((e).w).fst), (int (((e).w).snd).fst), (int (((e).w).snd).snd)])] = [(@AV.agg [(int ((c).w).fst), (int (((c).w).snd).fst), (int (((c).w).snd).snd)]), (@AV.agg [(int ((e).w).fst), (int (((e).w).snd).fst), (int (((e).w).snd).snd)])]) True)) (.leaf (boo (!(leI (@cmp3 ((c).w).fst (((c).w).snd).fst (((c).w).snd).snd ((e).w).fst (((e).w).snd).fst (((e).w).snd).snd) (0 : Int)))))) (.leaf (boo true)))) (by kernel_rfl) (by
    unfold claimB
    repeat' (first | refine fork_ok (fun _ => ?_) (fun _ => ?_) | refine need_so ⟨rfl, trivial⟩ ?_)
    · refine leaf_boo ?_
      rw [if_pos (by assumption)]
    · refine leaf_boo ?_
      rename_i h1 h2
      rw [if_neg (by rw [h1]; simp), show ((eqI c.w.1 e.w.1 && (eqI c.w.2.1 e.w.2.1 && (eqI c.w.2.2 e.w.2.2 && true)))) = false from (Eq.mp (Bool.not_eq_true' _) h2), Bool.false_or]
    · refine leaf_boo ?_
      rename_i h1 h2
      rw [if_neg (by rw [h1]; simp), show ((eqI c.w.1 e.w.1 && (eqI c.w.2.1 e.w.2.1 && (eqI c.w.2.2 e.w.2.2 && true)))) = true from (Eq.mp (Bool.not_eq_false' _) h2), Bool.true_or])
noncomputable abbrev Sy.cClaim : Con Tryz.prog := atX 16 (fun args => match args with | [.agg [.lit (.int .i64 l), .lit (.int .i64 a), .lit (.int .i64 b), .lit (.int .i64 c), .lit (.int .i64 r), .lit (.int .i64 k)], .agg [.lit (.int .i64 l2), .lit (.int .i64 a2), .lit (.int .i64 b2), .lit (.int .i64 c2), .lit (.int .i64 r2), .lit (.int .i64 k2)]] => some (ClaimV.mk l (a, b, c) r k, ClaimV.mk l2 (a2, b2, c2) r2 k2) | _ => none) (fun x => [claimC x.1, claimC x.2]) (fun x => boo (claimB x.1 x.2)) (fun _ => True) fun x _ => ⟨⟨⟨⟨trivial, trivial, trivial, trivial, trivial, trivial, trivial⟩, ⟨trivial, trivial, trivial, trivial, trivial, trivial, trivial⟩, trivial⟩, trivial⟩, btc_t x.1 x.2⟩
/-sy td1_t
fun (st : TSt) (c : ClaimV) (e : DeclV) (d : D) => reck [cClaim] [] 400 30 15 [claimC c, declA e, .ptr 5 0, .ptr 3 0, .ptr 1 0] (tdM st 0) d
-/
theorem Sy.setc_upd {α : Type} (cells : α → List AV) (f : Nat → α) (k : Nat) (x : α) (hl : ∀ y, (cells y).length = (cells x).length) : setc k 0 (cells x) (fun i j => (cells (f i)).getD j (boo false)) = fun i j => (cells (updN f k x i)).getD j (boo false) := by
  funext i j
  by_cases hi : i = k
  · subst hi
    have e : updN f i x i = x := by simp [updN]
    rw [e]
    by_cases hj : j < (cells x).length
    · rw [setc_in ⟨Nat.zero_le _, by omega⟩, Nat.sub_zero]
      unfold getA
      rw [nth_eq, List.getD_eq_getElem?_getD, List.getElem?_eq_getElem hj]
      rfl
    · rw [setc_out (by omega)]
      rw [List.getD_eq_getElem?_getD, List.getD_eq_getElem?_getD, List.getElem?_eq_none (by rw [hl]; omega), List.getElem?_eq_none (by omega)]
  · have e : updN f k x i = f i := by simp [updN, hi]
    rw [e, setc_out (fun h => hi h.1)]
theorem Sy.setc_i (f : Nat → Bool) (k : Nat) : setc k 0 [boo true] (icell f) = icell (updN f k true) := setc_upd (fun b => [boo b]) f k true (fun _ => rfl)
theorem Sy.setc_v (f : Nat → ValueV) (k : Nat) (v : ValueV) : setc k 0 [int v.kind, int v.n, int v.d, .lit (.string v.name)] (vcell f) = vcell (updN f k v) := setc_upd (fun v => [int v.kind, int v.n, int v.d, .lit (.string v.name)]) f k v (fun _ => rfl)
theorem Sy.setc_m (f : Nat → ClaimV) (k : Nat) (c : ClaimV) : setc k 0 [int c.lv, int c.w.1, int c.w.2.1, int c.w.2.2, int c.r, int c.k] (mcell f) = mcell (updN f k c) := setc_upd (fun c : ClaimV => [int c.lv, int c.w.1, int c.w.2.1, int c.w.2.2, int c.r, int c.k]) f k c (fun _ => rfl)
namespace Sy
/-- the blocks of cascade.Told, and of each's round -/
abbrev tdB (st : TSt) (x : RuleV) (w : Int × Int × Int) (e : DeclV) : List (Option Blk) := some ⟨[int e.prop, int e.kind, int e.n, int e.d, .lit (.string e.name), boo e.loud], 42, none⟩ :: some ⟨[int w.1, int w.2.1, int w.2.2], 27, none⟩ :: some ⟨ruleL x, 34, none⟩ :: (tdM st 0).bs
end Sy
/-sy td2_t
fun (st : TSt) (c : ClaimV) (e : DeclV) (x : RuleV) (w : Int × Int × Int) (d : D) => reck [cClaim] [] 400 30 15 [claimC c, declA e, .ptr 5 0, .ptr 3 0, .ptr 1 0] ⟨9, 0, tdB st x w e⟩ d
-/
theorem stepT_over {c : ClaimV} {e : DeclV} {st : TSt} (h : overT c e st = true) : stepT c e st = st := by unfold stepT; rw [if_pos h]
theorem stepT_on {c : ClaimV} {e : DeclV} {st : TSt} (h : overT c e st = false) : stepT c e st = ⟨updN st.out (e.prop - 1).toNat (declVal e), updN st.met (e.prop - 1).toNat c, updN st.is (e.prop - 1).toNat true⟩ := by unfold stepT; rw [if_neg (by rw [h]; simp)]
/-- what Told's function does to what is known -/
theorem Sy.td2 (st : TSt) (c : ClaimV) (e : DeclV) (x : RuleV) (w : Int × Int × Int) : CallTo Tryz.prog 15 [claimC c, declA e, .ptr 5 0, .ptr 3 0, .ptr 1 0] ⟨9, 0, tdB st x w e⟩ fun v M' => v = .tup [] ∧ M'.top = 11 ∧ M'.bs = some ⟨[int e.prop, int e.kind, int e.n, int e.d, .lit (.string e.name), boo e.loud], 42, none⟩ :: some ⟨[int c.lv, int c.w.1, int c.w.2.1, int c.w.2.2, int c.r, int c.k], 61, none⟩ :: tdB (stepT c e st) x w e :=
  to (G := fun r => r.1 = .tup [] ∧ r.2.top = 11 ∧ r.2.bs = _) [cClaim] [] 400 30 (.br (.auto 2 (.br (.auto 1 (.yes (.auto 0 (.yes (.auto 0 (.br (.auto 2 (.yes (.auto 0 (.yes (.auto 0 (.yes (.auto 3 (.br .done (.yes (.yes (.yes (.yes (.yes (.yes .done)))))))))))))) (.auto 9 (.yes (.yes (.yes (.yes (.yes (.yes .done))))))))))))) (.auto 13 .done))) (.auto 17 .done)) (.fork (!(!(leI (1 : Int) (e).prop))) (.fork (!(!(leI (e).prop (37 : Int)))) (.need (@inR (w64 ((e).prop - (1 : Int))) 37) (.need (@Nat.blt ((w64 ((e).prop - (1 : Int)))).toNat 37) (.fork ((st).is ((w64 ((e).prop - (1 : Int)))).toNat) (.need (@inR (w64 ((e).prop - (1 : Int))) 37) (.need (@Nat.blt ((w64 ((e).prop - (1 : Int)))).toNat 37) (.need (@isSo (@And ([(@AV.agg [(int (c).lv), (int ((c).w).fst), (int (((c).w).snd).fst), (int (((c).w).snd).snd), (int (c).r), (int (c).k)]), (@AV.agg [(int (((st).met ((w64 ((e).prop - (1 : Int)))).toNat)).lv), (int ((((st).met ((w64 ((e).prop - (1 : Int)))).toNat)).w).fst), (int (((((st).met ((w64 ((e).prop - (1 : Int)))).toNat)).w).snd).fst), (int (((((st).met ((w64 ((e).prop - (1 : Int)))).toNat)).w).snd).snd), (int (((st).met ((w64 ((e).prop - (1 : Int)))).toNat)).r), (int (((st).met ((w64 ((e).prop - (1 : Int)))).toNat)).k)])] = [(@AV.agg [(int (c).lv), (int ((c).w).fst), (int (((c).w).snd).fst), (int (((c).w).snd).snd), (int (c).r), (int (c).k)]), (@AV.agg [(int (((st).met ((w64 ((e).prop - (1 : Int)))).toNat)).lv), (int ((((st).met ((w64 ((e).prop - (1 : Int)))).toNat)).w).fst), (int (((((st).met ((w64 ((e).prop - (1 : Int)))).toNat)).w).snd).fst), (int (((((st).met ((w64 ((e).prop - (1 : Int)))).toNat)).w).snd).snd), (int (((st).met ((w64 ((e).prop - (1 : Int)))).toNat)).r), (int (((st).met ((w64 ((e).prop - (1 : Int)))).toNat)).k)])]) True)) (.fork (!(@claimB (@ClaimV.mk (c).lv (((c).w).fst, ((((c).w).snd).fst, (((c).w).snd).snd)) (c).r (c).k) (@ClaimV.mk (((st).met ((w64 ((e).prop - (1 : Int)))).toNat)).lv (((((st).met ((w64 ((e).prop - (1 : Int)))).toNat)).w).fst, ((((((st).met ((w64 ((e).prop - (1 : Int)))).toNat)).w).snd).fst, (((((st).met ((w64 ((e).prop - (1 : Int)))).toNat)).w).snd).snd)) (((st).met ((w64 ((e).prop - (1 : Int)))).toNat)).r (((st).met ((w64 ((e).prop - (1 : Int)))).toNat)).k))) (.leaf ((@AV.tup []), (@Mem.mk ((9 + 1) + 1) 0 [(some (@Blk.mk [(int (e).prop), (int (e).kind), (int (e).n), (int (e).d), (@AV.lit (@Value.string (e).name)), (boo (e).loud)] 42 none)), (some (@Blk.mk [(int (c).lv), (int ((c).w).fst), (int (((c).w).snd).fst), (int (((c).w).snd).snd), (int (c).r), (int (c).k)] 61 none)), (some (@Blk.mk [(int (e).prop), (int (e).kind), (int (e).n), (int (e).d), (@AV.lit (@Value.string (e).name)), (boo (e).loud)] 42 none)), (some (@Blk.mk [(int (w).fst), (int ((w).snd).fst), (int ((w).snd).snd)] 27 none)), (some (@Blk.mk [(int (x).origin), (@AV.lit (@Value.slice (x).ca (x).cn (x).cc)), (sview ((x).sels)), (dview ((x).decls))] 34 none)), (some (@Blk.mk [(@AV.own 4 37 1)] 24 none)), (some (@Blk.mk [] 4 (some (@Rw.mk 37 1 (@icell (st).is))))), (some (@Blk.mk [(@AV.own 2 37 6)] 58 none)), (some (@Blk.mk [] 61 (some (@Rw.mk 37 6 (@mcell (st).met))))), (some (@Blk.mk [(@AV.own 0 37 4)] 36 none)), (some (@Blk.mk [] 40 (some (@Rw.mk 37 4 (@vcell (st).out)))))]))) (.need (@inR (w64 ((e).prop - (1 : Int))) 37) (.need (@Nat.blt ((w64 ((e).prop - (1 : Int)))).toNat 37) (.need (@inR (w64 ((e).prop - (1 : Int))) 37) (.need (@Nat.blt ((w64 ((e).prop - (1 : Int)))).toNat 37) (.need (@inR (w64 ((e).prop - (1 : Int))) 37) (.need (@Nat.blt ((w64 ((e).prop - (1 : Int)))).toNat 37) (.leaf ((@AV.tup []), (@Mem.mk ((9 + 1) + 1) (((0 + 1) + 1) + 1) [(some (@Blk.mk [(int (e).prop), (int (e).kind), (int (e).n), (int (e).d), (@AV.lit (@Value.string (e).name)), (boo (e).loud)] 42 none)), (some (@Blk.mk [(int (c).lv), (int ((c).w).fst), (int (((c).w).snd).fst), (int (((c).w).snd).snd), (int (c).r), (int (c).k)] 61 none)), (some (@Blk.mk [(int (e).prop), (int (e).kind), (int (e).n), (int (e).d), (@AV.lit (@Value.string (e).name)), (boo (e).loud)] 42 none)), (some (@Blk.mk [(int (w).fst), (int ((w).snd).fst), (int ((w).snd).snd)] 27 none)), (some (@Blk.mk [(int (x).origin), (@AV.lit (@Value.slice (x).ca (x).cn (x).cc)), (sview ((x).sels)), (dview ((x).decls))] 34 none)), (some (@Blk.mk [(@AV.own 4 37 1)] 24 none)), (some (@Blk.mk [] 4 (some (@Rw.mk 37 1 (@setc ((w64 ((e).prop - (1 : Int)))).toNat 0 [(boo true)] (@icell (st).is)))))), (some (@Blk.mk [(@AV.own 2 37 6)] 58 none)), (some (@Blk.mk [] 61 (some (@Rw.mk 37 6 (@setc ((w64 ((e).prop - (1 : Int)))).toNat 0 [(int (c).lv), (int ((c).w).fst), (int (((c).w).snd).fst), (int (((c).w).snd).snd), (int (c).r), (int (c).k)] (@mcell (st).met)))))), (some (@Blk.mk [(@AV.own 0 37 4)] 36 none)), (some (@Blk.mk [] 40 (some (@Rw.mk 37 4 (@setc ((w64 ((e).prop - (1 : Int)))).toNat 0 [(int (e).kind), (int (e).n), (int (e).d), (@AV.lit (@Value.string (e).name))] (@vcell (st).out))))))]))))))))))))) (.need (@inR (w64 ((e).prop - (1 : Int))) 37) (.need (@Nat.blt ((w64 ((e).prop - (1 : Int)))).toNat 37) (.need (@inR (w64 ((e).prop - (1 : Int))) 37) (.need (@Nat.blt ((w64 ((e).prop - (1 : Int)))).toNat 37) (.need (@inR (w64 ((e).prop - (1 : Int))) 37) (.need (@Nat.blt ((w64 ((e).prop - (1 : Int)))).toNat 37) (.leaf ((@AV.tup []), (@Mem.mk ((9 + 1) + 1) (((0 + 1) + 1) + 1) [(some (@Blk.mk [(int (e).prop), (int (e).kind), (int (e).n), (int (e).d), (@AV.lit (@Value.string (e).name)), (boo (e).loud)] 42 none)), (some (@Blk.mk [(int (c).lv), (int ((c).w).fst), (int (((c).w).snd).fst), (int (((c).w).snd).snd), (int (c).r), (int (c).k)] 61 none)), (some (@Blk.mk [(int (e).prop), (int (e).kind), (int (e).n), (int (e).d), (@AV.lit (@Value.string (e).name)), (boo (e).loud)] 42 none)), (some (@Blk.mk [(int (w).fst), (int ((w).snd).fst), (int ((w).snd).snd)] 27 none)), (some (@Blk.mk [(int (x).origin), (@AV.lit (@Value.slice (x).ca (x).cn (x).cc)), (sview ((x).sels)), (dview ((x).decls))] 34 none)), (some (@Blk.mk [(@AV.own 4 37 1)] 24 none)), (some (@Blk.mk [] 4 (some (@Rw.mk 37 1 (@setc ((w64 ((e).prop - (1 : Int)))).toNat 0 [(boo true)] (@icell (st).is)))))), (some (@Blk.mk [(@AV.own 2 37 6)] 58 none)), (some (@Blk.mk [] 61 (some (@Rw.mk 37 6 (@setc ((w64 ((e).prop - (1 : Int)))).toNat 0 [(int (c).lv), (int ((c).w).fst), (int (((c).w).snd).fst), (int (((c).w).snd).snd), (int (c).r), (int (c).k)] (@mcell (st).met)))))), (some (@Blk.mk [(@AV.own 0 37 4)] 36 none)), (some (@Blk.mk [] 40 (some (@Rw.mk 37 4 (@setc ((w64 ((e).prop - (1 : Int)))).toNat 0 [(int (e).kind), (int (e).n), (int (e).d), (@AV.lit (@Value.string (e).name))] (@vcell (st).out))))))])))))))))))) (.leaf ((@AV.tup []), (@Mem.mk ((9 + 1) + 1) 0 [(some (@Blk.mk [(int (e).prop), (int (e).kind), (int (e).n), (int (e).d), (@AV.lit (@Value.string (e).name)), (boo (e).loud)] 42 none)), (some (@Blk.mk [(int (c).lv), (int ((c).w).fst), (int (((c).w).snd).fst), (int (((c).w).snd).snd), (int (c).r), (int (c).k)] 61 none)), (some (@Blk.mk [(int (e).prop), (int (e).kind), (int (e).n), (int (e).d), (@AV.lit (@Value.string (e).name)), (boo (e).loud)] 42 none)), (some (@Blk.mk [(int (w).fst), (int ((w).snd).fst), (int ((w).snd).snd)] 27 none)), (some (@Blk.mk [(int (x).origin), (@AV.lit (@Value.slice (x).ca (x).cn (x).cc)), (sview ((x).sels)), (dview ((x).decls))] 34 none)), (some (@Blk.mk [(@AV.own 4 37 1)] 24 none)), (some (@Blk.mk [] 4 (some (@Rw.mk 37 1 (@icell (st).is))))), (some (@Blk.mk [(@AV.own 2 37 6)] 58 none)), (some (@Blk.mk [] 61 (some (@Rw.mk 37 6 (@mcell (st).met))))), (some (@Blk.mk [(@AV.own 0 37 4)] 36 none)), (some (@Blk.mk [] 40 (some (@Rw.mk 37 4 (@vcell (st).out)))))])))) (.leaf ((@AV.tup []), (@Mem.mk ((9 + 1) + 1) 0 [(some (@Blk.mk [(int (e).prop), (int (e).kind), (int (e).n), (int (e).d), (@AV.lit (@Value.string (e).name)), (boo (e).loud)] 42 none)), (some (@Blk.mk [(int (c).lv), (int ((c).w).fst), (int (((c).w).snd).fst), (int (((c).w).snd).snd), (int (c).r), (int (c).k)] 61 none)), (some (@Blk.mk [(int (e).prop), (int (e).kind), (int (e).n), (int (e).d), (@AV.lit (@Value.string (e).name)), (boo (e).loud)] 42 none)), (some (@Blk.mk [(int (w).fst), (int ((w).snd).fst), (int ((w).snd).snd)] 27 none)), (some (@Blk.mk [(int (x).origin), (@AV.lit (@Value.slice (x).ca (x).cn (x).cc)), (sview ((x).sels)), (dview ((x).decls))] 34 none)), (some (@Blk.mk [(@AV.own 4 37 1)] 24 none)), (some (@Blk.mk [] 4 (some (@Rw.mk 37 1 (@icell (st).is))))), (some (@Blk.mk [(@AV.own 2 37 6)] 58 none)), (some (@Blk.mk [] 61 (some (@Rw.mk 37 6 (@mcell (st).met))))), (some (@Blk.mk [(@AV.own 0 37 4)] 36 none)), (some (@Blk.mk [] 40 (some (@Rw.mk 37 4 (@vcell (st).out)))))])))) (by kernel_rfl) (by
    refine fork_ok (fun h1 => fork_ok (fun h2 => ?_) (fun h2 => ?_)) (fun h1 => ?_)
    · have h1' : leI 1 e.prop = true := by simpa using h1
      have h2' : leI e.prop 37 = true := by simpa using h2
      have b1 := h1'
      have b2 := h2'
      rw [leI_t] at b1 b2
      have hw : w64 (e.prop - 1) = e.prop - 1 := w64_in (by omega)
      have hr : inR (w64 (e.prop - 1)) 37 = true := by rw [inR_t, hw]; omega
      have hb : Nat.blt (w64 (e.prop - 1)).toNat 37 = true := by rw [Nat.blt_eq, hw]; omega
      refine need_t hr (need_t hb (fork_ok (fun h3 => need_t hr (need_t hb (need_so ⟨rfl, trivial⟩ (fork_ok (fun h4 => ?_) (fun h4 => need_t hr (need_t hb (need_t hr (need_t hb (need_t hr (need_t hb ?_)))))))))) (fun h3 => need_t hr (need_t hb (need_t hr (need_t hb (need_t hr (need_t hb ?_))))))))
      · rw [hw] at h3 h4
        rw [stepT_over (by unfold overT; rw [h3, show claimB c (st.met (e.prop - 1).toNat) = false by simpa using h4]; simp)]
        exact ⟨rfl, rfl, rfl⟩
      · rw [hw] at h3 h4
        rw [stepT_on (by unfold overT; rw [h1', h2', h3, show claimB c (st.met (e.prop - 1).toNat) = true by simpa using h4]; rfl), hw]
        refine ⟨rfl, rfl, ?_⟩
        have e3 : setc (e.prop - 1).toNat 0 [int e.kind, int e.n, int e.d, .lit (.string e.name)] (vcell st.out) = vcell (updN st.out (e.prop - 1).toNat (declVal e)) := setc_v st.out _ (declVal e)
        rw [setc_i, setc_m, e3]
      · rw [hw] at h3
        rw [stepT_on (by unfold overT; rw [h1', h2', h3]; rfl), hw]
        refine ⟨rfl, rfl, ?_⟩
        have e3 : setc (e.prop - 1).toNat 0 [int e.kind, int e.n, int e.d, .lit (.string e.name)] (vcell st.out) = vcell (updN st.out (e.prop - 1).toNat (declVal e)) := setc_v st.out _ (declVal e)
        rw [setc_i, setc_m, e3]
    · have h2' : leI e.prop 37 = false := by simpa using h2
      rw [stepT_over (by unfold overT; rw [h2']; simp)]
      exact ⟨rfl, rfl, rfl⟩
    · have h1' : leI 1 e.prop = false := by simpa using h1
      rw [stepT_over (by unfold overT; rw [h1']; simp)]
      exact ⟨rfl, rfl, rfl⟩)
abbrev Sy.tdB2 (st : TSt) (c : ClaimV) (e : DeclV) (x : RuleV) (w : Int × Int × Int) : List (Option Blk) := some ⟨[int e.prop, int e.kind, int e.n, int e.d, .lit (.string e.name), boo e.loud], 42, none⟩ :: some ⟨[int c.lv, int c.w.1, int c.w.2.1, int c.w.2.2, int c.r, int c.k], 61, none⟩ :: tdB (stepT c e st) x w e
/-- Told's function as a contract, at one memory -/
noncomputable abbrev Sy.cTd (st : TSt) (c : ClaimV) (e : DeclV) (x : RuleV) (w : Int × Int × Int) : Con Tryz.prog where
  f := 15
  run := fun args M => some (.tup [], ⟨11, M.stamp + 1, tdB2 st c e x w⟩)
  ob := fun args M => some (isSo (args = [claimC c, declA e, .ptr 5 0, .ptr 3 0, .ptr 1 0] ∧ M.top = 9 ∧ M.bs = tdB st x w e))
  ok := fun args M v M' hr hob => by
    simp only [Option.some.injEq, Prod.mk.injEq] at hr
    obtain ⟨rfl, rfl⟩ := hr
    have h1 := hob _ rfl
    rw [isSo_t] at h1
    obtain ⟨rfl, ht, hb⟩ := h1
    obtain ⟨top, stamp, bs⟩ := M
    simp only at ht hb
    subst ht hb
    refine ⟨⟨by simp only; omega, by simp only; omega, fun e => by simp only at e; omega⟩, fun w0 ρ us w' h1 h2 => ?_⟩
    refine (td2 st c e x w w0 ρ us w' h1 (h2.restamp 0)).mono ?_
    rintro ex w2 ⟨ρ', u, v, M', q1, q2, q3, q4, rfl, q5, q6⟩
    obtain ⟨top', stamp', bs'⟩ := M'
    simp only at q5 q6
    subst q5 q6
    exact ⟨ρ', u, _, _, q1, q2, q3, q4.restamp (stamp + 1), rfl, rfl⟩
/-! ### each, with that function -/
namespace Sy
abbrev eaF (ns : List NodeW) (i : Int) (rs : List RuleV) (on : List Bool) (r : Int) : Fr := [some ((@AV.view (ns).length 6 (@ncell ns))), some ((int i)), some ((rview (rs))), some ((bview (on))), some ((@AV.fn (@Fn.func 15) [] [(@AV.ptr 5 0), (@AV.ptr 3 0), (@AV.ptr 1 0)])), none, none, none, none, none, none, none, none, none, none, none, some ((rview (rs))), some ((int (((rs).length : Nat) : Int))), some (int r), none, none, none, none, none, none, none, none, none, none, none, none, none, none, none, none, none, none, none, none, none, none, none, none, none, none, none, none, none, none, none, none, none, none, none, none, none, none, none, none, none, none, none, none, none, none, none]
end Sy
/-sy ea_p2
fun (ns : List NodeW) (i : Int) (rs : List RuleV) (on : List Bool) (st : TSt) (r : Int) (d : D) => probeL SyTool.probe [cPBest ns i (rs.getD r.toNat ruleNone).sels] 400 30 14 2 (eaF ns i rs on r) (tdM st 0) d
-/
namespace Sy
/-- the blocks of each's round, ahead of its inner loop -/
abbrev eaB (st : TSt) (x : RuleV) (w : Int × Int × Int) : List (Option Blk) := some ⟨[int w.1, int w.2.1, int w.2.2], 27, none⟩ :: some ⟨ruleL x, 34, none⟩ :: (tdM st 0).bs
abbrev ebF (ns : List NodeW) (i : Int) (rs : List RuleV) (on : List Bool) (r k : Int) (b : Bool) : Fr := [some ((@AV.view (ns).length 6 (@ncell ns))), some ((int i)), some ((rview (rs))), some ((bview (on))), some ((@AV.fn (@Fn.func 15) [] [(@AV.ptr 5 0), (@AV.ptr 3 0), (@AV.ptr 1 0)])), none, none, none, none, none, some ((int r)), some ((@AV.ptr 6 0)), some ((@AV.ptr (6 + 1) 0)), some (boo b), none, none, some ((rview (rs))), some ((int (((rs).length : Nat) : Int))), some ((int r)), none, none, none, none, none, none, none, none, none, none, none, none, none, none, none, none, none, none, none, none, none, none, none, none, none, none, some ((dview (((rs.getD (r).toNat ruleNone)).decls))), some ((int (((((rs.getD (r).toNat ruleNone)).decls).length : Nat) : Int))), some (int k), none, none, none, none, none, none, none, none, none, none, none, none, none, none, none, none, none, none]
end Sy
/-- the declaration of a rule's that stands at a place -/
abbrev declN (x : RuleV) (k : Int) : DeclV := x.decls.getD k.toNat declNone
abbrev ruleN (rs : List RuleV) (r : Int) : RuleV := rs.getD r.toNat ruleNone
/-sy eb_r
fun (ns : List NodeW) (i : Int) (rs : List RuleV) (on : List Bool) (st : TSt) (w : Int × Int × Int) (r k : Int) (b : Bool) (d : D) => reckL [cTd st ⟨lvlI (ruleN rs r).origin (declN (ruleN rs r) k).loud, w, r, k⟩ (declN (ruleN rs r) k) (ruleN rs r) w, cLevel] [] 400 30 14 8 [true, true, true, true, true, false, false, false, false, false, true, true, true, true, false, false, true, true, true, false, false, false, false, false, false, false, false, false, false, false, false, false, false, false, false, false, false, false, false, false, false, false, false, false, false, true, true, true, false, false, false, false, false, false, false, false, false, false, false, false, false, false, false, false, false, false] (ebF ns i rs on r k b) ⟨8, 0, eaB st (ruleN rs r) w⟩ d
-/
end Go.Proofs.YtmlhipckgmbpfaaGreat
namespace Go.Proofs.YtmlhipckgmbpfaaGreat
open Go Go.RowKit Pl Sy
set_option linter.unusedVariables false
set_option linter.unusedSimpArgs false

def DeclsOk (x : RuleV) : Prop := x.decls.length ≤ 17592186044416
noncomputable abbrev Sy.bestW (ns : List NodeW) (i : Int) (x : RuleV) : Int × Int × Int := (bestV ns i x.sels).1
theorem Sy.vcell_free (f : Nat → ValueV) (i j : Nat) : Free (vcell f i j) := by
  unfold vcell
  rcases j with _ | _ | _ | _ | j <;> exact trivial
theorem Sy.mcell_free (f : Nat → ClaimV) (i j : Nat) : Free (mcell f i j) := by
  unfold mcell
  rcases j with _ | _ | _ | _ | _ | _ | j <;> exact trivial
theorem Sy.icell_free (f : Nat → Bool) (i j : Nat) : Free (icell f i j) := by
  unfold icell
  rcases j with _ | j <;> exact trivial
theorem Sy.dview_free (ds : List DeclV) : Free (dview ds) := viewOf_free _ _ _ _
theorem Sy.rview_free (rs : List RuleV) : Free (rview rs) := fun i j => by
  rcases j with _ | _ | _ | _ | j
  · exact trivial
  · exact trivial
  · exact sview_free _
  · exact dview_free _
  · exact trivial
theorem Sy.bview_free (bs : List Bool) : Free (bview bs) := fun i j => trivial
/-- the first six blocks stand as they are -/
theorem Sy.tdM_ren {M : Mem} {st : TSt} {l : List (Option Blk)} {σ : List Nat} (hσ : σ.take 6 = [0, 1, 2, 3, 4, 5]) (hM : ∀ k, k < 6 → M.get k = (tdM st 0).get k) : RenL σ M (tdM st 0).bs := by
  have id : ∀ k, k < 6 → σ[k]? = some k := fun k hk => by
    have : (σ.take 6)[k]? = some k := by
      rw [hσ]
      rcases k with _ | _ | _ | _ | _ | _ | k
      · rfl
      · rfl
      · rfl
      · rfl
      · rfl
      · rfl
      · omega
    rwa [List.getElem?_take, if_pos hk] at this
  refine ⟨⟨5, _, id 5 (by omega), hM 5 (by omega), rfl, ⟨⟨id 4 (by omega), rfl, rfl⟩, trivial⟩, trivial⟩, ⟨4, _, id 4 (by omega), hM 4 (by omega), rfl, trivial, rfl, rfl, fun i j _ _ => RenV.free σ (icell_free _ i j)⟩, ⟨3, _, id 3 (by omega), hM 3 (by omega), rfl, ⟨⟨id 2 (by omega), rfl, rfl⟩, trivial⟩, trivial⟩, ⟨2, _, id 2 (by omega), hM 2 (by omega), rfl, trivial, rfl, rfl, fun i j _ _ => RenV.free σ (mcell_free _ i j)⟩, ⟨1, _, id 1 (by omega), hM 1 (by omega), rfl, ⟨⟨id 0 (by omega), rfl, rfl⟩, trivial⟩, trivial⟩, ⟨0, _, id 0 (by omega), hM 0 (by omega), rfl, trivial, rfl, rfl, fun i j _ _ => RenV.free σ (vcell_free _ i j)⟩, trivial⟩
theorem Sy.td_get (l : List (Option Blk)) (s : Nat) (st : TSt) (k : Nat) (hk : k < 6) : Mem.get ⟨l.length + 6, s, l ++ (tdM st 0).bs⟩ k = (tdM st 0).get k := by
  rw [Mem.get_def, Mem.get_def, if_pos (show k < l.length + 6 by omega), if_pos (show k < 6 by omega)]
  simp only
  rw [List.getElem?_append_right (by omega), show l.length + 6 - 1 - k - l.length = 6 - 1 - k by omega]
theorem Sy.ebF_ren (ns : List NodeW) (i : Int) (rs : List RuleV) (on : List Bool) (r k k' : Int) (b : Bool) (h : k = k') : RenF [0, 1, 2, 3, 4, 5, 6, 7] (ebF ns i rs on r k b) (ebF ns i rs on r k' b) := by
  subst h
  simp only [RenF, and_true]
  exact ⟨RenV.free _ (nview_free ns), rfl, RenV.free _ (rview_free rs), RenV.free _ (bview_free on), ⟨rfl, trivial, ⟨rfl, rfl⟩, ⟨rfl, rfl⟩, ⟨rfl, rfl⟩, trivial⟩, rfl, ⟨rfl, rfl⟩, ⟨rfl, rfl⟩, rfl, RenV.free _ (rview_free rs), rfl, rfl, RenV.free _ (dview_free _), rfl, rfl⟩
theorem Sy.eb_cut {M : Mem} {st : TSt} {x : RuleV} {w : Int × Int × Int} (hM : ∀ k, k < 6 → M.get k = (tdM st 0).get k) (h6 : M.get 6 = some ⟨ruleL x, 34, none⟩) (h7 : M.get 7 = some ⟨[int w.1, int w.2.1, int w.2.2], 27, none⟩) : RenM [0, 1, 2, 3, 4, 5, 6, 7] M ⟨8, 0, eaB st x w⟩ :=
  ⟨rfl, rfl, by decide, ⟨7, _, rfl, h7, rfl, ⟨rfl, rfl, rfl, trivial⟩, trivial⟩, ⟨6, _, rfl, h6, rfl, ⟨rfl, rfl, RenV.free _ (sview_free _), RenV.free _ (dview_free _), trivial⟩, trivial⟩, tdM_ren (l := []) rfl hM⟩
theorem Sy.eb_step (ns : List NodeW) (i : Int) (rs : List RuleV) (on : List Bool) (r : Int) (b : Bool) (hr : inR r rs.length = true) (hd : DeclsOk (ruleN rs r)) (w : Int × Int × Int) (k : Int) (st : TSt) (n : Nat) (G : Ex → Fr → Mem → Prop) (h0 : 0 ≤ k) (hk : k ≤ (ruleN rs r).decls.length)
    (c1 : k < (ruleN rs r).decls.length → LoopToT 8 Tryz.prog (theBody Tryz.prog 14 8) n (ebF ns i rs on r (k + 1) b) ⟨8, 0, eaB (stepT ⟨lvlI (ruleN rs r).origin (declN (ruleN rs r) k).loud, w, r, k⟩ (declN (ruleN rs r) k) st) (ruleN rs r) w⟩ G)
    (c2 : k = (ruleN rs r).decls.length → G (.exit 2) (ebF ns i rs on r k b) ⟨8, 0, eaB st (ruleN rs r) w⟩) :
    LoopToT 8 Tryz.prog (theBody Tryz.prog 14 8) (n + 1) (ebF ns i rs on r k b) ⟨8, 0, eaB st (ruleN rs r) w⟩ G := by
  unfold DeclsOk at hd
  refine roundT plain mixed 8 [cTd st ⟨lvlI (ruleN rs r).origin (declN (ruleN rs r) k).loud, w, r, k⟩ (declN (ruleN rs r) k) (ruleN rs r) w, cLevel] [] 400 30 14 8 Tryz.func14 rfl (by kernel_rfl) [true, true, true, true, true, false, false, false, false, false, true, true, true, true, false, false, true, true, true, false, false, false, false, false, false, false, false, false, false, false, false, false, false, false, false, false, false, false, false, false, false, false, false, false, false, true, true, true, false, false, false, false, false, false, false, false, false, false, false, false, false, false, false, false, false, false] (.br (.yes (.yes (.yes .done))) .done) (.fork (!(leI (((((rs.getD (r).toNat ruleNone)).decls).length : Nat) : Int) k)) (.need (@inR k (((rs.getD (r).toNat ruleNone)).decls).length) (.need (@isSo (@And ([(int ((@ruleN rs r)).origin), (boo ((((rs.getD (r).toNat ruleNone)).decls.getD (k).toNat declNone)).loud)] = [(int ((@ruleN rs r)).origin), (boo ((((rs.getD (r).toNat ruleNone)).decls.getD (k).toNat declNone)).loud)]) True)) (.need (@isSo (@And ([(@AV.agg ((int (@lvlI ((@ruleN rs r)).origin ((((rs.getD (r).toNat ruleNone)).decls.getD (k).toNat declNone)).loud)) :: (int (w).fst) :: (int ((w).snd).fst) :: (int ((w).snd).snd) :: ((int r) :: ((int k) :: (@List.drop _ (5 + ([(int k)]).length) ((int (@lvlI ((@ruleN rs r)).origin ((((rs.getD (r).toNat ruleNone)).decls.getD (k).toNat declNone)).loud)) :: (int (w).fst) :: (int ((w).snd).fst) :: (int ((w).snd).snd) :: ((int r) :: (@List.drop _ (4 + ([(int r)]).length) ((int (@lvlI ((@ruleN rs r)).origin ((((rs.getD (r).toNat ruleNone)).decls.getD (k).toNat declNone)).loud)) :: (int (w).fst) :: (int ((w).snd).fst) :: (int ((w).snd).snd) :: (@List.drop _ (1 + ([(int (w).fst), (int ((w).snd).fst), (int ((w).snd).snd)]).length) [(int (@lvlI ((@ruleN rs r)).origin ((((rs.getD (r).toNat ruleNone)).decls.getD (k).toNat declNone)).loud)), (int (0 : Int)), (int (0 : Int)), (int (0 : Int)), (int (0 : Int)), (int (0 : Int))])))))))))), (@AV.agg [(int ((((rs.getD (r).toNat ruleNone)).decls.getD (k).toNat declNone)).prop), (int ((((rs.getD (r).toNat ruleNone)).decls.getD (k).toNat declNone)).kind), (int ((((rs.getD (r).toNat ruleNone)).decls.getD (k).toNat declNone)).n), (int ((((rs.getD (r).toNat ruleNone)).decls.getD (k).toNat declNone)).d), (@AV.lit (@Value.string ((((rs.getD (r).toNat ruleNone)).decls.getD (k).toNat declNone)).name)), (boo ((((rs.getD (r).toNat ruleNone)).decls.getD (k).toNat declNone)).loud)]), (@AV.ptr 5 0), (@AV.ptr 3 0), (@AV.ptr 1 0)] = [(@AV.agg [(int (@lvlI ((@ruleN rs r)).origin ((@declN (@ruleN rs r) k)).loud)), (int (w).fst), (int ((w).snd).fst), (int ((w).snd).snd), (int r), (int k)]), (@AV.agg [(int ((@declN (@ruleN rs r) k)).prop), (int ((@declN (@ruleN rs r) k)).kind), (int ((@declN (@ruleN rs r) k)).n), (int ((@declN (@ruleN rs r) k)).d), (@AV.lit (@Value.string ((@declN (@ruleN rs r) k)).name)), (boo ((@declN (@ruleN rs r) k)).loud)]), (@AV.ptr 5 0), (@AV.ptr 3 0), (@AV.ptr 1 0)]) (@And ((8 + 1) = 9) ([(some (@Blk.mk [(int ((((rs.getD (r).toNat ruleNone)).decls.getD (k).toNat declNone)).prop), (int ((((rs.getD (r).toNat ruleNone)).decls.getD (k).toNat declNone)).kind), (int ((((rs.getD (r).toNat ruleNone)).decls.getD (k).toNat declNone)).n), (int ((((rs.getD (r).toNat ruleNone)).decls.getD (k).toNat declNone)).d), (@AV.lit (@Value.string ((((rs.getD (r).toNat ruleNone)).decls.getD (k).toNat declNone)).name)), (boo ((((rs.getD (r).toNat ruleNone)).decls.getD (k).toNat declNone)).loud)] 42 none)), (some (@Blk.mk [(int (w).fst), (int ((w).snd).fst), (int ((w).snd).snd)] 27 none)), (some (@Blk.mk [(int ((@ruleN rs r)).origin), (@AV.lit (@Value.slice ((@ruleN rs r)).ca ((@ruleN rs r)).cn ((@ruleN rs r)).cc)), (sview (((@ruleN rs r)).sels)), (dview (((@ruleN rs r)).decls))] 34 none)), (some (@Blk.mk [(@AV.own 4 37 1)] 24 none)), (some (@Blk.mk [] 4 (some (@Rw.mk 37 1 (@icell (st).is))))), (some (@Blk.mk [(@AV.own 2 37 6)] 58 none)), (some (@Blk.mk [] 61 (some (@Rw.mk 37 6 (@mcell (st).met))))), (some (@Blk.mk [(@AV.own 0 37 4)] 36 none)), (some (@Blk.mk [] 40 (some (@Rw.mk 37 4 (@vcell (st).out)))))] = [(some (@Blk.mk [(int ((@declN (@ruleN rs r) k)).prop), (int ((@declN (@ruleN rs r) k)).kind), (int ((@declN (@ruleN rs r) k)).n), (int ((@declN (@ruleN rs r) k)).d), (@AV.lit (@Value.string ((@declN (@ruleN rs r) k)).name)), (boo ((@declN (@ruleN rs r) k)).loud)] 42 none)), (some (@Blk.mk [(int (w).fst), (int ((w).snd).fst), (int ((w).snd).snd)] 27 none)), (some (@Blk.mk [(int ((@ruleN rs r)).origin), (@AV.lit (@Value.slice ((@ruleN rs r)).ca ((@ruleN rs r)).cn ((@ruleN rs r)).cc)), (sview (((@ruleN rs r)).sels)), (dview (((@ruleN rs r)).decls))] 34 none)), (some (@Blk.mk [(@AV.own 4 37 1)] 24 none)), (some (@Blk.mk [] 4 (some (@Rw.mk 37 1 (@icell (st).is))))), (some (@Blk.mk [(@AV.own 2 37 6)] 58 none)), (some (@Blk.mk [] 61 (some (@Rw.mk 37 6 (@mcell (st).met))))), (some (@Blk.mk [(@AV.own 0 37 4)] 36 none)), (some (@Blk.mk [] 40 (some (@Rw.mk 37 4 (@vcell (st).out)))))])))) (.leaf (Ex.norm, ([(some (@AV.view (ns).length 6 (@ncell ns))), (some (int i)), (some (rview (rs))), (some (bview (on))), (some (@AV.fn (@Fn.func 15) [] [(@AV.ptr 5 0), (@AV.ptr 3 0), (@AV.ptr 1 0)])), none, none, none, none, none, (some (int r)), (some (@AV.ptr 6 0)), (some (@AV.ptr 7 0)), (some (boo b)), none, none, (some (rview (rs))), (some (int (((rs).length : Nat) : Int))), (some (int r)), none, none, none, none, none, none, none, none, none, none, none, none, none, none, none, none, none, none, none, none, none, none, none, none, none, none, (some (dview (((rs.getD (r).toNat ruleNone)).decls))), (some (int (((((rs.getD (r).toNat ruleNone)).decls).length : Nat) : Int))), (some (int (w64 (k + (1 : Int))))), none, none, none, none, none, none, none, none, none, none, none, none, none, none, none, none, none, none], (@Mem.mk 11 ((0 + 1) + 1) [(some (@Blk.mk [(int ((@declN (@ruleN rs r) k)).prop), (int ((@declN (@ruleN rs r) k)).kind), (int ((@declN (@ruleN rs r) k)).n), (int ((@declN (@ruleN rs r) k)).d), (@AV.lit (@Value.string ((@declN (@ruleN rs r) k)).name)), (boo ((@declN (@ruleN rs r) k)).loud)] 42 none)), (some (@Blk.mk [(int (@lvlI ((@ruleN rs r)).origin ((@declN (@ruleN rs r) k)).loud)), (int (w).fst), (int ((w).snd).fst), (int ((w).snd).snd), (int r), (int k)] 61 none)), (some (@Blk.mk [(int ((@declN (@ruleN rs r) k)).prop), (int ((@declN (@ruleN rs r) k)).kind), (int ((@declN (@ruleN rs r) k)).n), (int ((@declN (@ruleN rs r) k)).d), (@AV.lit (@Value.string ((@declN (@ruleN rs r) k)).name)), (boo ((@declN (@ruleN rs r) k)).loud)] 42 none)), (some (@Blk.mk [(int (w).fst), (int ((w).snd).fst), (int ((w).snd).snd)] 27 none)), (some (@Blk.mk [(int ((@ruleN rs r)).origin), (@AV.lit (@Value.slice ((@ruleN rs r)).ca ((@ruleN rs r)).cn ((@ruleN rs r)).cc)), (sview (((@ruleN rs r)).sels)), (dview (((@ruleN rs r)).decls))] 34 none)), (some (@Blk.mk [(@AV.own 4 37 1)] 24 none)), (some (@Blk.mk [] 4 (some (@Rw.mk 37 1 (@icell ((@stepT (@ClaimV.mk (@lvlI ((@ruleN rs r)).origin ((@declN (@ruleN rs r) k)).loud) w r k) (@declN (@ruleN rs r) k) st)).is))))), (some (@Blk.mk [(@AV.own 2 37 6)] 58 none)), (some (@Blk.mk [] 61 (some (@Rw.mk 37 6 (@mcell ((@stepT (@ClaimV.mk (@lvlI ((@ruleN rs r)).origin ((@declN (@ruleN rs r) k)).loud) w r k) (@declN (@ruleN rs r) k) st)).met))))), (some (@Blk.mk [(@AV.own 0 37 4)] 36 none)), (some (@Blk.mk [] 40 (some (@Rw.mk 37 4 (@vcell ((@stepT (@ClaimV.mk (@lvlI ((@ruleN rs r)).origin ((@declN (@ruleN rs r) k)).loud) w r k) (@declN (@ruleN rs r) k) st)).out)))))]))))))) (.leaf ((@Ex.exit 2), ([(some (@AV.view (ns).length 6 (@ncell ns))), (some (int i)), (some (rview (rs))), (some (bview (on))), (some (@AV.fn (@Fn.func 15) [] [(@AV.ptr 5 0), (@AV.ptr 3 0), (@AV.ptr 1 0)])), none, none, none, none, none, (some (int r)), (some (@AV.ptr 6 0)), (some (@AV.ptr 7 0)), (some (boo b)), none, none, (some (rview (rs))), (some (int (((rs).length : Nat) : Int))), (some (int r)), none, none, none, none, none, none, none, none, none, none, none, none, none, none, none, none, none, none, none, none, none, none, none, none, none, none, (some (dview (((rs.getD (r).toNat ruleNone)).decls))), (some (int (((((rs.getD (r).toNat ruleNone)).decls).length : Nat) : Int))), (some (int k)), none, none, none, none, none, none, none, none, none, none, none, none, none, none, none, none, none, none], (@Mem.mk 8 0 [(some (@Blk.mk [(int (w).fst), (int ((w).snd).fst), (int ((w).snd).snd)] 27 none)), (some (@Blk.mk [(int ((@ruleN rs r)).origin), (@AV.lit (@Value.slice ((@ruleN rs r)).ca ((@ruleN rs r)).cn ((@ruleN rs r)).cc)), (sview (((@ruleN rs r)).sels)), (dview (((@ruleN rs r)).decls))] 34 none)), (some (@Blk.mk [(@AV.own 4 37 1)] 24 none)), (some (@Blk.mk [] 4 (some (@Rw.mk 37 1 (@icell (st).is))))), (some (@Blk.mk [(@AV.own 2 37 6)] 58 none)), (some (@Blk.mk [] 61 (some (@Rw.mk 37 6 (@mcell (st).met))))), (some (@Blk.mk [(@AV.own 0 37 4)] 36 none)), (some (@Blk.mk [] 40 (some (@Rw.mk 37 4 (@vcell (st).out)))))]))))) (by kernel_rfl) ?_
  have hl' : ((rs.getD r.toNat ruleNone).decls).length = (ruleN rs r).decls.length := rfl
  refine fork_ok (fun h1 => ?_) (fun h1 => ?_)
  · simp only [Bool.not_eq_true', Bool.not_eq_false', leI_t, leI_f, eqI_t, eqI_f, inR_t, inR_f, isSo_t, isSo_f] at h1
    have hk64 : w64 (k + 1) = k + 1 := w64_in (by omega)
    have hin : inR k ((rs.getD r.toNat ruleNone).decls).length = true := by rw [inR_t]; omega
    refine need_t hin (need_so ⟨rfl, trivial⟩ (need_so ⟨rfl, rfl, rfl⟩ ?_))
    exact LoopToT.ren [0, 1, 2, 3, 4, 5, 6, 7] rfl (ebF_ren ns i rs on r _ _ b hk64) (eb_cut (fun k hk => td_get [_, _, _, _, _] _ _ k hk) rfl rfl) (c1 (by omega))
  · simp only [Bool.not_eq_true', Bool.not_eq_false', leI_t, leI_f, eqI_t, eqI_f, inR_t, inR_f, isSo_t, isSo_f] at h1
    exact c2 (by omega)
/-- the declarations of a rule -/
theorem Sy.eb_loop (ns : List NodeW) (i : Int) (rs : List RuleV) (on : List Bool) (r : Int) (b : Bool) (hr : inR r rs.length = true) (hd : DeclsOk (ruleN rs r)) (w : Int × Int × Int) : ∀ (l pre : List DeclV) (k : Int) (st : TSt), (ruleN rs r).decls = pre ++ l → k = pre.length →
    LoopToT 8 Tryz.prog (theBody Tryz.prog 14 8) (l.length + 1) (ebF ns i rs on r k b) ⟨8, 0, eaB st (ruleN rs r) w⟩ fun ex F' M' => ex = .exit 2 ∧ F' = ebF ns i rs on r (ruleN rs r).decls.length b ∧ M' = ⟨8, 0, eaB (declsT (ruleN rs r).origin w r l k st) (ruleN rs r) w⟩ := by
  intro l
  induction l with
  | nil =>
    intro pre k st h hk
    have hl : (ruleN rs r).decls.length = pre.length := by rw [h]; simp
    exact eb_step ns i rs on r b hr hd w k st _ _ (by omega) (by omega) (fun h1 => by omega) (fun h1 => ⟨rfl, by rw [h1], rfl⟩)
  | cons d l ih =>
    intro pre k st h hk
    have hl : (ruleN rs r).decls.length = pre.length + l.length + 1 := by rw [h]; simp; omega
    have hg : declN (ruleN rs r) k = d := by unfold declN; rw [h]; exact getD_at _ _ _ _ _ hk
    refine eb_step ns i rs on r b hr hd w k st _ _ (by omega) (by omega) (fun h1 => ?_) (fun h1 => by omega)
    rw [hg]
    exact ih (pre ++ [d]) (k + 1) (stepT ⟨lvlI (ruleN rs r).origin d.loud, w, r, k⟩ d st) (by rw [h]; simp) (by simp; omega)
namespace Sy
abbrev ebE (ns : List NodeW) (i : Int) (rs : List RuleV) (on : List Bool) (r : Int) (b : Bool) : Fr := [some ((@AV.view (ns).length 6 (@ncell ns))), some ((int i)), some ((rview (rs))), some ((bview (on))), some ((@AV.fn (@Fn.func 15) [] [(@AV.ptr 5 0), (@AV.ptr 3 0), (@AV.ptr 1 0)])), none, none, none, none, none, some ((int r)), some ((@AV.ptr 6 0)), some ((@AV.ptr (6 + 1) 0)), some (boo b), none, none, some ((rview (rs))), some ((int (((rs).length : Nat) : Int))), some ((int r)), none, none, none, none, none, none, none, none, none, none, none, none, none, none, none, none, none, none, none, none, none, none, none, none, none, none, none, none, none, none, none, none, none, none, none, none, none, none, none, none, none, none, none, none, none, none, none]
noncomputable abbrev lpEb (ns : List NodeW) (i : Int) (rs : List RuleV) (on : List Bool) (st : TSt) (w : Int × Int × Int) (r : Int) : Lp Tryz.prog where
  f := 14
  key := 8
  S := formS (fun F M => match nth F 13 with | some (some (.lit (.bool b))) => some (b, M.stamp) | _ => none) (fun x => ebF ns i rs on r 0 x.1) (fun x => ⟨8, x.2, eaB st (ruleN rs r) w⟩) (fun x => inR r rs.length = true ∧ DeclsOk (ruleN rs r)) (fun x => .leaf (.exit 2, ebE ns i rs on r x.1, ⟨8, 0, eaB (declsT (ruleN rs r).origin w r (ruleN rs r).decls 0 st) (ruleN rs r) w⟩)) [true, true, true, true, true, false, false, false, false, false, true, true, true, true, false, false, true, true, true, false, false, false, false, false, false, false, false, false, false, false, false, false, false, false, false, false, false, false, false, false, false, false, false, false, false, true, true, true, false, false, false, false, false, false, false, false, false, false, false, false, false, false, false, false, false, false]
  one := by kernel_rfl
  ok := formS_ok fun x ⟨h1, h2⟩ => by
    obtain ⟨b, s⟩ := x
    refine ⟨(ruleN rs r).decls.length + 1, ?_⟩
    have h6 := (Sy.eb_loop ns i rs on r b h1 h2 w (ruleN rs r).decls [] 0 st rfl rfl).to (Nat.le_refl _)
    have h7 : LoopTo Tryz.prog (theBody Tryz.prog 14 8) ((ruleN rs r).decls.length + 1) (ebF ns i rs on r 0 b) ⟨8, s, eaB st (ruleN rs r) w⟩ _ := LoopTo.stamp (M := ⟨8, s, eaB st (ruleN rs r) w⟩) 0 h6
    refine (h7.out [true, true, true, true, true, false, false, false, false, false, true, true, true, true, false, false, true, true, true, false, false, false, false, false, false, false, false, false, false, false, false, false, false, false, false, false, false, false, false, false, false, false, false, false, false, false, false, false, false, false, false, false, false, false, false, false, false, false, false, false, false, false, false, false, false, false]).mono fun ex F M hg => ?_
    obtain ⟨F0, ⟨rfl, rfl, hM⟩, rfl⟩ := hg
    rw [hM]; rfl
end Sy
/-sy ea_r
fun (ns : List NodeW) (i : Int) (rs : List RuleV) (on : List Bool) (st : TSt) (r : Int) (d : D) => reckL [cPBest ns i (rs.getD r.toNat ruleNone).sels] [lpEb ns i rs on st (bestW ns i (ruleN rs r)) r] 400 30 14 2 [true, true, true, true, true, false, false, false, false, false, false, false, false, false, false, false, true, true, true, false, false, false, false, false, false, false, false, false, false, false, false, false, false, false, false, false, false, false, false, false, false, false, false, false, false, false, false, false, false, false, false, false, false, false, false, false, false, false, false, false, false, false, false, false, false, false] (eaF ns i rs on r) (tdM st 0) d
-/
theorem Sy.eaF_ren (ns : List NodeW) (i : Int) (rs : List RuleV) (on : List Bool) (r r' : Int) (h : r = r') : RenF [0, 1, 2, 3, 4, 5] (eaF ns i rs on r) (eaF ns i rs on r') := by
  subst h
  simp only [RenF, and_true]
  exact ⟨RenV.free _ (nview_free ns), rfl, RenV.free _ (rview_free rs), RenV.free _ (bview_free on), ⟨rfl, trivial, ⟨rfl, rfl⟩, ⟨rfl, rfl⟩, ⟨rfl, rfl⟩, trivial⟩, RenV.free _ (rview_free rs), rfl, rfl⟩
theorem Sy.ea_cut {M : Mem} {st : TSt} (hM : ∀ k, k < 6 → M.get k = (tdM st 0).get k) : RenM [0, 1, 2, 3, 4, 5] M (tdM st 0) :=
  ⟨rfl, rfl, by decide, tdM_ren (l := []) rfl hM⟩
def RulesOk (rs : List RuleV) : Prop := rs.length ≤ 17592186044416 ∧ ∀ x ∈ rs, SelsOk x.sels ∧ DeclsOk x
theorem Sy.ea_step (ns : List NodeW) (i : Int) (rs : List RuleV) (on : List Bool) (hok : DocOk ns) (hrs : RulesOk rs) (r : Int) (st : TSt) (n : Nat) (G : Ex → Fr → Mem → Prop) (h0 : 0 ≤ r) (hk : r ≤ rs.length)
    (c1 : r < rs.length → LoopToT 6 Tryz.prog (theBody Tryz.prog 14 2) n (eaF ns i rs on (r + 1)) (tdM (ruleT ns i on r.toNat (ruleN rs r) st) 0) G)
    (c2 : r = rs.length → G (.exit 0) (eaF ns i rs on r) (tdM st 0)) :
    LoopToT 6 Tryz.prog (theBody Tryz.prog 14 2) (n + 1) (eaF ns i rs on r) (tdM st 0) G := by
  refine roundT plain mixed 6 [cPBest ns i (rs.getD r.toNat ruleNone).sels] [lpEb ns i rs on st (bestW ns i (ruleN rs r)) r] 400 30 14 2 Tryz.func14 rfl (by kernel_rfl) [true, true, true, true, true, false, false, false, false, false, false, false, false, false, false, false, true, true, true, false, false, false, false, false, false, false, false, false, false, false, false, false, false, false, false, false, false, false, false, false, false, false, false, false, false, false, false, false, false, false, false, false, false, false, false, false, false, false, false, false, false, false, false, false, false, false] (.br (.yes (.br (.auto 1 (.yes (.auto 2 (.br .done (.yes (.br .done .done)))))) (.auto 5 .done))) .done) (.fork (!(leI (((rs).length : Nat) : Int) r)) (.need (@inR r (rs).length) (.fork (!(leI (((on).length : Nat) : Int) r)) (.need (@inR r (on).length) (.fork (!(on.getD (r).toNat false)) (.leaf (Ex.norm, ([(some (@AV.view (ns).length 6 (@ncell ns))), (some (int i)), (some (rview (rs))), (some (bview (on))), (some (@AV.fn (@Fn.func 15) [] [(@AV.ptr 5 0), (@AV.ptr 3 0), (@AV.ptr 1 0)])), none, none, none, none, none, none, none, none, none, none, none, (some (rview (rs))), (some (int (((rs).length : Nat) : Int))), (some (int (w64 (r + (1 : Int))))), none, none, none, none, none, none, none, none, none, none, none, none, none, none, none, none, none, none, none, none, none, none, none, none, none, none, none, none, none, none, none, none, none, none, none, none, none, none, none, none, none, none, none, none, none, none, none], (@Mem.mk (6 + 1) (0 + 1) [(some (@Blk.mk [(int ((rs.getD (r).toNat ruleNone)).origin), (@AV.lit (@Value.slice ((rs.getD (r).toNat ruleNone)).ca ((rs.getD (r).toNat ruleNone)).cn ((rs.getD (r).toNat ruleNone)).cc)), (sview (((rs.getD (r).toNat ruleNone)).sels)), (dview (((rs.getD (r).toNat ruleNone)).decls))] 34 none)), (some (@Blk.mk [(@AV.own 4 37 1)] 24 none)), (some (@Blk.mk [] 4 (some (@Rw.mk 37 1 (@icell (st).is))))), (some (@Blk.mk [(@AV.own 2 37 6)] 58 none)), (some (@Blk.mk [] 61 (some (@Rw.mk 37 6 (@mcell (st).met))))), (some (@Blk.mk [(@AV.own 0 37 4)] 36 none)), (some (@Blk.mk [] 40 (some (@Rw.mk 37 4 (@vcell (st).out)))))])))) (.need (@isSo (@And ([(@AV.view (ns).length 6 (@ncell ns)), (int i), (sview (((rs.getD (r).toNat ruleNone)).sels))] = [(@AV.view (ns).length 6 (@ncell ns)), (int i), (sview (((rs.getD (r).toNat ruleNone)).sels))]) (@And (@And ((ns).length ≤ 17592186044416) (∀ (n : NodeW), n ∈ ns → NodeOk n)) (@And ((((rs.getD (r).toNat ruleNone)).sels).length ≤ 17592186044416) (∀ (ps : List PartV), ps ∈ (rs.getD r.toNat ruleNone).sels → PsOk ps))))) (.fork (!((@bestV ns i ((rs.getD (r).toNat ruleNone)).sels)).snd) (.leaf (Ex.norm, ([(some (@AV.view (ns).length 6 (@ncell ns))), (some (int i)), (some (rview (rs))), (some (bview (on))), (some (@AV.fn (@Fn.func 15) [] [(@AV.ptr 5 0), (@AV.ptr 3 0), (@AV.ptr 1 0)])), none, none, none, none, none, none, none, none, none, none, none, (some (rview (rs))), (some (int (((rs).length : Nat) : Int))), (some (int (w64 (r + (1 : Int))))), none, none, none, none, none, none, none, none, none, none, none, none, none, none, none, none, none, none, none, none, none, none, none, none, none, none, none, none, none, none, none, none, none, none, none, none, none, none, none, none, none, none, none, none, none, none, none], (@Mem.mk ((6 + 1) + 1) ((0 + 1) + 1) ((some (@Blk.mk [(int (((@bestV ns i ((rs.getD (r).toNat ruleNone)).sels)).fst).fst), (int ((((@bestV ns i ((rs.getD (r).toNat ruleNone)).sels)).fst).snd).fst), (int ((((@bestV ns i ((rs.getD (r).toNat ruleNone)).sels)).fst).snd).snd)] 27 none)) :: [(some (@Blk.mk [(int ((rs.getD (r).toNat ruleNone)).origin), (@AV.lit (@Value.slice ((rs.getD (r).toNat ruleNone)).ca ((rs.getD (r).toNat ruleNone)).cn ((rs.getD (r).toNat ruleNone)).cc)), (sview (((rs.getD (r).toNat ruleNone)).sels)), (dview (((rs.getD (r).toNat ruleNone)).decls))] 34 none)), (some (@Blk.mk [(@AV.own 4 37 1)] 24 none)), (some (@Blk.mk [] 4 (some (@Rw.mk 37 1 (@icell (st).is))))), (some (@Blk.mk [(@AV.own 2 37 6)] 58 none)), (some (@Blk.mk [] 61 (some (@Rw.mk 37 6 (@mcell (st).met))))), (some (@Blk.mk [(@AV.own 0 37 4)] 36 none)), (some (@Blk.mk [] 40 (some (@Rw.mk 37 4 (@vcell (st).out)))))]))))) (.need (@isSo (@And ([(some (@AV.view (ns).length 6 (@ncell ns))), (some (int i)), (some (rview (rs))), (some (bview (on))), (some (@AV.fn (@Fn.func 15) [] [(@AV.ptr 5 0), (@AV.ptr 3 0), (@AV.ptr 1 0)])), none, none, none, none, none, (some (int r)), (some (@AV.ptr 6 0)), (some (@AV.ptr (6 + 1) 0)), (some (boo ((@bestV ns i ((rs.getD (r).toNat ruleNone)).sels)).snd)), none, none, (some (rview (rs))), (some (int (((rs).length : Nat) : Int))), (some (int r)), none, none, none, none, none, none, none, none, none, none, none, none, none, none, none, none, none, none, none, none, none, none, none, none, none, none, (some (dview (((rs.getD (r).toNat ruleNone)).decls))), (some (int (((((rs.getD (r).toNat ruleNone)).decls).length : Nat) : Int))), (some (int (0 : Int))), none, none, none, none, none, none, none, none, none, none, none, none, none, none, none, none, none, none] = [(some (@AV.view (ns).length 6 (@ncell ns))), (some (int i)), (some (rview (rs))), (some (bview (on))), (some (@AV.fn (@Fn.func 15) [] [(@AV.ptr 5 0), (@AV.ptr 3 0), (@AV.ptr 1 0)])), none, none, none, none, none, (some (int r)), (some (@AV.ptr 6 0)), (some (@AV.ptr 7 0)), (some (boo ((@bestV ns i ((rs.getD (r).toNat ruleNone)).sels)).snd)), none, none, (some (rview (rs))), (some (int (((rs).length : Nat) : Int))), (some (int r)), none, none, none, none, none, none, none, none, none, none, none, none, none, none, none, none, none, none, none, none, none, none, none, none, none, none, (some (dview (((rs.getD (r).toNat ruleNone)).decls))), (some (int (((((rs.getD (r).toNat ruleNone)).decls).length : Nat) : Int))), (some (int (0 : Int))), none, none, none, none, none, none, none, none, none, none, none, none, none, none, none, none, none, none]) ((@Mem.mk ((6 + 1) + 1) ((0 + 1) + 1) ((some (@Blk.mk [(int (((@bestV ns i ((rs.getD (r).toNat ruleNone)).sels)).fst).fst), (int ((((@bestV ns i ((rs.getD (r).toNat ruleNone)).sels)).fst).snd).fst), (int ((((@bestV ns i ((rs.getD (r).toNat ruleNone)).sels)).fst).snd).snd)] 27 none)) :: [(some (@Blk.mk [(int ((rs.getD (r).toNat ruleNone)).origin), (@AV.lit (@Value.slice ((rs.getD (r).toNat ruleNone)).ca ((rs.getD (r).toNat ruleNone)).cn ((rs.getD (r).toNat ruleNone)).cc)), (sview (((rs.getD (r).toNat ruleNone)).sels)), (dview (((rs.getD (r).toNat ruleNone)).decls))] 34 none)), (some (@Blk.mk [(@AV.own 4 37 1)] 24 none)), (some (@Blk.mk [] 4 (some (@Rw.mk 37 1 (@icell (st).is))))), (some (@Blk.mk [(@AV.own 2 37 6)] 58 none)), (some (@Blk.mk [] 61 (some (@Rw.mk 37 6 (@mcell (st).met))))), (some (@Blk.mk [(@AV.own 0 37 4)] 36 none)), (some (@Blk.mk [] 40 (some (@Rw.mk 37 4 (@vcell (st).out)))))])) = (@Mem.mk 8 ((0 + 1) + 1) [(some (@Blk.mk [(int (((@bestV ns i ((@ruleN rs r)).sels)).fst).fst), (int ((((@bestV ns i ((@ruleN rs r)).sels)).fst).snd).fst), (int ((((@bestV ns i ((@ruleN rs r)).sels)).fst).snd).snd)] 27 none)), (some (@Blk.mk [(int ((@ruleN rs r)).origin), (@AV.lit (@Value.slice ((@ruleN rs r)).ca ((@ruleN rs r)).cn ((@ruleN rs r)).cc)), (sview (((@ruleN rs r)).sels)), (dview (((@ruleN rs r)).decls))] 34 none)), (some (@Blk.mk [(@AV.own 4 37 1)] 24 none)), (some (@Blk.mk [] 4 (some (@Rw.mk 37 1 (@icell (st).is))))), (some (@Blk.mk [(@AV.own 2 37 6)] 58 none)), (some (@Blk.mk [] 61 (some (@Rw.mk 37 6 (@mcell (st).met))))), (some (@Blk.mk [(@AV.own 0 37 4)] 36 none)), (some (@Blk.mk [] 40 (some (@Rw.mk 37 4 (@vcell (st).out)))))])))) (.need (@isSo (@And ((@inR r (rs).length) = true) ((((@ruleN rs r)).decls).length ≤ 17592186044416))) (.leaf (Ex.norm, ([(some (@AV.view (ns).length 6 (@ncell ns))), (some (int i)), (some (rview (rs))), (some (bview (on))), (some (@AV.fn (@Fn.func 15) [] [(@AV.ptr 5 0), (@AV.ptr 3 0), (@AV.ptr 1 0)])), none, none, none, none, none, none, none, none, none, none, none, (some (rview (rs))), (some (int (((rs).length : Nat) : Int))), (some (int (w64 (r + (1 : Int))))), none, none, none, none, none, none, none, none, none, none, none, none, none, none, none, none, none, none, none, none, none, none, none, none, none, none, none, none, none, none, none, none, none, none, none, none, none, none, none, none, none, none, none, none, none, none, none], (@Mem.mk 8 0 [(some (@Blk.mk [(int (((@bestV ns i ((@ruleN rs r)).sels)).fst).fst), (int ((((@bestV ns i ((@ruleN rs r)).sels)).fst).snd).fst), (int ((((@bestV ns i ((@ruleN rs r)).sels)).fst).snd).snd)] 27 none)), (some (@Blk.mk [(int ((@ruleN rs r)).origin), (@AV.lit (@Value.slice ((@ruleN rs r)).ca ((@ruleN rs r)).cn ((@ruleN rs r)).cc)), (sview (((@ruleN rs r)).sels)), (dview (((@ruleN rs r)).decls))] 34 none)), (some (@Blk.mk [(@AV.own 4 37 1)] 24 none)), (some (@Blk.mk [] 4 (some (@Rw.mk 37 1 (@icell ((@declsT ((@ruleN rs r)).origin ((@bestV ns i ((@ruleN rs r)).sels)).fst r ((@ruleN rs r)).decls (0 : Int) st)).is))))), (some (@Blk.mk [(@AV.own 2 37 6)] 58 none)), (some (@Blk.mk [] 61 (some (@Rw.mk 37 6 (@mcell ((@declsT ((@ruleN rs r)).origin ((@bestV ns i ((@ruleN rs r)).sels)).fst r ((@ruleN rs r)).decls (0 : Int) st)).met))))), (some (@Blk.mk [(@AV.own 0 37 4)] 36 none)), (some (@Blk.mk [] 40 (some (@Rw.mk 37 4 (@vcell ((@declsT ((@ruleN rs r)).origin ((@bestV ns i ((@ruleN rs r)).sels)).fst r ((@ruleN rs r)).decls (0 : Int) st)).out)))))])))))))))) (.leaf (Ex.norm, ([(some (@AV.view (ns).length 6 (@ncell ns))), (some (int i)), (some (rview (rs))), (some (bview (on))), (some (@AV.fn (@Fn.func 15) [] [(@AV.ptr 5 0), (@AV.ptr 3 0), (@AV.ptr 1 0)])), none, none, none, none, none, none, none, none, none, none, none, (some (rview (rs))), (some (int (((rs).length : Nat) : Int))), (some (int (w64 (r + (1 : Int))))), none, none, none, none, none, none, none, none, none, none, none, none, none, none, none, none, none, none, none, none, none, none, none, none, none, none, none, none, none, none, none, none, none, none, none, none, none, none, none, none, none, none, none, none, none, none, none], (@Mem.mk (6 + 1) (0 + 1) [(some (@Blk.mk [(int ((rs.getD (r).toNat ruleNone)).origin), (@AV.lit (@Value.slice ((rs.getD (r).toNat ruleNone)).ca ((rs.getD (r).toNat ruleNone)).cn ((rs.getD (r).toNat ruleNone)).cc)), (sview (((rs.getD (r).toNat ruleNone)).sels)), (dview (((rs.getD (r).toNat ruleNone)).decls))] 34 none)), (some (@Blk.mk [(@AV.own 4 37 1)] 24 none)), (some (@Blk.mk [] 4 (some (@Rw.mk 37 1 (@icell (st).is))))), (some (@Blk.mk [(@AV.own 2 37 6)] 58 none)), (some (@Blk.mk [] 61 (some (@Rw.mk 37 6 (@mcell (st).met))))), (some (@Blk.mk [(@AV.own 0 37 4)] 36 none)), (some (@Blk.mk [] 40 (some (@Rw.mk 37 4 (@vcell (st).out)))))])))))) (.leaf ((@Ex.exit 0), ([(some (@AV.view (ns).length 6 (@ncell ns))), (some (int i)), (some (rview (rs))), (some (bview (on))), (some (@AV.fn (@Fn.func 15) [] [(@AV.ptr 5 0), (@AV.ptr 3 0), (@AV.ptr 1 0)])), none, none, none, none, none, none, none, none, none, none, none, (some (rview (rs))), (some (int (((rs).length : Nat) : Int))), (some (int r)), none, none, none, none, none, none, none, none, none, none, none, none, none, none, none, none, none, none, none, none, none, none, none, none, none, none, none, none, none, none, none, none, none, none, none, none, none, none, none, none, none, none, none, none, none, none, none], (@Mem.mk 6 0 [(some (@Blk.mk [(@AV.own 4 37 1)] 24 none)), (some (@Blk.mk [] 4 (some (@Rw.mk 37 1 (@icell (st).is))))), (some (@Blk.mk [(@AV.own 2 37 6)] 58 none)), (some (@Blk.mk [] 61 (some (@Rw.mk 37 6 (@mcell (st).met))))), (some (@Blk.mk [(@AV.own 0 37 4)] 36 none)), (some (@Blk.mk [] 40 (some (@Rw.mk 37 4 (@vcell (st).out)))))]))))) (by kernel_rfl) ?_
  have hl2 := hrs.1
  refine fork_ok (fun h1 => ?_) (fun h1 => ?_)
  · simp only [Bool.not_eq_true', Bool.not_eq_false', leI_t, leI_f, eqI_t, eqI_f, inR_t, inR_f, isSo_t, isSo_f] at h1
    have h64 : w64 (r + 1) = r + 1 := w64_in (by omega)
    have hin : inR r rs.length = true := by rw [inR_t]; omega
    have hx : ruleN rs r ∈ rs := getD_mem _ _ _ h0 (by omega)
    have hsel : SelsOk (rs.getD r.toNat ruleNone).sels := (hrs.2 _ hx).1
    have hdec : DeclsOk (ruleN rs r) := (hrs.2 _ hx).2
    have c1 := c1 (by omega)
    have hL : ∀ st', ruleT ns i on r.toNat (ruleN rs r) st = st' → ∀ M, (∀ k, k < 6 → M.get k = (tdM st' 0).get k) → LoopToT 6 Tryz.prog (theBody Tryz.prog 14 2) n (eaF ns i rs on (w64 (r + 1))) M G := fun st' e M hM => by
      rw [e] at c1
      exact LoopToT.ren [0, 1, 2, 3, 4, 5] rfl (eaF_ren ns i rs on _ _ h64) (ea_cut hM) c1
    have hno : countsB ns i on r.toNat (ruleN rs r) = false → ruleT ns i on r.toNat (ruleN rs r) st = st := fun e => by unfold ruleT; rw [e]; rfl
    refine need_t hin (fork_ok (fun h2 => ?_) (fun h2 => ?_))
    · have hon : inR r on.length = true := by simp only [Bool.not_eq_true', Bool.not_eq_false', leI_t, leI_f, eqI_t, eqI_f, inR_t, inR_f, isSo_t, isSo_f] at h2; rw [inR_t]; omega
      refine need_t hon (fork_ok (fun h3 => ?_) (fun h3 => need_so ⟨rfl, hok, hsel⟩ (fork_ok (fun h4 => ?_) (fun h4 => need_so ⟨rfl, rfl⟩ (need_so ⟨hin, hdec⟩ ?_)))))
      · refine hL st (hno ?_) _ (fun k hk => td_get [_] _ _ k hk)
        unfold countsB
        rw [show on.getD r.toNat false = false by simpa using h3]; rfl
      · refine hL st (hno ?_) _ (fun k hk => td_get [_, _] _ _ k hk)
        unfold countsB
        rw [show (bestV ns i (ruleN rs r).sels).2 = false by simpa using h4]
        exact Bool.and_false _
      · refine hL _ ?_ _ (fun k hk => td_get [_, _] _ _ k hk)
        have c : countsB ns i on r.toNat (ruleN rs r) = true := by
          unfold countsB
          rw [show on.getD r.toNat false = true by simpa using h3, show (bestV ns i (ruleN rs r).sels).2 = true by simpa using h4]; rfl
        unfold ruleT
        rw [c, if_pos rfl, show ((r.toNat : Nat) : Int) = r by omega]
    · refine hL st (hno ?_) _ (fun k hk => td_get [_] _ _ k hk)
      simp only [Bool.not_eq_true', Bool.not_eq_false', leI_t, leI_f, eqI_t, eqI_f, inR_t, inR_f, isSo_t, isSo_f] at h2
      unfold countsB
      rw [List.getD_eq_getElem?_getD, List.getElem?_eq_none (by omega)]; rfl
  · simp only [Bool.not_eq_true', Bool.not_eq_false', leI_t, leI_f, eqI_t, eqI_f, inR_t, inR_f, isSo_t, isSo_f] at h1
    exact c2 (by omega)
/-- the rules -/
theorem Sy.ea_loop (ns : List NodeW) (i : Int) (rs : List RuleV) (on : List Bool) (hok : DocOk ns) (hrs : RulesOk rs) : ∀ (l pre : List RuleV) (r : Int) (st : TSt), rs = pre ++ l → r = pre.length →
    LoopToT 6 Tryz.prog (theBody Tryz.prog 14 2) (l.length + 1) (eaF ns i rs on r) (tdM st 0) fun ex F' M' => ex = .exit 0 ∧ F' = eaF ns i rs on rs.length ∧ M' = tdM (rulesT ns i on l pre.length st) 0 := by
  intro l
  induction l with
  | nil =>
    intro pre r st h hk
    have hl : rs.length = pre.length := by rw [h]; simp
    exact ea_step ns i rs on hok hrs r st _ _ (by omega) (by omega) (fun h1 => by omega) (fun h1 => ⟨rfl, by rw [h1], rfl⟩)
  | cons x l ih =>
    intro pre r st h hk
    have hl : rs.length = pre.length + l.length + 1 := by rw [h]; simp; omega
    have hg : ruleN rs r = x := by unfold ruleN; rw [h]; exact getD_at _ _ _ _ _ hk
    refine ea_step ns i rs on hok hrs r st _ _ (by omega) (by omega) (fun h1 => ?_) (fun h1 => by omega)
    have key := ih (pre ++ [x]) (r + 1) (ruleT ns i on pre.length x st) (by rw [h]; simp) (by simp; omega)
    rw [show (pre ++ [x]).length = pre.length + 1 by simp] at key
    rw [hg, show r.toNat = pre.length by omega]
    exact key
end Go.Proofs.YtmlhipckgmbpfaaGreat
namespace Go.Proofs.YtmlhipckgmbpfaaGreat
open Go Go.RowKit Pl Sy
set_option linter.unusedVariables false
set_option linter.unusedSimpArgs false

/-- nothing is known -/
def st0 : TSt := ⟨fun _ => ⟨0, 0, 0, ⟨#[]⟩⟩, fun _ => ⟨0, (0, 0, 0), 0, 0⟩, fun _ => false⟩
namespace Sy
abbrev eaE (ns : List NodeW) (i : Int) (rs : List RuleV) (on : List Bool) : Fr := [some ((@AV.view (ns).length 6 (@ncell ns))), some ((int i)), some ((rview (rs))), some ((bview (on))), some ((@AV.fn (@Fn.func 15) [] [(@AV.ptr 5 0), (@AV.ptr 3 0), (@AV.ptr 1 0)])), none, none, none, none, none, none, none, none, none, none, none, some ((rview (rs))), some ((int (((rs).length : Nat) : Int))), none, none, none, none, none, none, none, none, none, none, none, none, none, none, none, none, none, none, none, none, none, none, none, none, none, none, none, none, none, none, none, none, none, none, none, none, none, none, none, none, none, none, none, none, none, none, none, none]
noncomputable abbrev lpEa (ns : List NodeW) (i : Int) (rs : List RuleV) (on : List Bool) : Lp Tryz.prog where
  f := 14
  key := 2
  S := formS (fun F M => match slotI F 18 with | some r => some (r, M.stamp) | _ => none) (fun x => eaF ns i rs on x.1) (fun x => tdM st0 x.2) (fun x => (DocOk ns ∧ RulesOk rs) ∧ x.1 = 0) (fun x => .leaf (.exit 0, eaE ns i rs on, tdM (rulesT ns i on rs 0 st0) 0)) [true, true, true, true, true, false, false, false, false, false, false, false, false, false, false, false, true, true, true, false, false, false, false, false, false, false, false, false, false, false, false, false, false, false, false, false, false, false, false, false, false, false, false, false, false, false, false, false, false, false, false, false, false, false, false, false, false, false, false, false, false, false, false, false, false, false]
  one := by kernel_rfl
  ok := formS_ok fun x ⟨⟨h1, h2⟩, h3⟩ => by
    obtain ⟨r, s⟩ := x
    simp only at h3
    subst h3
    refine ⟨rs.length + 1, ?_⟩
    have h6 := (Sy.ea_loop ns i rs on h1 h2 rs [] 0 st0 rfl rfl).to (Nat.le_refl _)
    have h7 : LoopTo Tryz.prog (theBody Tryz.prog 14 2) (rs.length + 1) (eaF ns i rs on 0) (tdM st0 s) _ := LoopTo.stamp (M := tdM st0 s) 0 h6
    refine (h7.out [true, true, true, true, true, false, false, false, false, false, false, false, false, false, false, false, true, true, false, false, false, false, false, false, false, false, false, false, false, false, false, false, false, false, false, false, false, false, false, false, false, false, false, false, false, false, false, false, false, false, false, false, false, false, false, false, false, false, false, false, false, false, false, false, false, false]).mono fun ex F M hg => ?_
    obtain ⟨F0, ⟨rfl, rfl, hM⟩, rfl⟩ := hg
    rw [hM]; rfl
end Sy
/-sy told_t
fun (ns : List NodeW) (i : Int) (rs : List RuleV) (on : List Bool) (d : D) => reck [] [lpEa ns i rs on] 400 30 10 [nview ns, int i, rview rs, bview on] M0 d
-/
theorem Sy.told_m (ns : List NodeW) (i : Int) (rs : List RuleV) (on : List Bool) (hok : DocOk ns) (hrs : RulesOk rs) : CallTo Tryz.prog 10 [nview ns, int i, rview rs, bview on] M0 fun v M' => v = .own 0 37 4 ∧ M' = tdM (rulesT ns i on rs 0 st0) 0 :=
  to (G := fun r => r.1 = .own 0 37 4 ∧ r.2 = tdM (rulesT ns i on rs 0 st0) 0) [] [lpEa ns i rs on] 400 30 .done (.need (@isSo (@And (((some (@AV.view (ns).length 6 (@ncell ns))) :: (some (int i)) :: (some (rview (rs))) :: (some (bview (on))) :: (some (@AV.fn (@Fn.func 15) [] [(@AV.ptr 5 0), (@AV.ptr 3 0), (@AV.ptr 1 0)])) :: [none, none, none, none, none, none, none, none, none, none, none, (some (rview (rs))), (some (int (((rs).length : Nat) : Int))), (some (int (0 : Int))), none, none, none, none, none, none, none, none, none, none, none, none, none, none, none, none, none, none, none, none, none, none, none, none, none, none, none, none, none, none, none, none, none, none, none, none, none, none, none, none, none, none, none, none, none, none, none]) = [(some (@AV.view (ns).length 6 (@ncell ns))), (some (int i)), (some (rview (rs))), (some (bview (on))), (some (@AV.fn (@Fn.func 15) [] [(@AV.ptr 5 0), (@AV.ptr 3 0), (@AV.ptr 1 0)])), none, none, none, none, none, none, none, none, none, none, none, (some (rview (rs))), (some (int (((rs).length : Nat) : Int))), (some (int (Int.ofNat 0))), none, none, none, none, none, none, none, none, none, none, none, none, none, none, none, none, none, none, none, none, none, none, none, none, none, none, none, none, none, none, none, none, none, none, none, none, none, none, none, none, none, none, none, none, none, none, none]) ((@Mem.mk 6 3 [(some (@Blk.mk [(@AV.own 4 37 1)] 24 none)), (some (@Blk.mk [] 4 (some (@Rw.mk 37 1 (@mkc (@Value.bool false)))))), (some (@Blk.mk [(@AV.own 2 37 6)] 58 none)), (some (@Blk.mk [] 61 (some (@Rw.mk 37 6 (@mkc (@Value.agg (@Array.mk _ [(@Value.int IntKind.i64 (0 : Int)), (@Value.int IntKind.i64 (0 : Int)), (@Value.int IntKind.i64 (0 : Int)), (@Value.int IntKind.i64 (0 : Int)), (@Value.int IntKind.i64 (0 : Int)), (@Value.int IntKind.i64 (0 : Int))]))))))), (some (@Blk.mk [(@AV.own 0 37 4)] 36 none)), (some (@Blk.mk [] 40 (some (@Rw.mk 37 4 (@mkc (@Value.agg (@Array.mk _ [(@Value.int IntKind.i64 (0 : Int)), (@Value.int IntKind.i64 (0 : Int)), (@Value.int IntKind.i64 (0 : Int)), (@Value.string (@ByteArray.mk (@Array.mk _ [])))])))))))]) = (@Mem.mk 6 (2 + 1) [(some (@Blk.mk [(@AV.own 4 37 1)] 24 none)), (some (@Blk.mk [] 4 (some (@Rw.mk 37 1 (@icell (st0).is))))), (some (@Blk.mk [(@AV.own 2 37 6)] 58 none)), (some (@Blk.mk [] 61 (some (@Rw.mk 37 6 (@mcell (st0).met))))), (some (@Blk.mk [(@AV.own 0 37 4)] 36 none)), (some (@Blk.mk [] 40 (some (@Rw.mk 37 4 (@vcell (st0).out)))))])))) (.need (@isSo (@And (@And (@And ((ns).length ≤ 17592186044416) (∀ (n : NodeW), n ∈ ns → NodeOk n)) (@And ((rs).length ≤ 17592186044416) (∀ (x : RuleV), x ∈ rs → SelsOk x.sels ∧ DeclsOk x))) ((Int.ofNat 0) = (0 : Int)))) (.leaf ((@AV.own 0 37 4), (@Mem.mk 6 0 [(some (@Blk.mk [(@AV.own 4 37 1)] 24 none)), (some (@Blk.mk [] 4 (some (@Rw.mk 37 1 (@icell ((@rulesT ns i on rs 0 st0)).is))))), (some (@Blk.mk [(@AV.own 2 37 6)] 58 none)), (some (@Blk.mk [] 61 (some (@Rw.mk 37 6 (@mcell ((@rulesT ns i on rs 0 st0)).met))))), (some (@Blk.mk [(@AV.own 0 37 4)] 36 none)), (some (@Blk.mk [] 40 (some (@Rw.mk 37 4 (@vcell ((@rulesT ns i on rs 0 st0)).out)))))]))))) (by kernel_rfl) (by
    refine need_so ⟨rfl, ?_⟩ (need_so ⟨⟨hok, hrs⟩, rfl⟩ ⟨rfl, rfl⟩)
    simp only [List.cons.injEq, Option.some.injEq, Blk.mk.injEq, Rw.mk.injEq, Mem.mk.injEq, true_and, and_true]
    refine ⟨?_, ?_, ?_⟩
    · funext i j
      rcases j with _ | j <;> rfl
    · funext i j
      rcases j with _ | _ | _ | _ | _ | _ | j <;> rfl
    · funext i j
      rcases j with _ | _ | _ | _ | j <;> rfl)
/-- what is told, as values -/
abbrev Sy.toldV (st : TSt) : AV := .view 37 4 (vcell st.out)
theorem Sy.toldV_free (st : TSt) : Free (toldV st) := fun i j => vcell_free _ i j
theorem Sy.vcell_lit (f : Nat → ValueV) (i j : Nat) : ∃ u, vcell f i j = .lit u := by
  unfold vcell
  rcases j with _ | _ | _ | _ | j <;> exact ⟨_, rfl⟩
theorem Sy.told_f (ns : List NodeW) (i : Int) (rs : List RuleV) (on : List Bool) (hok : DocOk ns) (hrs : RulesOk rs) : CallTo Tryz.prog 10 [nview ns, int i, rview rs, bview on] M0 fun v M' => Frz false 0 M' v (toldV (rulesT ns i on rs 0 st0)) :=
  (told_m ns i rs on hok hrs).mono fun v M' h => by
    obtain ⟨rfl, rfl⟩ := h
    have hlit := vcell_lit (rulesT ns i on rs 0 st0).out
    refine Frz.own (B := ⟨[], 40, some ⟨37, 4, vcell (rulesT ns i on rs 0 st0).out⟩⟩) (Nat.zero_le _) rfl rfl (Nat.le_refl _) rfl fun a b _ _ => ?_
    obtain ⟨u, hu⟩ := hlit a b
    show Frz false 0 _ (vcell _ a b) (vcell _ a b)
    rw [hu]
    exact Frz.lit _ _ _ _
/-! ### Two lists of values are the same -/
/-sy sam_t
fun (f : Nat → ValueV) (d : D) => reckV [] [] 400 30 9 [.view 37 4 (vcell f), .view 37 4 (vcell f)] M0 d
-/
/-! ### Does a rule count? -/
/-sy rc_t
fun (ns : List NodeW) (i : Int) (rs : List RuleV) (on : List Bool) (r : Int) (d : D) => reckV [cRBest ns i (rs.getD r.toNat ruleNone).sels] [] 400 30 8 [nview ns, int i, rview rs, bview on, int r] M0 d
-/
/-sy off_p
fun (ns : List NodeW) (i : Int) (rs : List RuleV) (on : List Bool) (d : D) => probeV SyTool.probe [cSmall ns rs, cKnown16] 400 30 3 [nview ns, int i, rview rs, bview on] M0 d
-/
end Go.Proofs.YtmlhipckgmbpfaaGreat
namespace Go.Proofs.YtmlhipckgmbpfaaGreat
open Go Go.RowKit Pl Sy
set_option linter.unusedVariables false
set_option linter.unusedSimpArgs false

theorem bytesEq_self (l : List UInt8) : bytesEq l l = true := by rw [bytesEq_eq]; simp
theorem Sy.sam_t (f : Nat → ValueV) : CallTo Tryz.prog 9 [.view 37 4 (vcell f), .view 37 4 (vcell f)] M0 fun v _ => v = boo true :=
  toV [] [] 400 30 (.auto 3 (.br .done (.auto 2 (.br .done (.auto 2 (.br .done (.auto 2 (.br .done (.auto 2 (.br .done (.auto 2 (.br .done (.auto 2 (.br .done (.auto 2 (.br .done (.auto 2 (.br .done (.auto 2 (.br .done (.auto 2 (.br .done (.auto 2 (.br .done (.auto 2 (.br .done (.auto 2 (.br .done (.auto 2 (.br .done (.auto 2 (.br .done (.auto 2 (.br .done (.auto 2 (.br .done (.auto 2 (.br .done (.auto 2 (.br .done (.auto 2 (.br .done (.auto 2 (.br .done (.auto 2 (.br .done (.auto 2 (.br .done (.auto 2 (.br .done (.auto 2 (.br .done (.auto 2 (.br .done (.auto 2 (.br .done (.auto 2 (.br .done (.auto 2 (.br .done (.auto 2 (.br .done (.auto 2 (.br .done (.auto 2 (.br .done (.auto 2 (.br .done (.auto 2 (.br .done (.auto 2 (.br .done (.auto 2 (.br .done (.auto 0 .done))))))))))))))))))))))))))))))))))))))))))))))))))))))))))))))))))))))))))) (.fork (!((eqI ((f 0)).kind ((f 0)).kind) && ((eqI ((f 0)).n ((f 0)).n) && ((eqI ((f 0)).d ((f 0)).d) && ((@bytesEq (@Array.toList _ (@ByteArray.data ((f 0)).name)) (@Array.toList _ (@ByteArray.data ((f 0)).name))) && true))))) (.leaf (boo false)) (.fork (!((eqI ((f 1)).kind ((f 1)).kind) && ((eqI ((f 1)).n ((f 1)).n) && ((eqI ((f 1)).d ((f 1)).d) && ((@bytesEq (@Array.toList _ (@ByteArray.data ((f 1)).name)) (@Array.toList _ (@ByteArray.data ((f 1)).name))) && true))))) (.leaf (boo false)) (.fork (!((eqI ((f 2)).kind ((f 2)).kind) && ((eqI ((f 2)).n ((f 2)).n) && ((eqI ((f 2)).d ((f 2)).d) && ((@bytesEq (@Array.toList _ (@ByteArray.data ((f 2)).name)) (@Array.toList _ (@ByteArray.data ((f 2)).name))) && true))))) (.leaf (boo false)) (.fork (!((eqI ((f 3)).kind ((f 3)).kind) && ((eqI ((f 3)).n ((f 3)).n) && ((eqI ((f 3)).d ((f 3)).d) && ((@bytesEq (@Array.toList _ (@ByteArray.data ((f 3)).name)) (@Array.toList _ (@ByteArray.data ((f 3)).name))) && true))))) (.leaf (boo false)) (.fork (!((eqI ((f 4)).kind ((f 4)).kind) && ((eqI ((f 4)).n ((f 4)).n) && ((eqI ((f 4)).d ((f 4)).d) && ((@bytesEq (@Array.toList _ (@ByteArray.data ((f 4)).name)) (@Array.toList _ (@ByteArray.data ((f 4)).name))) && true))))) (.leaf (boo false)) (.fork (!((eqI ((f 5)).kind ((f 5)).kind) && ((eqI ((f 5)).n ((f 5)).n) && ((eqI ((f 5)).d ((f 5)).d) && ((@bytesEq (@Array.toList _ (@ByteArray.data ((f 5)).name)) (@Array.toList _ (@ByteArray.data ((f 5)).name))) && true))))) (.leaf (boo false)) (.fork (!((eqI ((f 6)).kind ((f 6)).kind) && ((eqI ((f 6)).n ((f 6)).n) && ((eqI ((f 6)).d ((f 6)).d) && ((@bytesEq (@Array.toList _ (@ByteArray.data ((f 6)).name)) (@Array.toList _ (@ByteArray.data ((f 6)).name))) && true))))) (.leaf (boo false)) (.fork (!((eqI ((f 7)).kind ((f 7)).kind) && ((eqI ((f 7)).n ((f 7)).n) && ((eqI ((f 7)).d ((f 7)).d) && ((@bytesEq (@Array.toList _ (@ByteArray.data ((f 7)).name)) (@Array.toList _ (@ByteArray.data ((f 7)).name))) && true))))) (.leaf (boo false)) (.fork (!((eqI ((f 8)).kind ((f 8)).kind) && ((eqI ((f 8)).n ((f 8)).n) && ((eqI ((f 8)).d ((f 8)).d) && ((@bytesEq (@Array.toList _ (@ByteArray.data ((f 8)).name)) (@Array.toList _ (@ByteArray.data ((f 8)).name))) && true))))) (.leaf (boo false)) (.fork (!((eqI ((f 9)).kind ((f 9)).kind) && ((eqI ((f 9)).n ((f 9)).n) && ((eqI ((f 9)).d ((f 9)).d) && ((@bytesEq (@Array.toList _ (@ByteArray.data ((f 9)).name)) (@Array.toList _ (@ByteArray.data ((f 9)).name))) && true))))) (.leaf (boo false)) (.fork (!((eqI ((f 10)).kind ((f 10)).kind) && ((eqI ((f 10)).n ((f 10)).n) && ((eqI ((f 10)).d ((f 10)).d) && ((@bytesEq (@Array.toList _ (@ByteArray.data ((f 10)).name)) (@Array.toList _ (@ByteArray.data ((f 10)).name))) && true))))) (.leaf (boo false)) (.fork (!((eqI ((f 11)).kind ((f 11)).kind) && ((eqI ((f 11)).n ((f 11)).n) && ((eqI ((f 11)).d ((f 11)).d) && ((@bytesEq (@Array.toList _ (@ByteArray.data ((f 11)).name)) (@Array.toList _ (@ByteArray.data ((f 11)).name))) && true))))) (.leaf (boo false)) (.fork (!((eqI ((f 12)).kind ((f 12)).kind) && ((eqI ((f 12)).n ((f 12)).n) && ((eqI ((f 12)).d ((f 12)).d) && ((@bytesEq (@Array.toList _ (@ByteArray.data ((f 12)).name)) (@Array.toList _ (@ByteArray.data ((f 12)).name))) && true))))) (.leaf (boo false)) (.fork (!((eqI ((f 13)).kind ((f 13)).kind) && ((eqI ((f 13)).n ((f 13)).n) && ((eqI ((f 13)).d ((f 13)).d) && ((@bytesEq (@Array.toList _ (@ByteArray.data ((f 13)).name)) (@Array.toList _ (@ByteArray.data ((f 13)).name))) && true))))) (.leaf (boo false)) (.fork (!((eqI ((f 14)).kind ((f 14)).kind) && ((eqI ((f 14)).n ((f 14)).n) && ((eqI ((f 14)).d ((f 14)).d) && ((@bytesEq (@Array.toList _ (@ByteArray.data ((f 14)).name)) (@Array.toList _ (@ByteArray.data ((f 14)).name))) && true))))) (.leaf (boo false)) (.fork (!((eqI ((f 15)).kind ((f 15)).kind) && ((eqI ((f 15)).n ((f 15)).n) && ((eqI ((f 15)).d ((f 15)).d) && ((@bytesEq (@Array.toList _ (@ByteArray.data ((f 15)).name)) (@Array.toList _ (@ByteArray.data ((f 15)).name))) && true))))) (.leaf (boo false)) (.fork (!((eqI ((f 16)).kind ((f 16)).kind) && ((eqI ((f 16)).n ((f 16)).n) && ((eqI ((f 16)).d ((f 16)).d) && ((@bytesEq (@Array.toList _ (@ByteArray.data ((f 16)).name)) (@Array.toList _ (@ByteArray.data ((f 16)).name))) && true))))) (.leaf (boo false)) (.fork (!((eqI ((f 17)).kind ((f 17)).kind) && ((eqI ((f 17)).n ((f 17)).n) && ((eqI ((f 17)).d ((f 17)).d) && ((@bytesEq (@Array.toList _ (@ByteArray.data ((f 17)).name)) (@Array.toList _ (@ByteArray.data ((f 17)).name))) && true))))) (.leaf (boo false)) (.fork (!((eqI ((f 18)).kind ((f 18)).kind) && ((eqI ((f 18)).n ((f 18)).n) && ((eqI ((f 18)).d ((f 18)).d) && ((@bytesEq (@Array.toList _ (@ByteArray.data ((f 18)).name)) (@Array.toList _ (@ByteArray.data ((f 18)).name))) && true))))) (.leaf (boo false)) (.fork (!((eqI ((f 19)).kind ((f 19)).kind) && ((eqI ((f 19)).n ((f 19)).n) && ((eqI ((f 19)).d ((f 19)).d) && ((@bytesEq (@Array.toList _ (@ByteArray.data ((f 19)).name)) (@Array.toList _ (@ByteArray.data ((f 19)).name))) && true))))) (.leaf (boo false)) (.fork (!((eqI ((f 20)).kind ((f 20)).kind) && ((eqI ((f 20)).n ((f 20)).n) && ((eqI ((f 20)).d ((f 20)).d) && ((@bytesEq (@Array.toList _ (@ByteArray.data ((f 20)).name)) (@Array.toList _ (@ByteArray.data ((f 20)).name))) && true))))) (.leaf (boo false)) (.fork (!((eqI ((f 21)).kind ((f 21)).kind) && ((eqI ((f 21)).n ((f 21)).n) && ((eqI ((f 21)).d ((f 21)).d) && ((@bytesEq (@Array.toList _ (@ByteArray.data ((f 21)).name)) (@Array.toList _ (@ByteArray.data ((f 21)).name))) && true))))) (.leaf (boo false)) (.fork (!((eqI ((f 22)).kind ((f 22)).kind) && ((eqI ((f 22)).n ((f 22)).n) && ((eqI ((f 22)).d ((f 22)).d) && ((@bytesEq (@Array.toList _ (@ByteArray.data ((f 22)).name)) (@Array.toList _ (@ByteArray.data ((f 22)).name))) && true))))) (.leaf (boo false)) (.fork (!((eqI ((f 23)).kind ((f 23)).kind) && ((eqI ((f 23)).n ((f 23)).n) && ((eqI ((f 23)).d ((f 23)).d) && ((@bytesEq (@Array.toList _ (@ByteArray.data ((f 23)).name)) (@Array.toList _ (@ByteArray.data ((f 23)).name))) && true))))) (.leaf (boo false)) (.fork (!((eqI ((f 24)).kind ((f 24)).kind) && ((eqI ((f 24)).n ((f 24)).n) && ((eqI ((f 24)).d ((f 24)).d) && ((@bytesEq (@Array.toList _ (@ByteArray.data ((f 24)).name)) (@Array.toList _ (@ByteArray.data ((f 24)).name))) && true))))) (.leaf (boo false)) (.fork (!((eqI ((f 25)).kind ((f 25)).kind) && ((eqI ((f 25)).n ((f 25)).n) && ((eqI ((f 25)).d ((f 25)).d) && ((@bytesEq (@Array.toList _ (@ByteArray.data ((f 25)).name)) (@Array.toList _ (@ByteArray.data ((f 25)).name))) && true))))) (.leaf (boo false)) (.fork (!((eqI ((f 26)).kind ((f 26)).kind) && ((eqI ((f 26)).n ((f 26)).n) && ((eqI ((f 26)).d ((f 26)).d) && ((@bytesEq (@Array.toList _ (@ByteArray.data ((f 26)).name)) (@Array.toList _ (@ByteArray.data ((f 26)).name))) && true))))) (.leaf (boo false)) (.fork (!((eqI ((f 27)).kind ((f 27)).kind) && ((eqI ((f 27)).n ((f 27)).n) && ((eqI ((f 27)).d ((f 27)).d) && ((@bytesEq (@Array.toList _ (@ByteArray.data ((f 27)).name)) (@Array.toList _ (@ByteArray.data ((f 27)).name))) && true))))) (.leaf (boo false)) (.fork (!((eqI ((f 28)).kind ((f 28)).kind) && ((eqI ((f 28)).n ((f 28)).n) && ((eqI ((f 28)).d ((f 28)).d) && ((@bytesEq (@Array.toList _ (@ByteArray.data ((f 28)).name)) (@Array.toList _ (@ByteArray.data ((f 28)).name))) && true))))) (.leaf (boo false)) (.fork (!((eqI ((f 29)).kind ((f 29)).kind) && ((eqI ((f 29)).n ((f 29)).n) && ((eqI ((f 29)).d ((f 29)).d) && ((@bytesEq (@Array.toList _ (@ByteArray.data ((f 29)).name)) (@Array.toList _ (@ByteArray.data ((f 29)).name))) && true))))) (.leaf (boo false)) (.fork (!((eqI ((f 30)).kind ((f 30)).kind) && ((eqI ((f 30)).n ((f 30)).n) && ((eqI ((f 30)).d ((f 30)).d) && ((@bytesEq (@Array.toList _ (@ByteArray.data ((f 30)).name)) (@Array.toList _ (@ByteArray.data ((f 30)).name))) && true))))) (.leaf (boo false)) (.fork (!((eqI ((f 31)).kind ((f 31)).kind) && ((eqI ((f 31)).n ((f 31)).n) && ((eqI ((f 31)).d ((f 31)).d) && ((@bytesEq (@Array.toList _ (@ByteArray.data ((f 31)).name)) (@Array.toList _ (@ByteArray.data ((f 31)).name))) && true))))) (.leaf (boo false)) (.fork (!((eqI ((f 32)).kind ((f 32)).kind) && ((eqI ((f 32)).n ((f 32)).n) && ((eqI ((f 32)).d ((f 32)).d) && ((@bytesEq (@Array.toList _ (@ByteArray.data ((f 32)).name)) (@Array.toList _ (@ByteArray.data ((f 32)).name))) && true))))) (.leaf (boo false)) (.fork (!((eqI ((f 33)).kind ((f 33)).kind) && ((eqI ((f 33)).n ((f 33)).n) && ((eqI ((f 33)).d ((f 33)).d) && ((@bytesEq (@Array.toList _ (@ByteArray.data ((f 33)).name)) (@Array.toList _ (@ByteArray.data ((f 33)).name))) && true))))) (.leaf (boo false)) (.fork (!((eqI ((f 34)).kind ((f 34)).kind) && ((eqI ((f 34)).n ((f 34)).n) && ((eqI ((f 34)).d ((f 34)).d) && ((@bytesEq (@Array.toList _ (@ByteArray.data ((f 34)).name)) (@Array.toList _ (@ByteArray.data ((f 34)).name))) && true))))) (.leaf (boo false)) (.fork (!((eqI ((f 35)).kind ((f 35)).kind) && ((eqI ((f 35)).n ((f 35)).n) && ((eqI ((f 35)).d ((f 35)).d) && ((@bytesEq (@Array.toList _ (@ByteArray.data ((f 35)).name)) (@Array.toList _ (@ByteArray.data ((f 35)).name))) && true))))) (.leaf (boo false)) (.fork (!((eqI ((f 36)).kind ((f 36)).kind) && ((eqI ((f 36)).n ((f 36)).n) && ((eqI ((f 36)).d ((f 36)).d) && ((@bytesEq (@Array.toList _ (@ByteArray.data ((f 36)).name)) (@Array.toList _ (@ByteArray.data ((f 36)).name))) && true))))) (.leaf (boo false)) (.leaf (boo true))))))))))))))))))))))))))))))))))))))) (by kernel_rfl) (by
    have key : ∀ k, (eqI (f k).kind (f k).kind && (eqI (f k).n (f k).n && (eqI (f k).d (f k).d && (bytesEq (f k).name.data.toList (f k).name.data.toList && true)))) = true := fun k => by
      rw [eqI_self, eqI_self, eqI_self, bytesEq_self]; rfl
    repeat' (first
      | exact rfl
      | refine fork_ok (fun h => (by rw [key] at h; cases h)) (fun _ => ?_)))
noncomputable abbrev Sy.cSam : Con Tryz.prog := atX 9 (fun args => match args with | [.view _ _ c, .view _ _ c'] => some (c, c') | _ => none) (fun x => [.view 37 4 x.1, .view 37 4 x.2]) (fun _ => boo true) (fun x => ∃ f, x = (vcell f, vcell f)) fun x ⟨f, e⟩ => by
  subst e
  exact ⟨⟨⟨fun i j => vcell_free f i j, fun i j => vcell_free f i j, trivial⟩, trivial⟩, sam_t f⟩
/-- does a rule count, and with which weight? -/
noncomputable def countsV (ns : List NodeW) (i : Int) (rs : List RuleV) (on : List Bool) (r : Int) : (Int × Int × Int) × Bool := if on.getD r.toNat false then bestV ns i (rs.getD r.toNat ruleNone).sels else ((0, 0, 0), false)
noncomputable abbrev Sy.countsA (ns : List NodeW) (i : Int) (rs : List RuleV) (on : List Bool) (r : Int) : AV := .tup [.agg [int (countsV ns i rs on r).1.1, int (countsV ns i rs on r).1.2.1, int (countsV ns i rs on r).1.2.2], boo (countsV ns i rs on r).2]
theorem Sy.rc_t (ns : List NodeW) (i : Int) (rs : List RuleV) (on : List Bool) (r : Int) (hok : DocOk ns) (hrs : RulesOk rs) (h0 : 0 ≤ r) (h1 : r < rs.length) : CallTo Tryz.prog 8 [nview ns, int i, rview rs, bview on, int r] M0 fun v _ => v = countsA ns i rs on r :=
  toV [cRBest ns i (rs.getD r.toNat ruleNone).sels] [] 400 30 (.br (.auto 1 (.yes (.auto 2 (.br .done (.yes (.yes .done)))))) (.auto 5 .done)) (.fork (!(leI (((on).length : Nat) : Int) r)) (.need (@inR r (on).length) (.fork (!(on.getD (r).toNat false)) (.leaf (@AV.tup [(@AV.agg [(int (0 : Int)), (int (0 : Int)), (int (0 : Int))]), (boo false)])) (.need (@inR r (rs).length) (.need (@isSo (@And ([(@AV.view (ns).length 6 (@ncell ns)), (int i), (sview (((rs.getD (r).toNat ruleNone)).sels))] = [(@AV.view (ns).length 6 (@ncell ns)), (int i), (sview (((rs.getD (r).toNat ruleNone)).sels))]) (@And (@And ((ns).length ≤ 17592186044416) (∀ (n : NodeW), n ∈ ns → NodeOk n)) (@And ((((rs.getD (r).toNat ruleNone)).sels).length ≤ 17592186044416) (∀ (ps : List PartV), ps ∈ (rs.getD r.toNat ruleNone).sels → PsOk ps))))) (.leaf (@AV.tup [(@AV.agg [(int (((@bestV ns i ((rs.getD (r).toNat ruleNone)).sels)).fst).fst), (int ((((@bestV ns i ((rs.getD (r).toNat ruleNone)).sels)).fst).snd).fst), (int ((((@bestV ns i ((rs.getD (r).toNat ruleNone)).sels)).fst).snd).snd)]), (boo ((@bestV ns i ((rs.getD (r).toNat ruleNone)).sels)).snd)])))))) (.leaf (@AV.tup [(@AV.agg [(int (0 : Int)), (int (0 : Int)), (int (0 : Int))]), (boo false)]))) (by kernel_rfl) (by
    have hr : inR r rs.length = true := by rw [inR_t]; omega
    have hsel : SelsOk (rs.getD r.toNat ruleNone).sels := (hrs.2 _ (getD_mem _ _ _ h0 h1)).1
    refine fork_ok (fun h2 => ?_) (fun h2 => ?_)
    · simp only [Bool.not_eq_true', Bool.not_eq_false', leI_t, leI_f, eqI_t, eqI_f, inR_t, inR_f, isSo_t, isSo_f] at h2
      have hon : inR r on.length = true := by rw [inR_t]; omega
      refine need_t hon (fork_ok (fun h3 => ?_) (fun h3 => need_t hr (need_so ⟨rfl, hok, hsel⟩ ?_)))
      · have e : countsV ns i rs on r = ((0, 0, 0), false) := by unfold countsV; rw [if_neg (by simpa using h3)]
        unfold countsA
        rw [e]; exact rfl
      · have e : countsV ns i rs on r = bestV ns i (rs.getD r.toNat ruleNone).sels := by unfold countsV; rw [if_pos (by simpa using h3)]
        unfold countsA
        rw [e]; exact rfl
    · simp only [Bool.not_eq_true', Bool.not_eq_false', leI_t, leI_f, eqI_t, eqI_f, inR_t, inR_f, isSo_t, isSo_f] at h2
      have e : countsV ns i rs on r = ((0, 0, 0), false) := by unfold countsV; rw [List.getD_eq_getElem?_getD, List.getElem?_eq_none (by omega)]; rfl
      unfold countsA
      rw [e]; exact rfl)
noncomputable abbrev Sy.cCounts (ns : List NodeW) (i : Int) (rs : List RuleV) (on : List Bool) (r : Int) : Con Tryz.prog := at1 8 [nview ns, int i, rview rs, bview on, int r] (countsA ns i rs on r) ((DocOk ns ∧ RulesOk rs) ∧ 0 ≤ r ∧ r < rs.length) fun h => ⟨⟨⟨nview_free ns, trivial, rview_free rs, bview_free on, trivial, trivial⟩, ⟨trivial, trivial, trivial, trivial⟩, trivial, trivial⟩, rc_t ns i rs on r h.1.1 h.1.2 h.2.1 h.2.2⟩
namespace Sy
abbrev rcell (L : List RuleV) (i j : Nat) : AV := (ruleL (L.getD i ruleNone)).getD j (.lit undef)
abbrev tcell (_ _ : Nat) : AV := boo true
abbrev offM (L : List RuleV) : Mem := ⟨2, 0, [some ⟨[], 4, some ⟨L.length, 1, tcell⟩⟩, some ⟨[], 34, some ⟨L.length, 4, rcell L⟩⟩]⟩
abbrev offF (ns : List NodeW) (i : Int) (rs : List RuleV) (on : List Bool) (n : Nat) (r : Int) : Fr := [some ((@AV.view (ns).length 6 (@ncell ns))), some ((int i)), some ((rview (rs))), some ((bview (on))), none, none, none, none, none, some (.own 0 n 4), some (.own 1 n 1), some (int r), none, none, none, none, none, none, none, none, none, none, none, none, none, none, none, none, none, none, none, none, none, none, none, none, none, none, none, none, none, none, none, none, none, none, none, none, none, none, none, none, none, none, none, none, none, none, none]
end Sy
/-sy off_r
fun (ns : List NodeW) (i : Int) (rs : List RuleV) (on : List Bool) (L : List RuleV) (r : Int) (d : D) => reckL [cCounts ns i rs on r] [] 400 30 3 7 [true, true, true, true, false, false, false, false, false, true, true, true, false, false, false, false, false, false, false, false, false, false, false, false, false, false, false, false, false, false, false, false, false, false, false, false, false, false, false, false, false, false, false, false, false, false, false, false, false, false, false, false, false, false, false, false, false, false, false] (offF ns i rs on L.length r) (offM L) d
-/
theorem Sy.ruleL_free (x : RuleV) (j : Nat) : Free ((ruleL x).getD j (.lit undef)) := by
  rcases j with _ | _ | _ | _ | j
  · exact trivial
  · exact trivial
  · exact sview_free _
  · exact dview_free _
  · exact trivial
theorem Sy.rcell_free (L : List RuleV) (i j : Nat) : Free (rcell L i j) := ruleL_free _ j
theorem Sy.offF_ren (ns : List NodeW) (i : Int) (rs : List RuleV) (on : List Bool) (n m r r' : Int) (a b c e : Nat) (σ : List Nat) (h : r = r') (h0 : σ[0]? = some a) (h1 : σ[1]? = some b) (hc : c = e) :
    RenF σ [some ((@AV.view (ns).length 6 (@ncell ns))), some ((int i)), some ((rview (rs))), some ((bview (on))), none, none, none, none, none, some (.own a c 4), some (.own b c 1), some (int r), none, none, none, none, none, none, none, none, none, none, none, none, none, none, none, none, none, none, none, none, none, none, none, none, none, none, none, none, none, none, none, none, none, none, none, none, none, none, none, none, none, none, none, none, none, none, none] (offF ns i rs on e r') := by
  subst h hc
  simp only [RenF, and_true]
  exact ⟨RenV.free _ (nview_free ns), rfl, RenV.free _ (rview_free rs), RenV.free _ (bview_free on), ⟨h0, rfl, rfl⟩, ⟨h1, rfl, rfl⟩, rfl⟩
theorem Sy.off_step (ns : List NodeW) (i : Int) (rs : List RuleV) (on : List Bool) (hok : DocOk ns) (hrs : RulesOk rs) (hsm : rs.length ≤ 12) (L : List RuleV) (x : RuleV) (r : Int) (n : Nat) (G : Ex → Fr → Mem → Prop) (h0 : 0 ≤ r) (hk : r ≤ rs.length) (hL : L.length ≤ r) (hg : r < rs.length → rs.getD r.toNat ruleNone = x)
    (c1 : r < rs.length → ∀ L', L' = (if countsB ns i on r.toNat x then L ++ [x] else L) → LoopToT 0 Tryz.prog (theBody Tryz.prog 3 7) n (offF ns i rs on L'.length (r + 1)) (offM L') G)
    (c2 : r = rs.length → G (.exit 0) (offF ns i rs on L.length r) (offM L)) :
    LoopToT 0 Tryz.prog (theBody Tryz.prog 3 7) (n + 1) (offF ns i rs on L.length r) (offM L) G := by
  refine roundT plain mixed 0 [cCounts ns i rs on r] [] 400 30 3 7 Tryz.func3 rfl (by kernel_rfl) [true, true, true, true, false, false, false, false, false, true, true, true, false, false, false, false, false, false, false, false, false, false, false, false, false, false, false, false, false, false, false, false, false, false, false, false, false, false, false, false, false, false, false, false, false, false, false, false, false, false, false, false, false, false, false, false, false, false, false] (.br (.yes (.br (.yes (.yes (.yes .done))) .done)) .done) (.fork (!(leI (((rs).length : Nat) : Int) r)) (.need (@isSo (@And ([(@AV.view (ns).length 6 (@ncell ns)), (int i), (rview (rs)), (bview (on)), (int r)] = [(@AV.view (ns).length 6 (@ncell ns)), (int i), (rview (rs)), (bview (on)), (int r)]) (@And (@And (@And ((ns).length ≤ 17592186044416) (∀ (n : NodeW), n ∈ ns → NodeOk n)) (@And ((rs).length ≤ 17592186044416) (∀ (x : RuleV), x ∈ rs → SelsOk x.sels ∧ DeclsOk x))) (@And ((0 : Int) ≤ r) (r < (((rs).length : Nat) : Int)))))) (.fork ((@countsV ns i rs on r)).snd (.need (@inR r (rs).length) (.need (Bool.true && ((@Nat.ble (L).length (L).length) && ((@Nat.ble (((L).length + 1) * 80) 140737488355328) && (@Nat.ble ((L).length + 1) 17592186044416)))) (.need (Bool.true && ((@Nat.ble (L).length (L).length) && ((@Nat.ble (((L).length + 1) * 1) 140737488355328) && (@Nat.ble ((L).length + 1) 17592186044416)))) (.leaf (Ex.norm, ([(some (@AV.view (ns).length 6 (@ncell ns))), (some (int i)), (some (rview (rs))), (some (bview (on))), none, none, none, none, none, (some (@AV.own ((2 + 1) + 1) ((L).length + 1) 4)), (some (@AV.own ((((2 + 1) + 1) + 1) + 1) ((L).length + 1) 1)), (some (int (w64 (r + (1 : Int))))), none, none, none, none, none, none, none, none, none, none, none, none, none, none, none, none, none, none, none, none, none, none, none, none, none, none, none, none, none, none, none, none, none, none, none, none, none, none, none, none, none, none, none, none, none, none, none], (@Mem.mk (((((2 + 1) + 1) + 1) + 1) + 1) (((0 + 1) + 1) + 1) ((some (@Blk.mk [] 4 (some (@Rw.mk ((L).length + 1) 1 (@appc (L).length (fun x771009 => (fun x335329 => (boo true))) (fun x225428 => (fun x814804 => (@getA [(boo true)] ((x225428 * 1) + x814804))))))))) :: ((some (@Blk.mk [(boo true)] 4 none)) :: (some (@Blk.mk [] 34 (some (@Rw.mk ((L).length + 1) 4 (@appc (L).length (fun x560695 => (fun x195542 => ([(int ((L.getD x560695 ruleNone)).origin), (@AV.lit (@Value.slice ((L.getD x560695 ruleNone)).ca ((L.getD x560695 ruleNone)).cn ((L.getD x560695 ruleNone)).cc)), (sview (((L.getD x560695 ruleNone)).sels)), (dview (((L.getD x560695 ruleNone)).decls))].getD x195542 (@AV.lit (@Value.tuple (@Array.mk _ [])))))) (fun x718811 => (fun x447263 => (@getA [(int ((rs.getD (r).toNat ruleNone)).origin), (@AV.lit (@Value.slice ((rs.getD (r).toNat ruleNone)).ca ((rs.getD (r).toNat ruleNone)).cn ((rs.getD (r).toNat ruleNone)).cc)), (sview (((rs.getD (r).toNat ruleNone)).sels)), (dview (((rs.getD (r).toNat ruleNone)).decls))] ((x718811 * 4) + x447263))))))))) :: ((some (@Blk.mk [(int ((rs.getD (r).toNat ruleNone)).origin), (@AV.lit (@Value.slice ((rs.getD (r).toNat ruleNone)).ca ((rs.getD (r).toNat ruleNone)).cn ((rs.getD (r).toNat ruleNone)).cc)), (sview (((rs.getD (r).toNat ruleNone)).sels)), (dview (((rs.getD (r).toNat ruleNone)).decls))] 34 none)) :: [(some (@Blk.mk [(int (((@countsV ns i rs on r)).fst).fst), (int ((((@countsV ns i rs on r)).fst).snd).fst), (int ((((@countsV ns i rs on r)).fst).snd).snd)] 27 none)), none, none])))))))))) (.leaf (Ex.norm, ([(some (@AV.view (ns).length 6 (@ncell ns))), (some (int i)), (some (rview (rs))), (some (bview (on))), none, none, none, none, none, (some (@AV.own 0 (L).length 4)), (some (@AV.own 1 (L).length 1)), (some (int (w64 (r + (1 : Int))))), none, none, none, none, none, none, none, none, none, none, none, none, none, none, none, none, none, none, none, none, none, none, none, none, none, none, none, none, none, none, none, none, none, none, none, none, none, none, none, none, none, none, none, none, none, none, none], (@Mem.mk (2 + 1) (0 + 1) [(some (@Blk.mk [(int (((@countsV ns i rs on r)).fst).fst), (int ((((@countsV ns i rs on r)).fst).snd).fst), (int ((((@countsV ns i rs on r)).fst).snd).snd)] 27 none)), (some (@Blk.mk [] 4 (some (@Rw.mk (L).length 1 tcell)))), (some (@Blk.mk [] 34 (some (@Rw.mk (L).length 4 (fun x269718 => (fun x402193 => ([(int ((L.getD x269718 ruleNone)).origin), (@AV.lit (@Value.slice ((L.getD x269718 ruleNone)).ca ((L.getD x269718 ruleNone)).cn ((L.getD x269718 ruleNone)).cc)), (sview (((L.getD x269718 ruleNone)).sels)), (dview (((L.getD x269718 ruleNone)).decls))].getD x402193 (@AV.lit (@Value.tuple (@Array.mk _ []))))))))))])))))) (.leaf ((@Ex.exit 0), ([(some (@AV.view (ns).length 6 (@ncell ns))), (some (int i)), (some (rview (rs))), (some (bview (on))), none, none, none, none, none, (some (@AV.own 0 (L).length 4)), (some (@AV.own 1 (L).length 1)), (some (int r)), none, none, none, none, none, none, none, none, none, none, none, none, none, none, none, none, none, none, none, none, none, none, none, none, none, none, none, none, none, none, none, none, none, none, none, none, none, none, none, none, none, none, none, none, none, none, none], (@Mem.mk 2 0 [(some (@Blk.mk [] 4 (some (@Rw.mk (L).length 1 tcell)))), (some (@Blk.mk [] 34 (some (@Rw.mk (L).length 4 (fun x419053 => (fun x843552 => ([(int ((L.getD x419053 ruleNone)).origin), (@AV.lit (@Value.slice ((L.getD x419053 ruleNone)).ca ((L.getD x419053 ruleNone)).cn ((L.getD x419053 ruleNone)).cc)), (sview (((L.getD x419053 ruleNone)).sels)), (dview (((L.getD x419053 ruleNone)).decls))].getD x843552 (@AV.lit (@Value.tuple (@Array.mk _ []))))))))))]))))) (by kernel_rfl) ?_
  refine fork_ok (fun h1 => ?_) (fun h1 => ?_)
  · simp only [Bool.not_eq_true', Bool.not_eq_false', leI_t, leI_f, eqI_t, eqI_f, inR_t, inR_f, isSo_t, isSo_f] at h1
    have hg := hg (by omega)
    have c1 := c1 (by omega)
    have h64 : w64 (r + 1) = r + 1 := w64_in (by omega)
    have hin : inR r rs.length = true := by rw [inR_t]; omega
    have hc : (countsV ns i rs on r).2 = countsB ns i on r.toNat x := by
      unfold countsV countsB
      rw [hg]
      cases on.getD r.toNat false <;> rfl
    refine need_so ⟨rfl, ⟨hok, hrs⟩, by omega, by omega⟩ (fork_ok (fun h2 => need_t hin (need_t ?_ (need_t ?_ ?_))) (fun h2 => ?_))
    · simp only [Bool.true_and, Bool.and_eq_true, Nat.ble_eq]
      omega
    · simp only [Bool.true_and, Bool.and_eq_true, Nat.ble_eq]
      omega
    · have h2 : (countsV ns i rs on r).2 = true := h2
      rw [hc] at h2
      have key := c1 (L ++ [x]) (by rw [h2]; rfl)
      refine LoopToT.ren (M2 := offM (L ++ [x])) [4, 6] rfl (offF_ren ns i rs on 0 0 _ _ 4 6 _ _ _ h64 rfl rfl (by simp)) ⟨rfl, rfl, by decide, ⟨6, _, rfl, rfl, rfl, trivial, by simp, rfl, fun a j ha hj => ?_⟩, ⟨4, _, rfl, rfl, rfl, trivial, by simp, rfl, fun a j ha hj => ?_⟩, trivial⟩ key
      · by_cases hlt : a < L.length
        · dsimp only
          rw [appc_lt hlt]; exact rfl
        · have ha : a < (L ++ [x]).length := ha
          simp at ha
          obtain rfl : a = L.length := by omega
          have hj : j < 1 := hj
          obtain rfl : j = 0 := by omega
          dsimp only
          rw [appc_ge (Nat.le_refl _), Nat.sub_self]; exact rfl
      · by_cases hlt : a < L.length
        · dsimp only
          rw [appc_lt hlt]
          have e2 : rcell (L ++ [x]) a j = rcell L a j := by
            have e3 : (L ++ [x]).getD a ruleNone = L.getD a ruleNone := by rw [List.getD_eq_getElem?_getD, List.getElem?_append_left hlt, ← List.getD_eq_getElem?_getD]
            unfold rcell
            rw [e3]
          rw [e2]
          exact RenV.free _ (rcell_free L a j)
        · have ha : a < (L ++ [x]).length := ha
          simp at ha
          obtain rfl : a = L.length := by omega
          have hj : j < 4 := hj
          dsimp only
          rw [appc_ge (Nat.le_refl _), Nat.sub_self]
          have e2 : rcell (L ++ [x]) L.length j = (ruleL (rs.getD r.toNat ruleNone)).getD j (.lit undef) := by
            have e3 : (L ++ [x]).getD L.length ruleNone = x := by rw [List.getD_eq_getElem?_getD, List.getElem?_append_right (Nat.le_refl _), Nat.sub_self]; rfl
            unfold rcell
            rw [e3, hg]
          rw [e2]
          rcases j with _ | _ | _ | _ | j
          · exact RenV.free _ (ruleL_free (rs.getD r.toNat ruleNone) 0)
          · exact RenV.free _ (ruleL_free (rs.getD r.toNat ruleNone) 1)
          · exact RenV.free _ (ruleL_free (rs.getD r.toNat ruleNone) 2)
          · exact RenV.free _ (ruleL_free (rs.getD r.toNat ruleNone) 3)
          · omega
    · have h2 : (countsV ns i rs on r).2 = false := h2
      rw [hc] at h2
      have key := c1 L (by rw [h2]; rfl)
      exact LoopToT.ren (M2 := offM L) [0, 1] rfl (offF_ren ns i rs on 0 0 _ _ 0 1 _ _ _ h64 rfl rfl rfl) ⟨rfl, rfl, by decide, ⟨1, _, rfl, rfl, rfl, trivial, rfl, rfl, fun a j ha hj => rfl⟩, ⟨0, _, rfl, rfl, rfl, trivial, rfl, rfl, fun a j ha hj => RenV.free _ (rcell_free L a j)⟩, trivial⟩ key
  · simp only [Bool.not_eq_true', Bool.not_eq_false', leI_t, leI_f, eqI_t, eqI_f, inR_t, inR_f, isSo_t, isSo_f] at h1
    exact c2 (by omega)
/-- the rules that count are gathered -/
theorem Sy.off_loop (ns : List NodeW) (i : Int) (rs : List RuleV) (on : List Bool) (hok : DocOk ns) (hrs : RulesOk rs) (hsm : rs.length ≤ 12) : ∀ (l pre L : List RuleV) (r : Int), rs = pre ++ l → r = pre.length → L.length ≤ pre.length →
    LoopToT 0 Tryz.prog (theBody Tryz.prog 3 7) (l.length + 1) (offF ns i rs on L.length r) (offM L) fun ex F' M' => ex = .exit 0 ∧ F' = offF ns i rs on (L ++ leftT ns i on l pre.length).length rs.length ∧ M' = offM (L ++ leftT ns i on l pre.length) := by
  intro l
  induction l with
  | nil =>
    intro pre L r h hk hL
    have hl : rs.length = pre.length := by rw [h]; simp
    rw [show L ++ leftT ns i on [] pre.length = L by simp [leftT]]
    exact off_step ns i rs on hok hrs hsm L ruleNone r _ _ (by omega) (by omega) (by omega) (fun h1 => by omega) (fun h1 => by omega) (fun h1 => ⟨rfl, by rw [h1], rfl⟩)
  | cons x l ih =>
    intro pre L r h hk hL
    have hl : rs.length = pre.length + l.length + 1 := by rw [h]; simp; omega
    refine off_step ns i rs on hok hrs hsm L x r _ _ (by omega) (by omega) (by omega) (fun _ => by rw [h]; exact getD_at _ _ _ _ _ hk) (fun h1 L' hL' => ?_) (fun h1 => by omega)
    have hlen : L'.length ≤ L.length + 1 := by
      rw [hL']
      split <;> simp
    have key := ih (pre ++ [x]) L' (r + 1) (by rw [h]; simp) (by simp; omega) (by simp; omega)
    have e : L ++ leftT ns i on (x :: l) pre.length = L' ++ leftT ns i on l (pre ++ [x]).length := by
      rw [hL', show r.toNat = pre.length by omega]
      simp only [leftT]
      rw [show (pre ++ [x]).length = pre.length + 1 by simp]
      split <;> simp
    rw [e]
    exact key
namespace Sy
abbrev offE (ns : List NodeW) (i : Int) (rs : List RuleV) (on : List Bool) (n : Nat) : Fr := [some ((@AV.view (ns).length 6 (@ncell ns))), some ((int i)), some ((rview (rs))), some ((bview (on))), none, none, none, none, none, some (.own 0 n 4), some (.own 1 n 1), none, none, none, none, none, none, none, none, none, none, none, none, none, none, none, none, none, none, none, none, none, none, none, none, none, none, none, none, none, none, none, none, none, none, none, none, none, none, none, none, none, none, none, none, none, none, none, none]
noncomputable abbrev leftL (ns : List NodeW) (i : Int) (rs : List RuleV) (on : List Bool) : List RuleV := leftT ns i on rs 0
noncomputable abbrev lpOff (ns : List NodeW) (i : Int) (rs : List RuleV) (on : List Bool) : Lp Tryz.prog where
  f := 3
  key := 7
  S := formS (fun F M => match slotI F 11 with | some r => some (r, M.stamp) | _ => none) (fun x => [some ((@AV.view (ns).length 6 (@ncell ns))), some ((int i)), some ((rview (rs))), some ((bview (on))), none, none, none, none, none, some ((@AV.lit (@Value.slice none 0 0))), some ((@AV.lit (@Value.slice none 0 0))), some (int x.1), none, none, none, none, none, none, none, none, none, none, none, none, none, none, none, none, none, none, none, none, none, none, none, none, none, none, none, none, none, none, none, none, none, none, none, none, none, none, none, none, none, none, none, none, none, none, none]) (fun x => ⟨0, x.2, []⟩) (fun x => (DocOk ns ∧ RulesOk rs ∧ rs.length ≤ 12) ∧ x.1 = 0) (fun x => .leaf (.exit 0, offE ns i rs on (leftL ns i rs on).length, offM (leftL ns i rs on))) [true, true, true, true, false, false, false, false, false, true, true, true, false, false, false, false, false, false, false, false, false, false, false, false, false, false, false, false, false, false, false, false, false, false, false, false, false, false, false, false, false, false, false, false, false, false, false, false, false, false, false, false, false, false, false, false, false, false, false]
  one := by kernel_rfl
  ok := formS_ok fun x ⟨⟨h1, h2, h2b⟩, h3⟩ => by
    obtain ⟨r, s⟩ := x
    simp only at h3
    subst h3
    refine ⟨rs.length + 1, ?_⟩
    have h6 := Sy.off_loop ns i rs on h1 h2 h2b rs [] [] 0 rfl rfl (Nat.le_refl _)
    have h7 : LoopToT 0 Tryz.prog (theBody Tryz.prog 3 7) (rs.length + 1) [some ((@AV.view (ns).length 6 (@ncell ns))), some ((int i)), some ((rview (rs))), some ((bview (on))), none, none, none, none, none, some ((@AV.lit (@Value.slice none 0 0))), some ((@AV.lit (@Value.slice none 0 0))), some (int 0), none, none, none, none, none, none, none, none, none, none, none, none, none, none, none, none, none, none, none, none, none, none, none, none, none, none, none, none, none, none, none, none, none, none, none, none, none, none, none, none, none, none, none, none, none, none, none] ⟨0, s, []⟩ _ := LoopToT.nil 9 34 4 (rcell []) (Nat.le_refl _) rfl (LoopToT.nil 10 4 1 tcell (Nat.zero_le _) rfl (LoopToT.stamp 0 h6))
    refine ((h7.to (Nat.le_refl _)).out [true, true, true, true, false, false, false, false, false, true, true, false, false, false, false, false, false, false, false, false, false, false, false, false, false, false, false, false, false, false, false, false, false, false, false, false, false, false, false, false, false, false, false, false, false, false, false, false, false, false, false, false, false, false, false, false, false, false, false]).mono fun ex F M hg => ?_
    obtain ⟨F0, ⟨rfl, rfl, hM⟩, rfl⟩ := hg
    rw [hM]; rfl
end Sy
theorem leftT_mem (ns : List NodeW) (i : Int) (on : List Bool) : ∀ (rs : List RuleV) (r : Nat) (x : RuleV), x ∈ leftT ns i on rs r → x ∈ rs
  | [], _, x, h => by simp [leftT] at h
  | y :: ys, r, x, h => by
    simp only [leftT] at h
    split at h
    · simp only [List.mem_cons] at h ⊢
      rcases h with h | h
      · exact .inl h
      · exact .inr (leftT_mem ns i on ys _ x h)
    · exact List.mem_cons_of_mem _ (leftT_mem ns i on ys _ x h)
theorem leftT_len (ns : List NodeW) (i : Int) (on : List Bool) : ∀ (rs : List RuleV) (r : Nat), (leftT ns i on rs r).length ≤ rs.length
  | [], _ => by simp [leftT]
  | y :: ys, r => by
    have := leftT_len ns i on ys (r + 1)
    simp only [leftT]
    split <;> simp <;> omega
theorem left_ok {ns : List NodeW} {i : Int} {rs : List RuleV} {on : List Bool} (h : RulesOk rs) : RulesOk (leftL ns i rs on) :=
  ⟨Nat.le_trans (leftT_len ns i on rs 0) h.1, fun x hx => h.2 x (leftT_mem ns i on rs 0 x hx)⟩
noncomputable abbrev Sy.allL (ns : List NodeW) (i : Int) (rs : List RuleV) (on : List Bool) : List Bool := List.replicate (leftL ns i rs on).length true
noncomputable abbrev Sy.cToldV (ns : List NodeW) (i : Int) (rs : List RuleV) (on : List Bool) : Con Tryz.prog := atF 10 (fun args _ => match args with | [_, _, .view .., _] => some false | [_, _, .own .., _] => some true | _ => none) (fun x => match x with | false => [nview ns, int i, rview rs, bview on] | true => [nview ns, int i, rview (leftL ns i rs on), bview (allL ns i rs on)]) (fun x => match x with | false => toldV (rulesT ns i on rs 0 st0) | true => toldV (rulesT ns i (allL ns i rs on) (leftL ns i rs on) 0 st0)) (fun x => DocOk ns ∧ RulesOk rs) fun x h => by
  cases x with
  | false => exact ⟨toldV_free _, told_f ns i rs on h.1 h.2⟩
  | true => exact ⟨toldV_free _, told_f ns i _ _ h.1 (left_ok h.2)⟩
/-sy off_t
fun (ns : List NodeW) (i : Int) (rs : List RuleV) (on : List Bool) (d : D) => reckV [cSmall ns rs, cKnown16, cToldV ns i rs on, cSam] [lpOff ns i rs on] 400 30 3 [nview ns, int i, rview rs, bview on] M0 d
-/
theorem told_same (ns : List NodeW) (i : Int) (rs : List RuleV) (on : List Bool) : (rulesT ns i on rs 0 st0).out = (rulesT ns i (allL ns i rs on) (leftL ns i rs on) 0 st0).out := by
  funext k
  exact (rulesT_left ns i on (allL ns i rs on) rs 0 0 (Like.refl st0) (fun j hj => by
    rw [Nat.zero_add, List.getD_eq_getElem?_getD, List.getElem?_replicate, if_pos hj]; rfl) k).1
theorem smallR_sm {ns : List NodeW} {rs : List RuleV} (h : (!smallB ns rs) = false) : rs.length ≤ 12 := by
  simp only [Bool.not_eq_false'] at h
  unfold smallB at h
  simp only [Bool.and_eq_true, leI_t] at h
  omega
theorem Sy.off_t (ns : List NodeW) (i : Int) (rs : List RuleV) (on : List Bool) (hok : DocOk ns) (hrs : RulesOk rs) : CallTo Tryz.prog 3 [nview ns, int i, rview rs, bview on] M0 fun v _ => v = boo true :=
  toV [cSmall ns rs, cKnown16, cToldV ns i rs on, cSam] [lpOff ns i rs on] 400 30 (.yes (.br (.yes .done) (.yes (.yes (.yes (.auto 0 (.yes (.auto 0 .done)))))))) (.need (@isSo (@And (@Conv (@Mem.mk 0 0 []) [(@AV.view (ns).length 6 (@ncell ns)), (rview (rs))] [(@AV.view (ns).length 6 (@ncell ns)), (rview (rs))]) (@And ((rs).length ≤ 17592186044416) (∀ (r : RuleV), r ∈ rs → SelLen r)))) (.fork (!(@smallB ns rs)) (.need (@isSo (@And (([] : List AV) = []) True)) (.leaf (boo true))) (.need (@isSo (@And (((some (@AV.view (ns).length 6 (@ncell ns))) :: (some (int i)) :: (some (rview (rs))) :: (some (bview (on))) :: [none, none, none, none, none, (some (@AV.lit (@Value.slice none 0 0))), (some (@AV.lit (@Value.slice none 0 0))), (some (int (0 : Int))), none, none, none, none, none, none, none, none, none, none, none, none, none, none, none, none, none, none, none, none, none, none, none, none, none, none, none, none, none, none, none, none, none, none, none, none, none, none, none, none, none, none, none, none, none, none, none]) = [(some (@AV.view (ns).length 6 (@ncell ns))), (some (int i)), (some (rview (rs))), (some (bview (on))), none, none, none, none, none, (some (@AV.lit (@Value.slice none 0 0))), (some (@AV.lit (@Value.slice none 0 0))), (some (int (Int.ofNat 0))), none, none, none, none, none, none, none, none, none, none, none, none, none, none, none, none, none, none, none, none, none, none, none, none, none, none, none, none, none, none, none, none, none, none, none, none, none, none, none, none, none, none, none, none, none, none, none]) ((@Mem.mk 0 0 []) = (@Mem.mk 0 0 [])))) (.need (@isSo (@And (@And (@And ((ns).length ≤ 17592186044416) (∀ (n : NodeW), n ∈ ns → NodeOk n)) (@And (@And ((rs).length ≤ 17592186044416) (∀ (x : RuleV), x ∈ rs → SelsOk x.sels ∧ DeclsOk x)) ((rs).length ≤ 12))) ((Int.ofNat 0) = (0 : Int)))) (.need (@isSo (@And (@Conv (@Mem.mk 2 0 [(some (@Blk.mk [] 4 (some (@Rw.mk ((@leftL ns i rs on)).length 1 tcell)))), (some (@Blk.mk [] 34 (some (@Rw.mk ((@leftL ns i rs on)).length 4 (fun x873607 => (fun x439086 => ([(int (((@leftL ns i rs on).getD x873607 ruleNone)).origin), (@AV.lit (@Value.slice (((@leftL ns i rs on).getD x873607 ruleNone)).ca (((@leftL ns i rs on).getD x873607 ruleNone)).cn (((@leftL ns i rs on).getD x873607 ruleNone)).cc)), (sview ((((@leftL ns i rs on).getD x873607 ruleNone)).sels)), (dview ((((@leftL ns i rs on).getD x873607 ruleNone)).decls))].getD x439086 (@AV.lit (@Value.tuple (@Array.mk _ []))))))))))]) [(@AV.view (ns).length 6 (@ncell ns)), (int i), (rview (rs)), (bview (on))] [(@AV.view (ns).length 6 (@ncell ns)), (int i), (rview (rs)), (bview (on))]) (@And (@And ((ns).length ≤ 17592186044416) (∀ (n : NodeW), n ∈ ns → NodeOk n)) (@And ((rs).length ≤ 17592186044416) (∀ (x : RuleV), x ∈ rs → SelsOk x.sels ∧ DeclsOk x))))) (.need (@isSo (@And (@Conv (@Mem.mk 2 0 [(some (@Blk.mk [] 4 (some (@Rw.mk ((@leftL ns i rs on)).length 1 tcell)))), (some (@Blk.mk [] 34 (some (@Rw.mk ((@leftL ns i rs on)).length 4 (fun x448189 => (fun x280469 => ([(int (((@leftL ns i rs on).getD x448189 ruleNone)).origin), (@AV.lit (@Value.slice (((@leftL ns i rs on).getD x448189 ruleNone)).ca (((@leftL ns i rs on).getD x448189 ruleNone)).cn (((@leftL ns i rs on).getD x448189 ruleNone)).cc)), (sview ((((@leftL ns i rs on).getD x448189 ruleNone)).sels)), (dview ((((@leftL ns i rs on).getD x448189 ruleNone)).decls))].getD x280469 (@AV.lit (@Value.tuple (@Array.mk _ []))))))))))]) [(@AV.view (ns).length 6 (@ncell ns)), (int i), (@AV.own 0 ((@leftL ns i rs on)).length 4), (@AV.own 1 ((@leftL ns i rs on)).length 1)] [(@AV.view (ns).length 6 (@ncell ns)), (int i), (rview ((@leftL ns i rs on))), (bview ((@allL ns i rs on)))]) (@And (@And ((ns).length ≤ 17592186044416) (∀ (n : NodeW), n ∈ ns → NodeOk n)) (@And ((rs).length ≤ 17592186044416) (∀ (x : RuleV), x ∈ rs → SelsOk x.sels ∧ DeclsOk x))))) (.need (@isSo (@And ([(@AV.view 37 4 (@vcell ((@rulesT ns i on rs 0 st0)).out)), (@AV.view 37 4 (@vcell ((@rulesT ns i (@allL ns i rs on) (@leftL ns i rs on) 0 st0)).out))] = [(@AV.view 37 4 (@vcell ((@rulesT ns i on rs 0 st0)).out)), (@AV.view 37 4 (@vcell ((@rulesT ns i (@allL ns i rs on) (@leftL ns i rs on) 0 st0)).out))]) (@Exists _ (fun x797493 => (((@vcell ((@rulesT ns i on rs 0 st0)).out), (@vcell ((@rulesT ns i (@allL ns i rs on) (@leftL ns i rs on) 0 st0)).out)) = ((@vcell x797493), (@vcell x797493))))))) (.need (@isSo (@And (([] : List AV) = []) True)) (.leaf (boo true)))))))))) (by kernel_rfl) (by
    refine need_so ⟨Conv.cons (Conv1.free _ (nview_free ns)) (Conv.cons (Conv1.free _ (rview_free rs)) (Conv.nil _)), hrs.1, fun r hr => (hrs.2 r hr).1.1⟩ (fork_ok (fun h => need_so ⟨rfl, trivial⟩ rfl) (fun h => ?_))
    have hsm := smallR_sm h
    refine need_so ⟨rfl, rfl⟩ (need_so ⟨⟨hok, hrs, hsm⟩, rfl⟩ (need_so ⟨?_, hok, hrs⟩ (need_so ⟨?_, hok, hrs⟩ (need_so ⟨rfl, (rulesT ns i on rs 0 st0).out, by rw [← told_same]⟩ (need_so ⟨rfl, trivial⟩ rfl)))))
    · exact Conv.cons (Conv1.free _ (nview_free ns)) (Conv.cons (Conv1.lit _ _) (Conv.cons (Conv1.free _ (rview_free rs)) (Conv.cons (Conv1.free _ (bview_free on)) (Conv.nil _))))
    · have hlen : (allL ns i rs on).length = (leftL ns i rs on).length := List.length_replicate
      refine Conv.cons (Conv1.free _ (nview_free ns)) (Conv.cons (Conv1.lit _ _) (Conv.cons (Conv1.own (B := ⟨[], 34, some ⟨(leftL ns i rs on).length, 4, rcell (leftL ns i rs on)⟩⟩) rfl rfl (Nat.le_refl _) rfl fun a j _ _ => ⟨rcell_free _ a j, rfl⟩) (Conv.cons ?_ (Conv.nil _))))
      have c : Conv1 (offM (leftL ns i rs on)) (.own 1 (leftL ns i rs on).length 1) (bview (allL ns i rs on)) := by
        show Conv1 _ _ (.view (allL ns i rs on).length 1 _)
        rw [hlen]
        refine Conv1.own (B := ⟨[], 4, some ⟨(leftL ns i rs on).length, 1, tcell⟩⟩) rfl rfl (Nat.le_refl _) rfl fun a j ha _ => ⟨trivial, ?_⟩
        show boo true = boo ((allL ns i rs on).getD a false)
        rw [List.getD_eq_getElem?_getD, List.getElem?_replicate, if_pos ha]; rfl
      exact c)
end Go.Proofs.YtmlhipckgmbpfaaGreat
namespace Go.Proofs.YtmlhipckgmbpfaaGreat
open Go Go.RowKit Go.ChangeShapes Go.WideShapes Go.ChangeAt Go.Deep
set_option linter.unusedVariables false
set_option maxRecDepth 100000
section
variable {H : Type} {enc : TypeId × Value → H} {W : World}
theorem open_bools {r : Reach} {b : Nat} {v : Value} {d : DataW H} {p : List MemPlace} (hv : Value.okWide Tryz.prog W r b 24 v) (h : DataW.Trod enc Tryz.prog W 0 (fun _ => true) true 24 v d p) (hlt : ∀ x ∈ p, x.block < W.heap.size) :
    ∃ bs : List Bool, Sy.rel (Sy.rho0 W) (Sy.bview bs) v := by
  obtain ⟨a0, n0, c0, rfl⟩ := okWide_slice Tryz.underlying24 hv
  obtain ⟨fuel, hf⟩ := h
  have hf' : DataW.trod enc Tryz.prog W 0 (fun _ => true) true fuel 24 [.slice a0 n0 c0] = some (d, p) := hf
  rcases open_slice1 Tryz.underlying24 pBool_ hf' with ⟨hc, _⟩ | ⟨a, len, cap, m, n, V, D, Pl, hc, hb, hl, hm, hmm, hx, hel⟩
  · simp at hc
    obtain ⟨rfl, rfl, rfl⟩ := hc
    exact ⟨[], none, 0, rfl, Nat.le_refl _, by unfold maxLen; omega, fun _ => rfl, fun h => absurd h (by simp)⟩
  · simp at hc
    obtain ⟨rfl, rfl, rfl⟩ := hc
    simp only [if_true] at hmm
    subst hmm
    have key : ∀ i, i < n0 → ∃ x : Bool, W.cell? (a.add i) = some (.bool x) := fun i hi => by
      obtain ⟨h1, h2⟩ := hel i (by omega)
      obtain ⟨x, e, _⟩ := DataW.trod_bool Tryz.underlying4 h2
      simp at e
      exact ⟨x, by rw [h1, e]⟩
    obtain ⟨F, hF⟩ := choose_lt key
    refine ⟨(List.range n0).map F, ?_⟩
    simp only [Sy.rel, List.length_map, List.length_range]
    refine ⟨some a, _, rfl, hl, hm, (fun h => by cases h), fun h0 => ?_⟩
    obtain ⟨b, off, spot⟩ := a
    have hspot : spot = none := by
      have h1 := hF 0 h0
      have := World.cell?_spot h1
      simpa [Addr.add] using this
    subst hspot
    refine ⟨b, off, rfl, fun i j hi hj => ?_⟩
    obtain rfl : j = 0 := by omega
    have hadd : (⟨b, off, none⟩ : Addr).add i = ⟨b, off + i, none⟩ := by
      unfold Addr.add
      split
      · rename_i h; subst h; rfl
      · rfl
    have h1 := hF i hi
    rw [hadd] at h1
    have hblt : b < W.heap.size := by
      have := h1
      simp only [World.cell?] at this
      rcases Nat.lt_or_ge b W.heap.size with hh | hh
      · exact hh
      · rw [Array.getElem?_eq_none hh] at this
        cases this
    refine ⟨.bool (F i), ?_, ?_, rfl⟩
    · simp only [Sy.rho0, if_pos hblt, Nat.mul_one, Nat.add_zero]
      exact h1
    · show Value.bool (F i) = .bool (((List.range n0).map F).getD i false)
      rw [List.getD_eq_getElem?_getD, List.getElem?_map, List.getElem?_range hi]; rfl
theorem rel_rview {a : Option Addr} {cap : Nat} {rs : List RRow} (h : Rows RRow.cells 4 W a cap rs) (hq : ∀ q ∈ rs, RRowIn W q) : Sy.rel (Sy.rho0 W) (Sy.rview (rs.map RRow.r)) (.slice a rs.length cap) := by
  simp only [Sy.rel, List.length_map]
  refine ⟨a, cap, rfl, h.le, h.max, h.nil, fun hn => ?_⟩
  obtain ⟨b, off, rfl, hb, hcell⟩ := h.base (fun e => by rw [e] at hn; simp at hn)
  refine ⟨b, off, rfl, fun i j hi hj => ?_⟩
  have hg : (rs.map RRow.r).getD i ruleNone = rs[i].r := by rw [List.getD_eq_getElem?_getD, List.getElem?_map, List.getElem?_eq_getElem hi]; rfl
  obtain ⟨⟨r1, r2⟩, r3⟩ := hq rs[i] (List.getElem_mem hi)
  have hst : ∀ u, (RRow.cells rs[i])[j]? = some u → (Sy.rho0 W).still b (off + i * 4 + j) = some u := fun u hu => by
    simp only [Sy.rho0, if_pos hb]
    exact hcell i hi j u hu
  rw [hg]
  rcases j with _ | _ | _ | _ | j
  · exact ⟨_, hst _ rfl, rfl, rfl⟩
  · exact ⟨_, hst _ rfl, rfl, rfl⟩
  · exact ⟨_, hst _ rfl, rel_sview r1 r2, rfl⟩
  · exact ⟨_, hst _ rfl, rel_dview r3, rfl⟩
  · omega
theorem rulesOk_of {a : Option Addr} {cap : Nat} {rs : List RRow} (h : Rows RRow.cells 4 W a cap rs) (hq : ∀ q ∈ rs, RRowIn W q) : RulesOk (rs.map RRow.r) :=
  ⟨by rw [List.length_map]; exact h.sm, fun x hx => by
    obtain ⟨r, hr, rfl⟩ := List.mem_map.1 hx
    exact ⟨selsOk_of (hq r hr).1.1 (hq r hr).1.2, (hq r hr).2.sm⟩⟩
theorem off_walk {a : Option Addr} {cap : Nat} {ns : List NRow} (hD : Doc W a cap ns) (i : Int) {ra : Option Addr} {rc : Nat} {rs : List RRow} (hR : Rows RRow.cells 4 W ra rc rs) (hQ : ∀ q ∈ rs, RRowIn W q) {v : Value} {bs : List Bool} (hv : Sy.rel (Sy.rho0 W) (Sy.bview bs) v) :
    Calls Tryz.prog 3 #[.slice a ns.length cap, .int .i64 i, .slice ra rs.length rc, v] W fun e w' => e = .returned (.bool true) ∧ Below W.heap.size W w' :=
  law_trueS (Sy.off_t (ns.map NRow.n) i (rs.map RRow.r) bs hD.ok (rulesOk_of hR hQ)) (us := [_, _, _, _])
    ⟨_, _, rfl, rel_nview hD, _, _, rfl, rfl, _, _, rfl, rel_rview hR hQ, _, _, rfl, hv, rfl⟩
end
end Go.Proofs.YtmlhipckgmbpfaaGreat
