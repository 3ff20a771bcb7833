/-
  Lemmas for SelectorPrints, part 7; no conditions.
-/
import Derived.Test.YtconlneohilnmaaPrpF
namespace Go.Proofs.Ytconlneohilnmaa
open Go Go.RowKit Pl Sy
set_option linter.unusedVariables false
set_option linter.unusedSimpArgs false
theorem trim_sp {l : List TokV} (h1 : ∀ u ∈ l.head?, spB u = false) (h2 : ∀ u ∈ l.getLast?, spB u = false) : trim l = l := by
  have drop : ∀ m : List TokV, (∀ u ∈ m.head?, spB u = false) → m.dropWhile spB = m := fun m h => by
    cases m with
    | nil => rfl
    | cons x m =>
      have hx := h x rfl
      rw [List.dropWhile_cons, if_neg (by rw [hx]; simp)]
  unfold trim
  rw [drop l h1, drop l.reverse (by rw [List.head?_reverse]; exact h2), List.reverse_reverse]
def LastNB (l : List TokV) : Prop := ∀ u ∈ l.getLast?, spB u = false
theorem LastNB.nil : LastNB [] := fun u hu => by simp at hu
theorem LastNB.snoc {l : List TokV} {k : Int} {s : ByteArray} (h : k ≠ 20) : LastNB (l ++ [tk k s]) := fun u hu => by
  rw [List.getLast?_append] at hu
  simp at hu
  subst hu
  unfold spB
  rw [eqI_f]
  exact h
theorem LastNB.app {A B : List TokV} (hA : LastNB A) (hB : LastNB B) : LastNB (A ++ B) := fun u hu => by
  rcases List.eq_nil_or_concat B with rfl | ⟨B', b, rfl⟩
  · rw [List.append_nil] at hu; exact hA u hu
  · refine hB u ?_
    rw [List.concat_eq_append, List.getLast?_append] at hu ⊢
    rw [List.getLast?_append] at hu
    simpa using hu
theorem LastNB.app_r {A B : List TokV} (hn : B ≠ []) (hB : LastNB B) : LastNB (A ++ B) := fun u hu => by
  rcases List.eq_nil_or_concat B with rfl | ⟨B', b, rfl⟩
  · exact absurd rfl hn
  · refine hB u ?_
    rw [List.concat_eq_append, List.getLast?_append] at hu ⊢
    rw [List.getLast?_append] at hu
    simpa using hu
theorem last_one (k : Int) (s : ByteArray) (h : k ≠ 20) : LastNB [tk k s] := LastNB.snoc (l := []) h
theorem last_flat {α : Type} (f : α → List TokV) (h : ∀ x, LastNB (f x)) : ∀ l : List α, LastNB (l.flatMap f)
  | [] => LastNB.nil
  | x :: l => by rw [List.flatMap_cons]; exact (h x).app (last_flat f h l)
theorem last_test (t : TestV) : LastNB (testT t) := by
  unfold testT
  split
  · exact LastNB.snoc (l := [tk 15 ⟨#[]⟩, tk 1 t.name, tk 19 ⟨#[61]⟩, tk 5 t.value]) (by decide)
  · exact LastNB.snoc (l := [tk 15 ⟨#[]⟩, tk 1 t.name]) (by decide)
theorem last_state (n : Int) (b : Nat) (s : ByteArray) : LastNB (stateT n b s) := by
  rw [stateT_eq]
  split
  · exact LastNB.nil
  · exact LastNB.snoc (l := [tk 10 ⟨#[]⟩]) (by decide)
theorem last_part (p : PartV) : LastNB (partT p) := by
  unfold partT
  split
  · exact last_one 19 _ (by decide)
  · rw [bodyT_eq]
    unfold restT
    refine LastNB.app ?_ (LastNB.app ?_ (LastNB.app ?_ (LastNB.app ?_ ((last_state _ _ _).app ((last_state _ _ _).app (last_state _ _ _))))))
    · unfold tagT; split
      · exact LastNB.nil
      · exact last_one 1 _ (by decide)
    · unfold idT; split
      · exact LastNB.nil
      · exact last_one 4 _ (by decide)
    · exact last_flat (fun s => [tk 19 ⟨#[46]⟩, tk 1 s]) (fun s => LastNB.snoc (l := [tk 19 ⟨#[46]⟩]) (by decide)) p.cls
    · exact last_flat testT last_test p.tests
theorem partT_ne (p : PartV) : partT p ≠ [] := by
  obtain ⟨t, L, h, _⟩ := part_first p
  rw [h]; simp
theorem last_parts : ∀ ps : List PartV, LastNB (partsT ps)
  | [] => LastNB.nil
  | p :: ps => by
    rw [partsT_cons]
    exact LastNB.app (A := combT p.comb ++ partT p) (LastNB.app_r (partT_ne p) (last_part p)) (last_parts ps)
theorem right_first {p : PartV} {l : List PartV} (h : rightB (p :: l) = true) : p.comb = 0 := by
  obtain ⟨_, _, r3⟩ := right_of h
  have := r3 0 (by simp)
  exact this.1 (by omega)
theorem trim_parts {ps : List PartV} (h : rightB ps = true) : trim (partsT ps) = partsT ps := by
  refine trim_sp ?_ (last_parts ps)
  cases ps with
  | nil => intro u hu; simp [partsT] at hu
  | cons p l =>
    intro u hu
    rw [partsT_cons, right_first h] at hu
    obtain ⟨t, L, ht, hc⟩ := part_first p
    rw [show combT 0 = [] from rfl, ht] at hu
    simp at hu
    subst hu
    unfold spB
    rw [eqI_f]
    exact hc.1
theorem tops_last {X : List TokV} (h : Hop comB X) : tops comB X 0 = X.length := by
  have e := h [] []
  simp only [List.nil_append, List.append_nil, List.length_nil, Nat.zero_add] at e
  rw [e, tops_step, if_neg (fun ⟨hh, _⟩ => absurd hh (by omega))]
theorem tops_more {X Y : List TokV} {s : ByteArray} (h : Hop comB X) : tops comB (X ++ tk 12 s :: Y) 0 = X.length := by
  have e := h [] (tk 12 s :: Y)
  simp only [List.nil_append, List.length_nil, Nat.zero_add] at e
  rw [e, tops_step, if_neg (fun ⟨_, hh⟩ => by
    unfold tokAt at hh
    rw [getD_pre X (tk 12 s) Y] at hh
    have h12 : comB (tk 12 s) = true := by unfold comB; rw [eqI_t]; rfl
    rw [h12] at hh
    cases hh)]
theorem pieces_last {X : List TokV} (h : Hop comB X) : pieces comB X = [X] := by
  rw [pieces_step, tops_last h, if_pos rfl, List.take_length]
theorem pieces_more {X Y : List TokV} {s : ByteArray} (h : Hop comB X) : pieces comB (X ++ tk 12 s :: Y) = X :: pieces comB Y := by
  rw [pieces_step, tops_more h, if_neg (by simp)]
  rw [List.take_left, show X ++ tk 12 s :: Y = (X ++ [tk 12 s]) ++ Y by simp, show X.length + 1 = (X ++ [tk 12 s]).length by simp, List.drop_left]
def pieceT (ps : List PartV) : List TokV := tk 20 ⟨#[]⟩ :: partsT ps
theorem pieces_sels : ∀ (l : List (List PartV)) (pre : List TokV) (ps : List PartV) (k : Int), 0 < k → Hop comB pre → pieces comB (pre ++ partsT ps ++ selsT k l) = (pre ++ partsT ps) :: l.map pieceT
  | [], pre, ps, k, hk, hp => by
    rw [show selsT k [] = [] from rfl, List.append_nil]
    exact pieces_last (hp.app (hop_parts ps))
  | q :: l, pre, ps, k, hk, hp => by
    have e : selsT k (q :: l) = tk 12 ⟨#[]⟩ :: ([tk 20 ⟨#[]⟩] ++ partsT q ++ selsT (k + 1) l) := by
      show sepT k ++ partsT q ++ selsT (k + 1) l = _
      unfold sepT
      rw [if_neg (by omega)]
      simp
    rw [e, pieces_more (hp.app (hop_parts ps)), pieces_sels l [tk 20 ⟨#[]⟩] q (k + 1) (by omega) (hop_tk 20 _ (by decide) (by decide))]
    rfl
theorem pieces_all (ps : List PartV) (l : List (List PartV)) : pieces comB (selsT 0 (ps :: l)) = partsT ps :: l.map pieceT := by
  have e : selsT 0 (ps :: l) = [] ++ partsT ps ++ selsT 1 l := rfl
  rw [e, pieces_sels l [] ps 1 (by decide) (Hop.nil _)]
  rfl
theorem sel_one {ps : List PartV} {x : List TokV} (h : rightB ps = true) (hx : trim x = partsT ps) : selOk x = true ∧ selPs x = ps := by
  obtain ⟨h1, h2, h3⟩ := rsel_law ps h
  unfold selOk selPs
  rw [hx, h1, h2, h3]
  exact ⟨rfl, rfl⟩
theorem sel_piece {ps : List PartV} (h : rightB ps = true) : selOk (pieceT ps) = true ∧ selPs (pieceT ps) = ps :=
  sel_one h (by unfold pieceT; rw [trim_cons _ (by decide)]; exact trim_parts h)
theorem parse_law {ss : List (List PartV)} (hn : ss.length ≠ 0) (h : ∀ ps ∈ ss, rightB ps = true) : parseV (selsT 0 ss) = ss ∧ parseE (selsT 0 ss) = 0 := by
  cases ss with
  | nil => exact absurd rfl hn
  | cons ps l =>
    have hp := sel_one (h ps (by simp)) (trim_parts (h ps (by simp)))
    have hok : (pieces comB (selsT 0 (ps :: l))).all selOk = true := by
      rw [pieces_all, List.all_cons, hp.1, Bool.true_and, List.all_eq_true]
      intro x hx
      obtain ⟨q, hq, rfl⟩ := List.mem_map.1 hx
      exact (sel_piece (h q (by simp [hq]))).1
    unfold parseV parseE
    rw [if_pos hok, if_pos hok, pieces_all, List.map_cons, hp.2, List.map_map]
    refine ⟨?_, rfl⟩
    congr 1
    have e : ∀ m : List (List PartV), (∀ q ∈ m, rightB q = true) → m.map (selPs ∘ pieceT) = m := fun m => by
      induction m with
      | nil => intro _; rfl
      | cons q m ih =>
        intro hm
        rw [List.map_cons, ih (fun r hr => hm r (by simp [hr]))]
        show selPs (pieceT q) :: m = _
        rw [(sel_piece (hm q (by simp))).2]
    exact e l (fun q hq => h q (by simp [hq]))
theorem toksOk_app {A B : List TokV} (hA : ToksOk A) (hB : ToksOk B) : ToksOk (A ++ B) := fun t ht => by
  rcases List.mem_append.1 ht with h | h
  · exact hA t h
  · exact hB t h
theorem ToksOk.app' {A B : List TokV} (hA : ToksOk A) (hB : ToksOk B) : ToksOk (A ++ B) := toksOk_app hA hB
theorem toksOk_nil : ToksOk [] := fun t ht => by cases ht
theorem toksOk_cons {k : Int} {s : ByteArray} {l : List TokV} (h : s.size ≤ maxLen) (hl : ToksOk l) : ToksOk (tk k s :: l) := fun t ht => by
  rcases List.mem_cons.1 ht with rfl | h'
  · exact h
  · exact hl t h'
theorem toksOk_flat {α : Type} (f : α → List TokV) : ∀ (l : List α), (∀ x ∈ l, ToksOk (f x)) → ToksOk (l.flatMap f)
  | [], _ => toksOk_nil
  | x :: l, h => by rw [List.flatMap_cons]; exact toksOk_app (h x (by simp)) (toksOk_flat f l (fun y hy => h y (by simp [hy])))
theorem toksOk_test {t : TestV} (h : t.Ok) : ToksOk (testT t) := by
  have h0 : (0 : Nat) ≤ maxLen := Nat.zero_le _
  unfold testT
  split
  · exact toksOk_cons (Nat.zero_le _) (toksOk_cons h.1 (toksOk_cons (by decide) (toksOk_cons h.2 (toksOk_cons (Nat.zero_le _) toksOk_nil))))
  · exact toksOk_cons (Nat.zero_le _) (toksOk_cons h.1 (toksOk_cons (Nat.zero_le _) toksOk_nil))
theorem toksOk_state (n : Int) (b : Nat) (s : ByteArray) (h : s.size ≤ maxLen) : ToksOk (stateT n b s) := by
  rw [stateT_eq]
  split
  · exact toksOk_nil
  · exact toksOk_cons (Nat.zero_le _) (toksOk_cons h toksOk_nil)
theorem toksOk_part {p : PartV} (h : PartOk p) : ToksOk (partT p) := by
  obtain ⟨h1, h2, h3, h4⟩ := h
  unfold partT
  split
  · exact toksOk_cons (by decide) toksOk_nil
  · rw [bodyT_eq]
    unfold restT
    refine toksOk_app ?_ (toksOk_app ?_ (toksOk_app ?_ (toksOk_app ?_ ((toksOk_state _ _ _ (by decide)).app' ((toksOk_state _ _ _ (by decide)).app' (toksOk_state _ _ _ (by decide)))))))
    · unfold tagT; split
      · exact toksOk_nil
      · exact toksOk_cons h1 toksOk_nil
    · unfold idT; split
      · exact toksOk_nil
      · exact toksOk_cons h2 toksOk_nil
    · exact toksOk_flat (fun s => [tk 19 ⟨#[46]⟩, tk 1 s]) p.cls (fun s hs => toksOk_cons (by decide) (toksOk_cons (h3.2 s hs) toksOk_nil))
    · exact toksOk_flat testT p.tests (fun t ht => toksOk_test (h4.2 t ht))
theorem toksOk_comb (c : Int) : ToksOk (combT c) := by
  have hs : (signS c).size ≤ maxLen := by
    unfold signS
    repeat' split
    all_goals decide
  unfold combT
  split
  · exact toksOk_nil
  · split
    · exact toksOk_cons (Nat.zero_le _) toksOk_nil
    · exact toksOk_cons (Nat.zero_le _) (toksOk_cons hs (toksOk_cons (Nat.zero_le _) toksOk_nil))
theorem toksOk_parts : ∀ ps : List PartV, (∀ p ∈ ps, PartOk p) → ToksOk (partsT ps)
  | [], _ => toksOk_nil
  | p :: ps, h => by
    rw [partsT_cons]
    exact toksOk_app (A := combT p.comb ++ partT p) (toksOk_app (toksOk_comb _) (toksOk_part (h p (by simp)))) (toksOk_parts ps (fun q hq => h q (by simp [hq])))
theorem toksOk_sels : ∀ (ss : List (List PartV)) (k : Int), (∀ ps ∈ ss, PartsOk ps) → ToksOk (selsT k ss)
  | [], _, _ => toksOk_nil
  | ps :: l, k, h => by
    show ToksOk (sepT k ++ partsT ps ++ selsT (k + 1) l)
    refine toksOk_app (A := sepT k ++ partsT ps) (toksOk_app ?_ (toksOk_parts ps (h ps (by simp)).2)) (toksOk_sels l (k + 1) (fun q hq => h q (by simp [hq])))
    unfold sepT
    split
    · exact toksOk_nil
    · exact toksOk_cons (Nat.zero_le _) (toksOk_cons (Nat.zero_le _) toksOk_nil)
end Go.Proofs.Ytconlneohilnmaa
namespace Go.Proofs.Ytconlneohilnmaa
open Go Go.RowKit Pl Sy
set_option linter.unusedVariables false
set_option linter.unusedSimpArgs false
noncomputable abbrev Sy.cKnown07 : Con Try.prog := at1 6 [] (boo true) True fun _ => ⟨⟨trivial, trivial⟩, (CallTo.of_calls (us := []) known07 M0).mono fun _ _ h => h.1⟩
theorem Sy.prl_t (ss : List (List PartV)) (h : SelsR ss) : CallTo Try.prog 3 [sview ss] M0 fun v _ => v = boo true :=
  toV [cKnown07, cPrint ss, cAll7 ss, cParse (printT ss), cTks ss, cSameK (printT ss) (selsT 0 ss), cSameQ (parseV (printT ss)) ss] [] 400 30 (.br (.yes .done) (.yes (.yes (.br (.br (.auto 2 (.br (.yes (.auto 0 .done)) (.auto 0 .done))) (.auto 4 .done)) (.yes (.br (.auto 1 (.yes (.auto 0 (.yes (.auto 0 (.br (.auto 1 (.br (.auto 1 (.yes (.auto 0 (.br (.yes (.auto 0 .done)) (.auto 0 .done))))) (.auto 4 .done))) (.auto 7 .done))))))) (.auto 12 .done))))))) (let e1 := (@AV.view (ss).length 1 (fun y0 => (fun y1 => (@AV.view ((ss.getD y0 [])).length 6 (@pcell (ss.getD y0 [])))))); let e2 := ((@HAppend.hAppend _ _ _ _ (@HAppend.hAppend _ _ _ _ [] [e1]) []) = [e1]); let e3 := (@selsT (0 : Int) ss); let e4 := (@Value.tuple (@Array.mk _ [])); let e5 := (@AV.view ((if ((@allR ss) = true) then e3 else [])).length 3 (fun y0 => (fun y1 => (@AV.lit ([(@Value.int IntKind.i64 (((if ((@allR ss) = true) then e3 else []).getD y0 tok0)).kind), (@Value.string (((if ((@allR ss) = true) then e3 else []).getD y0 tok0)).text), (@Value.int IntKind.i64 (((if ((@allR ss) = true) then e3 else []).getD y0 tok0)).n)].getD y1 e4))))); let e6 := (@AV.view (e3).length 3 (fun y0 => (fun y1 => (@AV.lit ([(@Value.int IntKind.i64 ((e3.getD y0 tok0)).kind), (@Value.string ((e3.getD y0 tok0)).text), (@Value.int IntKind.i64 ((e3.getD y0 tok0)).n)].getD y1 e4))))); let e7 := (@parseV (if ((@allR ss) = true) then e3 else [])); let e8 := (@AV.view (e7).length 1 (fun y0 => (fun y1 => (@AV.view ((e7.getD y0 [])).length 6 (@pcell (e7.getD y0 [])))))); (.fork (!(leI (((ss).length : Nat) : Int) (20 : Int))) (.need (@isSo (@And ((@HAppend.hAppend _ _ _ _ (@HAppend.hAppend _ _ _ _ ([] : List AV) ([] : List AV)) []) = []) True)) (.leaf (boo true))) (.need (@isSo (@And e2 (@And (@SelsR ss) ((ss).length ≤ 20)))) (.need (@isSo (@And e2 (@SelsR ss))) (.fork (!(@all7 ss)) (.fork (eqI (@printE ss) (20 : Int)) (.fork (eqI ((((if ((@allR ss) = true) then e3 else [])).length : Nat) : Int) (0 : Int)) (.need (@isSo (@And ((@HAppend.hAppend _ _ _ _ (@HAppend.hAppend _ _ _ _ ([] : List AV) ([] : List AV)) []) = []) True)) (.leaf (boo true))) (.leaf (boo false))) (.leaf (boo false))) (.need (@isSo (@And ((@HAppend.hAppend _ _ _ _ (@HAppend.hAppend _ _ _ _ [] [e5]) []) = [e5]) (@And (((if ((@allR ss) = true) then e3 else [])).length ≤ 100000) (@ToksOk (if ((@allR ss) = true) then e3 else []))))) (.fork (eqI (@printE ss) (0 : Int)) (.need (@isSo (@And e2 (@And ((ss).length ≤ 20) (∀ (ps : List PartV), ps ∈ ss → rightB ps = true)))) (.need (@isSo (@And ((@HAppend.hAppend _ _ _ _ (@HAppend.hAppend _ _ _ _ [] [e5, e6]) []) = [e5, e6]) (((if ((@allR ss) = true) then e3 else [])).length ≤ 17592186044416))) (.fork (@sameK (if ((@allR ss) = true) then e3 else []) e3) (.fork (eqI (@parseE (if ((@allR ss) = true) then e3 else [])) (0 : Int)) (.need (@isSo (@And ((@HAppend.hAppend _ _ _ _ (@HAppend.hAppend _ _ _ _ [] [e8, e1]) []) = [e8, e1]) (@SelsR e7))) (.fork (@sameQ e7 ss) (.need (@isSo (@And ((@HAppend.hAppend _ _ _ _ (@HAppend.hAppend _ _ _ _ ([] : List AV) ([] : List AV)) []) = []) True)) (.leaf (boo true))) (.leaf (boo false)))) (.leaf (boo false))) (.leaf (boo false))))) (.leaf (boo false))))))))) (by kernel_rfl) (by
    refine fork_ok (fun q => need_so ⟨rfl, trivial⟩ rfl) (fun q => ?_)
    have hn : ss.length ≤ 20 := by
      simp only [Bool.not_eq_false', leI_t] at q
      omega
    refine need_so ⟨rfl, h, hn⟩ (need_so ⟨rfl, h⟩ (fork_ok (fun r => ?_) (fun r => ?_)))
    · have ra : allR ss = false := by rw [← all7_eq]; simpa using r
      have e1 : printE ss = 20 := by unfold printE; rw [ra]; rfl
      have e2 : (if allR ss = true then selsT 0 ss else []) = [] := by rw [ra]; rfl
      rw [e1, e2]
      exact fork_ok (fun _ => fork_ok (fun _ => need_so ⟨rfl, trivial⟩ rfl) (fun x => by rw [eqI_f] at x; exact absurd rfl x)) (fun x => by rw [eqI_f] at x; exact absurd rfl x)
    · have ra : allR ss = true := by rw [← all7_eq]; simpa using r
      have e1 : printE ss = 0 := by unfold printE; rw [ra]; rfl
      have e2 : (if allR ss = true then selsT 0 ss else []) = selsT 0 ss := by rw [ra]; rfl
      have hr : ss.length ≠ 0 ∧ ∀ ps ∈ ss, rightB ps = true := by
        unfold allR at ra
        simp only [Bool.and_eq_true, Bool.not_eq_true', eqI_f] at ra
        exact ⟨by omega, anyQ_no ra.2⟩
      obtain ⟨p1, p2⟩ := parse_law hr.1 hr.2
      have hl := selsT_le ss 0 hr.2
      have ht := toksOk_sels ss 0 h.2
      rw [e1, e2, p1, p2]
      have hc : (selsT 0 ss).length ≤ 100000 := by omega
      have hc2 : (selsT 0 ss).length ≤ 17592186044416 := by omega
      refine need_so ⟨rfl, hc, ht⟩ ?_
      refine fork_ok (fun _ => ?_) (fun x => by rw [eqI_f] at x; exact absurd rfl x)
      refine need_so ⟨rfl, hn, hr.2⟩ (need_so ⟨rfl, hc2⟩ ?_)
      refine fork_ok (fun _ => ?_) (fun x => by rw [sameK_refl] at x; cases x)
      refine fork_ok (fun _ => ?_) (fun x => by rw [eqI_f] at x; exact absurd rfl x)
      refine need_so ⟨rfl, h⟩ ?_
      refine fork_ok (fun _ => ?_) (fun x => ?_)
      · refine need_so ?_ ?_
        · exact ⟨rfl, trivial⟩
        · rfl
      · rw [sameQ_refl] at x; cases x)
end Go.Proofs.Ytconlneohilnmaa
namespace Go.Proofs.Ytconlneohilnmaa
open Go Go.RowKit Go.ChangeShapes Go.WideShapes Go.ChangeAt Go.Deep
set_option linter.unusedVariables false
set_option linter.unusedSimpArgs false
set_option maxRecDepth 100000
structure SRow where
  a : Option Addr
  cap : Nat
  l : List PRow
instance : Inhabited SRow := ⟨⟨none, 0, []⟩⟩
def SRow.cells (r : SRow) : List Value := [.slice r.a r.l.length r.cap]
def SRow.ps (r : SRow) : List PartV := r.l.map PRow.p
def SRowIn (W : World) (r : SRow) : Prop := Rows PRow.cells 6 W r.a r.cap r.l ∧ ∀ q ∈ r.l, RowIn W q
section
variable {H : Type} {enc : TypeId × Value → H} {W : World}
theorem bpSel_ : Try.prog.bytesOf 43 = 24 := by kernel_rfl
theorem elem_sel {n : Nat} {cs : List Value} {x : DataW H × List MemPlace} (h : DataW.trod enc Try.prog W 0 (fun _ => true) true n 43 cs = some x) (hsz : FitsD Try.prog 43 x.1) (hz : ∀ z ∈ x.2, z.block < W.heap.size) :
    ∃ r : SRow, cs = r.cells ∧ SRowIn W r := by
  obtain ⟨y0, m, hx, hl, h0⟩ := trod_struct1 Try.underlying43 h
  rw [pSel_] at hl
  subst hx
  match cs, hl with
  | [c0], _ =>
    have f0 : DataW.trod enc Try.prog W 0 (fun _ => true) true m 41 (List.take (Try.prog.cellsOf 41) (List.drop 0 [c0])) = some y0 := h0
    rw [pParts_] at f0
    have f0' : DataW.trod enc Try.prog W 0 (fun _ => true) true m 41 [c0] = some y0 := f0
    have hs0 : FitsD Try.prog 41 y0.1 := fun n hn => hsz n (by
      show n ∈ DataW.weights Try.prog 43 (.agg _)
      unfold DataW.weights
      rw [Try.underlying43]
      exact DataW.weights_mem_each (j := 0) (t := 41) (d := y0.1) rfl rfl n hn)
    obtain ⟨a, l, cap, E, R, Q⟩ := rows_in (cells := PRow.cells) (RowIn W) Try.underlying41 pPart_ (by omega) (by rw [bpPart_]; omega) hs0 (fun n cs x hx hs hz => elem_part hx hs hz) f0' hz
    exact ⟨⟨a, cap, l⟩, by rw [E]; rfl, R, Q⟩
theorem open_selectors {r : Reach} {b : Nat} {v : Value} {d : DataW H} {p : List MemPlace} (hv : Value.okWide Try.prog W r b 22 v) (h : DataW.Trod enc Try.prog W 0 (fun _ => true) true 22 v d p) (hlt : ∀ x ∈ p, x.block < W.heap.size) (hsz : FitsD Try.prog 22 d) :
    ∃ (a : Option Addr) (cap : Nat) (rs : List SRow), v = .slice a rs.length cap ∧ Rows SRow.cells 1 W a cap rs ∧ ∀ q ∈ rs, SRowIn W q := by
  obtain ⟨a0, n0, c0, rfl⟩ := okWide_slice Try.underlying22 hv
  obtain ⟨fuel, hf⟩ := h
  have hf' : DataW.trod enc Try.prog W 0 (fun _ => true) true fuel 22 [.slice a0 n0 c0] = some (d, p) := hf
  obtain ⟨a, rs, cap, E, R, Q⟩ := rows_in (cells := SRow.cells) (SRowIn W) Try.underlying22 pSel_ (by omega) (by rw [bpSel_]; omega) hsz (fun n cs x hx hs hz => elem_sel hx hs hz) hf' hlt
  exact ⟨a, cap, rs, E, R, Q⟩
theorem rel_sview {a : Option Addr} {cap : Nat} {rs : List SRow} (h : Rows SRow.cells 1 W a cap rs) (hq : ∀ q ∈ rs, SRowIn W q) : Sy.rel (Sy.rho0 W) (Sy.sview (rs.map SRow.ps)) (.slice a rs.length cap) := by
  simp only [Sy.rel, List.length_map]
  refine ⟨a, cap, rfl, h.le, h.max, h.nil, fun hn => ?_⟩
  obtain ⟨b, off, rfl, hb, hcell⟩ := h.base (fun e => by rw [e] at hn; simp at hn)
  refine ⟨b, off, rfl, fun i j hi hj => ?_⟩
  have hg : (rs.map SRow.ps).getD i [] = rs[i].ps := by rw [List.getD_eq_getElem?_getD, List.getElem?_map, List.getElem?_eq_getElem hi]; rfl
  obtain ⟨r1, r2⟩ := hq rs[i] (List.getElem_mem hi)
  obtain rfl : j = 0 := by omega
  have hst : ∀ u, (SRow.cells rs[i])[0]? = some u → (Sy.rho0 W).still b (off + i * 1 + 0) = some u := fun u hu => by
    simp only [Sy.rho0, if_pos hb]
    exact hcell i hi 0 u hu
  have key := rel_pview r1 r2
  simp only [Sy.rel] at key
  rw [hg]
  exact ⟨_, hst _ rfl, key, rfl⟩
theorem parts_ok1 {W : World} {a : Option Addr} {cap : Nat} {l : List PRow} (h : Rows PRow.cells 6 W a cap l) (hq : ∀ q ∈ l, RowIn W q) : PartsOk (l.map PRow.p) := by
  refine ⟨by rw [List.length_map]; exact h.sm, fun p hp => ?_⟩
  obtain ⟨r, hr, rfl⟩ := List.mem_map.1 hp
  obtain ⟨r1, r2, q1, q2, q3, q4, q5⟩ := hq r hr
  exact ⟨q1, q2, ⟨r1.sm, q3⟩, r2.sm, q4⟩
theorem selsR_of {a : Option Addr} {cap : Nat} {rs : List SRow} (h : Rows SRow.cells 1 W a cap rs) (hq : ∀ q ∈ rs, SRowIn W q) : SelsR (rs.map SRow.ps) :=
  ⟨by rw [List.length_map]; exact h.sm, fun ps hp => by
    obtain ⟨r, hr, rfl⟩ := List.mem_map.1 hp
    obtain ⟨r1, r2⟩ := hq r hr
    exact (parts_ok1 r1 r2)⟩
theorem prints_walk {a : Option Addr} {cap : Nat} {rs : List SRow} (hR : Rows SRow.cells 1 W a cap rs) (hQ : ∀ q ∈ rs, SRowIn W q) :
    Calls Try.prog 3 #[.slice a rs.length cap] W fun e w' => e = .returned (.bool true) ∧ Below W.heap.size W w' :=
  law_trueS (Sy.prl_t (rs.map SRow.ps) (selsR_of hR hQ)) (us := [_]) ⟨_, _, rfl, rel_sview hR hQ, rfl⟩
end
end Go.Proofs.Ytconlneohilnmaa
