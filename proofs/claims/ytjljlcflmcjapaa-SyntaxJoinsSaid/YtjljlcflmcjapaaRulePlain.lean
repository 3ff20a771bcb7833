/-
  Rules, in plain Lean; rules behind a block that is closed are as they would be alone.
-/
import Derived.Test.YtjljlcflmcjapaaGoesPlain
namespace Go.Proofs.Ytjljlcflmcjapaa
open Go Go.RowKit Pl
set_option linter.unusedVariables false
set_option linter.unusedSimpArgs false
structure RawV where
  at_ : ByteArray
  head : List TokV
  body : List TokV
  block : Bool
/-- does a rule's head end with a token? -/
def endB (is : Bool) (t : TokV) : Bool := Sy.eqI t.kind 17 || (is && Sy.eqI t.kind 11)
def isAt (l : List TokV) (k : Nat) : Bool := Sy.eqI (tokAt l k).kind 3
def hd1 (l : List TokV) (k : Nat) : Nat := if isAt l k = true then k + 1 else k
def endAt (l : List TokV) (k : Nat) : Nat := tops (endB (isAt l k)) l (hd1 l k)
def nameOf (l : List TokV) (k : Nat) : ByteArray := if isAt l k = true then (tokAt l k).text else ⟨#[]⟩
def headOf (l : List TokV) (k : Nat) : List TokV := trim ((l.drop (hd1 l k)).take (endAt l k - hd1 l k))
def bodyOf (l : List TokV) (e : Nat) : List TokV := (l.drop (e + 1)).take (mt l e - (e + 1))
/-- a rule, and where the next one may begin -/
def ruleT (l : List TokV) (k : Nat) : RawV × Nat :=
  if endAt l k = l.length then (⟨nameOf l k, headOf l k, [], false⟩, l.length)
  else if Sy.eqI (tokAt l (endAt l k)).kind 11 = true then (⟨nameOf l k, headOf l k, [], false⟩, endAt l k + 1)
  else (⟨nameOf l k, headOf l k, bodyOf l (endAt l k), true⟩, nxt l (endAt l k))
theorem ruleT_semi {l : List TokV} {k : Nat} (h1 : endAt l k ≠ l.length) (h2 : Sy.eqI (tokAt l (endAt l k)).kind 11 = true) : ruleT l k = (⟨nameOf l k, headOf l k, [], false⟩, endAt l k + 1) := by unfold ruleT; rw [if_neg h1, if_pos h2]
theorem ruleT_block {l : List TokV} {k : Nat} (h1 : endAt l k ≠ l.length) (h2 : ¬ Sy.eqI (tokAt l (endAt l k)).kind 11 = true) : ruleT l k = (⟨nameOf l k, headOf l k, bodyOf l (endAt l k), true⟩, nxt l (endAt l k)) := by unfold ruleT; rw [if_neg h1, if_neg h2]
theorem ruleT_end {l : List TokV} {k : Nat} (h1 : endAt l k = l.length) : ruleT l k = (⟨nameOf l k, headOf l k, [], false⟩, l.length) := by unfold ruleT; rw [if_pos h1]
/-- Spaces are passed -/
def skp (l : List TokV) (k : Nat) : Nat := Sy.hops (fun j => !spB (tokAt l j)) (fun j => j + 1) l.length k
theorem skp_step (l : List TokV) (k : Nat) : skp l k = if k < l.length ∧ spB (tokAt l k) = true then skp l (k + 1) else k := by
  unfold skp
  rw [Sy.hops_step (fun k _ => Nat.lt_succ_self k)]
  simp only [Bool.not_eq_false']
theorem skp_le (l : List TokV) (k : Nat) (h : k ≤ l.length) : k ≤ skp l k ∧ skp l k ≤ l.length := Sy.hops_le (fun k _ => Nat.lt_succ_self k) (fun k h => h) _ k (Nat.le_refl _) h
def kept (l : List TokV) (k : Nat) : Bool := isAt l k || (ruleT l k).1.block
def rulesF (l : List TokV) : Nat → Nat → List RawV
  | 0, _ => []
  | f + 1, k => if skp l k < l.length then (if kept l (skp l k) = true then (ruleT l (skp l k)).1 :: rulesF l f (ruleT l (skp l k)).2 else rulesF l f (ruleT l (skp l k)).2) else []
theorem rulesF_succ (l : List TokV) (f k : Nat) : rulesF l (f + 1) k = if skp l k < l.length then (if kept l (skp l k) = true then (ruleT l (skp l k)).1 :: rulesF l f (ruleT l (skp l k)).2 else rulesF l f (ruleT l (skp l k)).2) else [] := rfl
def rulesT (l : List TokV) : List RawV := rulesF l (l.length + 1) 0
theorem hd1_le {l : List TokV} {k : Nat} (h : k < l.length) : k ≤ hd1 l k ∧ hd1 l k ≤ l.length := by unfold hd1; split <;> omega
theorem end_le {l : List TokV} {k : Nat} (h : k < l.length) : hd1 l k ≤ endAt l k ∧ endAt l k ≤ l.length := tops_le _ l _ (hd1_le h).2
theorem end_at {l : List TokV} {k : Nat} (h : endAt l k < l.length) : endB (isAt l k) (tokAt l (endAt l k)) = true :=
  Sy.hops_at (nxt_gt l) _ (hd1 l k) (Nat.le_refl _) h
theorem rule_gt {l : List TokV} {k : Nat} (h : k < l.length) : k < (ruleT l k).2 ∧ (ruleT l k).2 ≤ l.length := by
  have h1 := hd1_le h
  have h2 := end_le h
  unfold ruleT
  split
  · exact ⟨h, Nat.le_refl _⟩
  · split
    · simp only; omega
    · have h3 := nxt_gt l (endAt l k) (by omega)
      have h4 := nxt_le l (endAt l k) (by omega)
      simp only; omega
theorem rulesF_more (l : List TokV) : ∀ (f f' k : Nat), l.length - k < f → l.length - k < f' → rulesF l f k = rulesF l f' k
  | 0, _, _, h, _ => absurd h (by omega)
  | _, 0, _, _, h => absurd h (by omega)
  | f + 1, f' + 1, k, h1, h2 => by
    simp only [rulesF]
    split
    · rename_i h
      have hk : k ≤ l.length := by
        rcases Nat.lt_or_ge l.length k with h' | h'
        · have : skp l k = k := by rw [skp_step, if_neg (by omega)]
          omega
        · exact h'
      have h3 := skp_le l k hk
      have h4 := rule_gt h
      rw [rulesF_more l f f' (ruleT l (skp l k)).2 (by omega) (by omega)]
    · rfl
/-! ### Behind what stands ahead -/
section
variable (a b : List TokV)
theorem shift_tok (k : Nat) : tokAt (a ++ b) (a.length + k) = tokAt b k := by
  have := tokAt_drop (a ++ b) a.length k
  rw [List.drop_left' rfl] at this
  exact this.symm
theorem shift_mt {k : Nat} (h : k < b.length) : mt (a ++ b) (a.length + k) = a.length + mt b k := by
  have := mt_drop (a := a ++ b) (n := a.length) (k := k) (by rw [List.length_append]; omega)
  rw [List.drop_left' rfl] at this
  omega
theorem shift_nxt {k : Nat} (h : k < b.length) : nxt (a ++ b) (a.length + k) = a.length + nxt b k := by
  unfold nxt
  rw [shift_mt a b h, List.length_append]
  omega
theorem shift_hops {g g' : Nat → Bool} {nx nx' : Nat → Nat} {n m : Nat} (hg : ∀ k, k < m → g (n + k) = g' k) (hn : ∀ k, k < m → nx (n + k) = n + nx' k) (hx : ∀ k, k < n + m → k < nx k) (hx' : ∀ k, k < m → k < nx' k) : ∀ (f k : Nat), m - k ≤ f → Sy.hops g nx (n + m) (n + k) = n + Sy.hops g' nx' m k := by
  intro f
  induction f with
  | zero => intro k h; rw [Sy.hops_end _ _ (by omega), Sy.hops_end _ _ (by omega)]
  | succ f ih =>
    intro k h
    rw [Sy.hops_step hx, Sy.hops_step hx']
    by_cases hk : k < m
    · rw [hg k hk]
      by_cases hp : g' k = false
      · rw [if_pos ⟨by omega, hp⟩, if_pos ⟨hk, hp⟩, hn k hk]
        have := hx' k hk
        exact ih (nx' k) (by omega)
      · rw [if_neg (fun h => hp h.2), if_neg (fun h => hp h.2)]
    · rw [if_neg (by omega), if_neg (by omega)]
theorem shift_tops (p : TokV → Bool) (k : Nat) : tops p (a ++ b) (a.length + k) = a.length + tops p b k := by
  unfold tops
  rw [show (a ++ b).length = a.length + b.length from List.length_append]
  exact shift_hops (fun k _ => by rw [shift_tok]) (fun k h => shift_nxt a b h) (fun k h => nxt_gt (a ++ b) k (by rw [List.length_append]; omega)) (nxt_gt b) _ k (Nat.le_refl _)
theorem shift_skp (k : Nat) : skp (a ++ b) (a.length + k) = a.length + skp b k := by
  unfold skp
  rw [show (a ++ b).length = a.length + b.length from List.length_append]
  exact shift_hops (fun k _ => by rw [shift_tok]) (fun k h => by omega) (fun k h => by omega) (fun k h => by omega) _ k (Nat.le_refl _)
theorem shift_at (k : Nat) : isAt (a ++ b) (a.length + k) = isAt b k := by unfold isAt; rw [shift_tok]
theorem shift_hd (k : Nat) : hd1 (a ++ b) (a.length + k) = a.length + hd1 b k := by unfold hd1; rw [shift_at]; split <;> omega
theorem shift_end (k : Nat) : endAt (a ++ b) (a.length + k) = a.length + endAt b k := by unfold endAt; rw [shift_at, shift_hd, shift_tops]
theorem shift_drop (n : Nat) : (a ++ b).drop (a.length + n) = b.drop n := by rw [← List.drop_drop, List.drop_left' rfl]
theorem shift_rule {k : Nat} (h : k < b.length) : ruleT (a ++ b) (a.length + k) = ((ruleT b k).1, a.length + (ruleT b k).2) := by
  have h1 := end_le h
  have e1 : nameOf (a ++ b) (a.length + k) = nameOf b k := by unfold nameOf; rw [shift_at, shift_tok]
  have e2 : headOf (a ++ b) (a.length + k) = headOf b k := by
    unfold headOf
    rw [shift_hd, shift_end, shift_drop, show a.length + endAt b k - (a.length + hd1 b k) = endAt b k - hd1 b k by omega]
  unfold ruleT
  rw [e1, e2, shift_end, shift_tok, List.length_append]
  by_cases c1 : endAt b k = b.length
  · rw [if_pos (by omega), if_pos c1]
  · rw [if_neg (by omega), if_neg c1]
    by_cases c2 : Sy.eqI (tokAt b (endAt b k)).kind 11 = true
    · rw [if_pos c2, if_pos c2, Nat.add_assoc]
    · rw [if_neg c2, if_neg c2, shift_nxt a b (by omega)]
      have e3 : bodyOf (a ++ b) (a.length + endAt b k) = bodyOf b (endAt b k) := by
        unfold bodyOf
        rw [shift_mt a b (by omega), Nat.add_assoc, shift_drop, show a.length + mt b (endAt b k) - (a.length + (endAt b k + 1)) = mt b (endAt b k) - (endAt b k + 1) by omega]
      rw [e3]
theorem shift_rules : ∀ (f k : Nat), k ≤ b.length → rulesF (a ++ b) f (a.length + k) = rulesF b f k
  | 0, _, _ => rfl
  | f + 1, k, hk => by
    simp only [rulesF]
    have h3 := skp_le b k hk
    rw [shift_skp, List.length_append]
    by_cases hlt : skp b k < b.length
    · have hr := shift_rule a b hlt
      have hg := rule_gt hlt
      have ek : kept (a ++ b) (a.length + skp b k) = kept b (skp b k) := by unfold kept; rw [shift_at, hr]
      rw [if_pos (by omega), if_pos hlt, ek, hr]
      simp only
      rw [shift_rules f _ hg.2]
    · rw [if_neg (by omega), if_neg hlt]
end
/-! ### Ahead of what stands behind -/
section
variable {a b head body : List TokV} {o c : TokV}
/-- a place that the search at the top comes by, ahead of the block -/
def Good (head : List TokV) (k : Nat) : Prop := k ≤ head.length ∧ head.length ≤ closedF head k
theorem good_next {k : Nat} (h : Good head k) (hk : k < head.length) : mt head k < head.length ∧ Good head (mt head k + 1) := by
  obtain ⟨h1, h2⟩ := closedF_step hk h.2
  exact ⟨h1, by omega, h2⟩
theorem good_plain {k : Nat} (h : Good head k) (hk : k < head.length) (hc : clo (tokAt head k).kind = 0) : Good head (k + 1) := by
  have h1 := (good_next h hk).2
  rw [mt_eq hk, if_pos hc] at h1
  exact h1
variable (ha : a = head ++ o :: (body ++ [c])) (ho : o.kind = 17)
theorem a_len : a = head ++ o :: (body ++ [c]) → a.length = head.length + 1 + body.length + 1 := fun ha => by rw [ha]; simp; omega
theorem a_tok (ha : a = head ++ o :: (body ++ [c])) {k : Nat} (h : k < head.length) : tokAt a k = tokAt head k := by rw [ha]; exact tokAt_app h
theorem a_open (ha : a = head ++ o :: (body ++ [c])) : tokAt a head.length = o := by
  rw [ha]
  have := shift_tok head (o :: (body ++ [c])) 0
  rw [Nat.add_zero] at this
  rw [this]; rfl
theorem a_mt (ha : a = head ++ o :: (body ++ [c])) {k : Nat} (h : k < head.length) (hm : mt head k < head.length) : mt a k = mt head k := by rw [ha]; exact mt_app h hm
include ha ho in
/-- up to the block both searches go the same way -/
theorem good_skp {k : Nat} (h : Good head k) : Good head (skp a k) ∧ skp (a ++ b) k = skp a k := by
  have hl := a_len ha
  have key : ∀ (m k : Nat), head.length - k ≤ m → Good head k → Good head (skp a k) ∧ skp (a ++ b) k = skp a k := by
    intro m
    induction m with
    | zero =>
      intro k hm hk
      have : k = head.length := by have := hk.1; omega
      subst this
      have e := a_open ha
      have es : spB o = false := by unfold spB; rw [ho]; decide
      have eb : tokAt (a ++ b) head.length = o := by rw [tokAt_app (by omega)]; exact e
      rw [skp_step a, skp_step (a ++ b), e, eb, es, if_neg (by simp), if_neg (by simp)]
      exact ⟨hk, rfl⟩
    | succ m ih =>
      intro k hm hk
      by_cases hlt : k < head.length
      · rw [skp_step a, skp_step (a ++ b), tokAt_app (a := a) (by omega), a_tok ha hlt]
        by_cases hs : spB (tokAt head k) = true
        · rw [if_pos ⟨by omega, hs⟩, if_pos ⟨by rw [List.length_append]; omega, hs⟩]
          refine ih (k + 1) (by omega) (good_plain hk hlt ?_)
          unfold spB at hs
          rw [Sy.eqI_t] at hs
          rw [hs]; decide
        · rw [if_neg (fun h => hs h.2), if_neg (fun h => hs h.2)]
          exact ⟨hk, rfl⟩
      · exact (by
          have : k = head.length := by have := hk.1; omega
          subst this
          have e := a_open ha
          have es : spB o = false := by unfold spB; rw [ho]; decide
          have eb : tokAt (a ++ b) head.length = o := by rw [tokAt_app (by omega)]; exact e
          rw [skp_step a, skp_step (a ++ b), e, eb, es, if_neg (by simp), if_neg (by simp)]
          exact ⟨hk, rfl⟩)
  exact key _ k (Nat.le_refl _) h
include ha ho in
theorem good_tops {k : Nat} (is : Bool) (h : Good head k) : Good head (tops (endB is) a k) ∧ tops (endB is) (a ++ b) k = tops (endB is) a k := by
  have hl := a_len ha
  have e := a_open ha
  have es : endB is o = true := by unfold endB; rw [ho]; rfl
  have eb : tokAt (a ++ b) head.length = o := by rw [tokAt_app (by omega)]; exact e
  have last : ∀ k, k = head.length → Good head k → Good head (tops (endB is) a k) ∧ tops (endB is) (a ++ b) k = tops (endB is) a k := fun k hk hg => by
    subst hk
    rw [tops_step (endB is) a, tops_step (endB is) (a ++ b), e, eb, es, if_neg (by simp), if_neg (by simp)]
    exact ⟨hg, rfl⟩
  have key : ∀ (m k : Nat), head.length - k ≤ m → Good head k → Good head (tops (endB is) a k) ∧ tops (endB is) (a ++ b) k = tops (endB is) a k := by
    intro m
    induction m with
    | zero => intro k hm hk; exact last k (by have := hk.1; omega) hk
    | succ m ih =>
      intro k hm hk
      by_cases hlt : k < head.length
      · obtain ⟨g1, g2⟩ := good_next hk hlt
        have hmk := mt_le hlt
        have ma : mt a k = mt head k := a_mt ha hlt g1
        have mb : mt (a ++ b) k = mt head k := by rw [mt_app (by omega) (by omega), ma]
        rw [tops_step (endB is) a, tops_step (endB is) (a ++ b), tokAt_app (a := a) (by omega), a_tok ha hlt]
        by_cases hs : endB is (tokAt head k) = false
        · rw [if_pos ⟨by omega, hs⟩, if_pos ⟨by rw [List.length_append]; omega, hs⟩]
          have e1 : nxt a k = mt head k + 1 := by unfold nxt; omega
          have e2 : nxt (a ++ b) k = mt head k + 1 := by unfold nxt; rw [List.length_append]; omega
          rw [e1, e2]
          exact ih _ (by omega) g2
        · rw [if_neg (fun h => hs h.2), if_neg (fun h => hs h.2)]
          exact ⟨hk, rfl⟩
      · exact last k (by have := hk.1; omega) hk
  exact key _ k (Nat.le_refl _) h
include ha ho in
theorem good_rule (hm : mt a head.length = a.length - 1) {k : Nat} (h : Good head k) : ruleT (a ++ b) k = ruleT a k ∧ (Good head (ruleT a k).2 ∨ (ruleT a k).2 = a.length) := by
  have hl := a_len ha
  have hk := h.1
  have hlb : (a ++ b).length = a.length + b.length := List.length_append
  have e0 : tokAt (a ++ b) k = tokAt a k := tokAt_app (by omega)
  have eat : isAt (a ++ b) k = isAt a k := by unfold isAt; rw [e0]
  have hh : Good head (hd1 a k) := by
    unfold hd1
    split
    · rename_i hi
      rcases Nat.lt_or_ge k head.length with hlt | hge
      · refine good_plain h hlt ?_
        unfold isAt at hi
        rw [a_tok ha hlt, Sy.eqI_t] at hi
        rw [hi]; decide
      · have : k = head.length := by omega
        subst this
        unfold isAt at hi
        rw [a_open ha, ho] at hi
        exact absurd hi (by decide)
    · exact h
  have ehd : hd1 (a ++ b) k = hd1 a k := by unfold hd1; rw [eat]
  obtain ⟨hg, het⟩ := good_tops (b := b) ha ho (isAt a k) hh
  have een : endAt (a ++ b) k = endAt a k := by unfold endAt; rw [eat, ehd]; exact het
  have hge : Good head (endAt a k) := hg
  have hgl := hge.1
  have hh1 := hd1_le (l := a) (k := k) (by omega)
  have hh2 := end_le (l := a) (k := k) (by omega)
  have enm : nameOf (a ++ b) k = nameOf a k := by unfold nameOf; rw [eat, e0]
  have ehe : headOf (a ++ b) k = headOf a k := by
    unfold headOf
    rw [ehd, een, List.drop_append_of_le_length (by omega), List.take_append_of_le_length (by rw [List.length_drop]; omega)]
  have ete : tokAt (a ++ b) (endAt a k) = tokAt a (endAt a k) := tokAt_app (by omega)
  have hea := end_at (l := a) (k := k) (by omega)
  by_cases c2 : Sy.eqI (tokAt a (endAt a k)).kind 11 = true
  · rw [ruleT_semi (l := a ++ b) (by rw [een]; omega) (by rw [een, ete]; exact c2), ruleT_semi (l := a) (by omega) c2, een, enm, ehe]
    refine ⟨rfl, .inl ?_⟩
    rcases Nat.lt_or_ge (endAt a k) head.length with hlt | hge'
    · refine good_plain hge hlt ?_
      rw [a_tok ha hlt, Sy.eqI_t] at c2
      rw [c2]; decide
    · have : endAt a k = head.length := by omega
      rw [this, a_open ha, ho] at c2
      exact absurd c2 (by decide)
  · rw [ruleT_block (l := a ++ b) (by rw [een]; omega) (by rw [een, ete]; exact c2), ruleT_block (l := a) (by omega) c2, een, enm, ehe]
    have hmt : mt a (endAt a k) < a.length ∧ (Good head (mt a (endAt a k) + 1) ∨ mt a (endAt a k) + 1 = a.length) := by
      rcases Nat.lt_or_ge (endAt a k) head.length with hlt | hge'
      · obtain ⟨g1, g2⟩ := good_next hge hlt
        rw [a_mt ha hlt g1]
        exact ⟨by omega, .inl g2⟩
      · have : endAt a k = head.length := by omega
        rw [this, hm]
        exact ⟨by omega, .inr (by omega)⟩
    have emt : mt (a ++ b) (endAt a k) = mt a (endAt a k) := mt_app (by omega) hmt.1
    have ebo : bodyOf (a ++ b) (endAt a k) = bodyOf a (endAt a k) := by
      unfold bodyOf
      rw [emt, List.drop_append_of_le_length (by omega), List.take_append_of_le_length (by rw [List.length_drop]; omega)]
    have enx : nxt (a ++ b) (endAt a k) = mt a (endAt a k) + 1 := by unfold nxt; rw [emt, hlb]; omega
    have enx' : nxt a (endAt a k) = mt a (endAt a k) + 1 := by unfold nxt; omega
    rw [ebo, enx, enx']
    exact ⟨rfl, hmt.2⟩
include ha ho in
theorem joins_F (hm : mt a head.length = a.length - 1) : ∀ (f k : Nat), Good head k → rulesF (a ++ b) (f + (b.length + 1)) k = rulesF a f k ++ rulesF b (b.length + 1) 0 ∨ f ≤ a.length - k := by
  have hl := a_len ha
  have hlb : (a ++ b).length = a.length + b.length := List.length_append
  intro f
  induction f with
  | zero => intro k h; exact .inr (Nat.zero_le _)
  | succ f ih =>
    intro k h
    by_cases hf : f + 1 ≤ a.length - k
    · exact .inr hf
    refine .inl ?_
    obtain ⟨g1, g2⟩ := good_skp (b := b) ha ho h
    have hs := g1.1
    have hsk := skp_le a k (by have := h.1; omega)
    obtain ⟨r1, r2⟩ := good_rule (b := b) ha ho hm g1
    have hgt := rule_gt (l := a) (k := skp a k) (by omega)
    have ek : kept (a ++ b) (skp a k) = kept a (skp a k) := by
      unfold kept
      rw [r1]
      have : isAt (a ++ b) (skp a k) = isAt a (skp a k) := by unfold isAt; rw [tokAt_app (by omega)]
      rw [this]
    have next : rulesF (a ++ b) (f + (b.length + 1)) (ruleT a (skp a k)).2 = rulesF a f (ruleT a (skp a k)).2 ++ rulesF b (b.length + 1) 0 := by
      rcases r2 with r2 | r2
      · rcases ih _ r2 with q | q
        · exact q
        · omega
      · rw [r2]
        have e1 : rulesF (a ++ b) (f + (b.length + 1)) a.length = rulesF b (f + (b.length + 1)) 0 := shift_rules a b (f + (b.length + 1)) 0 (Nat.zero_le _)
        rw [e1, rulesF_more b (f + (b.length + 1)) (b.length + 1) 0 (by omega) (by omega)]
        have e2 : rulesF a f a.length = [] := by
          cases f with
          | zero => rfl
          | succ f =>
            simp only [rulesF]
            have : skp a a.length = a.length := by rw [skp_step, if_neg (by omega)]
            rw [this, if_neg (by omega)]
        rw [e2, List.nil_append]
    rw [show f + 1 + (b.length + 1) = (f + (b.length + 1)) + 1 by omega]
    rw [rulesF_succ (a ++ b), rulesF_succ a, g2, if_pos (show skp a k < (a ++ b).length by omega), if_pos (show skp a k < a.length by omega), ek, r1]
    by_cases hkp : kept a (skp a k) = true
    · rw [if_pos hkp, if_pos hkp, next]; rfl
    · rw [if_neg hkp, if_neg hkp, next]
end
theorem joins {a head body : List TokV} {o c : TokV} (b : List TokV) (ha : a = head ++ o :: (body ++ [c])) (ho : o.kind = 17) (hc : head.length ≤ closedF head 0) (hm : mt a head.length = a.length - 1) : rulesT (a ++ b) = rulesT a ++ rulesT b := by
  rcases joins_F (b := b) ha ho hm (a.length + 1) 0 ⟨Nat.zero_le _, hc⟩ with h | h
  · unfold rulesT
    rw [← h]
    exact rulesF_more _ _ _ 0 (by omega) (by rw [List.length_append]; omega)
  · omega
end Go.Proofs.Ytjljlcflmcjapaa
