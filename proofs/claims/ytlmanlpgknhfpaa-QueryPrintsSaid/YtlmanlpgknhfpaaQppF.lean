/-
  Lemmas for QueryPrints, part 6; no conditions.
-/
import Derived.Test.YtlmanlpgknhfpaaQppE
set_option linter.unusedVariables false
set_option linter.unusedSimpArgs false
namespace Go.Proofs.Ytlmanlpgknhfpaa
open Go Go.RowKit Pl Sy
theorem fits_cases {f lo ln ld ho hn hd : Int} (h : fitsV f lo ln ld ho hn hd = true) :
    (ho = 0 ∧ hn = 0 ∧ hd = 0 ∧ lo = 0 ∧ ln = 0 ∧ ld = 0) ∨ (f = 6 ∧ (ho = 3 ∧ (hn = 1 ∨ hn = 2) ∧ hd = 0) ∧ lo = 0 ∧ ln = 0 ∧ ld = 0) ∨
    (f ≠ 6 ∧ (1 ≤ ho ∧ ho ≤ 5) ∧ VOk f hn hd ∧ ((lo = 0 ∧ ln = 0 ∧ ld = 0) ∨ ((1 ≤ lo ∧ lo ≤ 5) ∧ VOk f ln ld))) := by
  unfold fitsV at h
  rw [decide_eq_true_eq] at h
  unfold valOk at h
  simp only [decide_eq_true_eq] at h
  unfold VOk
  rcases h with h | ⟨h1, h2, h3, h4, h5⟩
  · exact .inl h
  · refine .inr ?_
    by_cases h6 : f = 6
    · refine .inl ⟨h6, ?_⟩
      omega
    · refine .inr ⟨h6, ⟨h2, h3⟩, ?_, ?_⟩
      · split <;> omega
      · rcases h5 with h5 | ⟨h5, h7, h8⟩
        · exact .inl h5
        · refine .inr ⟨by omega, ?_⟩
          split <;> omega
def fiT (q : QNodeV) : List TokV := loT q ++ ([idT (featS q.feat)] ++ hiT q)
theorem feaT_fi (q : QNodeV) : feaT q = opnT :: (fiT q ++ [cloT]) := by unfold feaT fiT; simp [List.append_assoc]
theorem featS_cal (f : Int) (h1 : 1 ≤ f) (h6 : f ≤ 6) : calI (featS f) = f ∧ nmdF (featS f) = f ∧ nmdO (featS f) = 3 := by
  have hc : f = 1 ∨ f = 2 ∨ f = 3 ∨ f = 4 ∨ f = 5 ∨ f = 6 := by omega
  rcases hc with rfl | rfl | rfl | rfl | rfl | rfl <;> exact ⟨by decide, by decide, by decide⟩
theorem opT_cons (o : Int) : ∃ t l, opT o = t :: l ∧ t.kind = 19 := by
  unfold opT
  (repeat' split) <;> exact ⟨_, _, rfl, rfl⟩
theorem valT_cons (f n d : Int) : ∃ t l, valT f n d = t :: l ∧ (t.kind = 9 ∨ t.kind = 7) := by
  unfold valT
  split
  · exact ⟨_, _, rfl, .inr rfl⟩
  · exact ⟨_, _, rfl, .inl rfl⟩
theorem NsL.op (o : Int) (l : List TokV) : NsL (opT o ++ l) := by
  obtain ⟨t, r, e, h⟩ := opT_cons o
  rw [e]
  show t.kind ≠ 20
  omega
theorem NsL.val (f n d : Int) (l : List TokV) : NsL (valT f n d ++ l) := by
  obtain ⟨t, r, e, h⟩ := valT_cons f n d
  rw [e]
  show t.kind ≠ 20
  omega
theorem idP_step (l : List TokV) (k : Nat) : idP l k = if k < l.length ∧ eqI (tokAt l k).kind 1 = false then idP l (k + 1) else k := by
  unfold idP
  rw [Sy.hops_step (fun k _ => Nat.lt_succ_self k)]
theorem At.id {T : List TokV} {s : ByteArray} {r : List TokV} : ∀ {x : List TokV} {a : Int}, (∀ t ∈ x, t.kind ≠ 1) → At T a (x ++ idT s :: r) → idI T a = a + x.length
  | [], a, hx, h => by
    have h1 := h.1
    have h : At T a (idT s :: r) := h
    unfold idI
    rw [idP_step, if_neg (by
      rintro ⟨_, h3⟩
      unfold tokAt at h3
      rw [h.head, eqI_f] at h3
      exact h3 rfl)]
    simp
    omega
  | t :: x, a, hx, h => by
    have h1 := h.1
    have h : At T a (t :: (x ++ idT s :: r)) := h
    have ih := At.id (fun t ht => hx t (List.mem_cons_of_mem _ ht)) h.tail
    have h2 := h.lt
    unfold idI at ih ⊢
    rw [idP_step, if_pos ⟨by omega, by unfold tokAt; rw [h.head, eqI_f]; exact hx t (List.mem_cons_self)⟩, show a.toNat + 1 = (a + 1).toNat by omega, ih, List.length_cons]
    omega
theorem opT_noid (o : Int) : ∀ t ∈ opT o, t.kind ≠ 1 := by
  unfold opT
  (repeat' split) <;> simp
theorem valT_noid (f n d : Int) : ∀ t ∈ valT f n d, t.kind ≠ 1 := by
  unfold valT
  split <;> simp
theorem read_none (f : Int) (h1 : 1 ≤ f) (h6 : f ≤ 6) : ftB (fiT ⟨4, 0, f, 0, 0, 0, 0, 0, 0⟩) 0 = true ∧ ftV (fiT ⟨4, 0, f, 0, 0, 0, 0, 0, 0⟩) 0 = ⟨4, 0, f, 0, 0, 0, 0, 0, 0⟩ := by
  have hc : f = 1 ∨ f = 2 ∨ f = 3 ∨ f = 4 ∨ f = 5 ∨ f = 6 := by omega
  rcases hc with rfl | rfl | rfl | rfl | rfl | rfl <;> exact ⟨by rfl, by rfl⟩
theorem read_turned (n : Int) (hn : n = 1 ∨ n = 2) : ftB (fiT ⟨4, 0, 6, 0, 0, 0, 3, n, 0⟩) 0 = true ∧ ftV (fiT ⟨4, 0, 6, 0, 0, 0, 3, n, 0⟩) 0 = ⟨4, 0, 6, 0, 0, 0, 3, n, 0⟩ := by
  rcases hn with rfl | rfl <;> exact ⟨by rfl, by rfl⟩
theorem read_hi (f ho hn hd : Int) (h1 : 1 ≤ f) (h6 : f ≤ 6) (hf : f ≠ 6) (ho1 : 1 ≤ ho) (ho5 : ho ≤ 5) (hv : VOk f hn hd) : ftB (fiT ⟨4, 0, f, 0, 0, 0, ho, hn, hd⟩) 0 = true ∧ ftV (fiT ⟨4, 0, f, 0, 0, 0, ho, hn, hd⟩) 0 = ⟨4, 0, f, 0, 0, 0, ho, hn, hd⟩ := by
  have eL : fiT ⟨4, 0, f, 0, 0, 0, ho, hn, hd⟩ = idT (featS f) :: spT :: (opT ho ++ spT :: (valT f hn hd ++ [])) := by
    unfold fiT loT hiT
    rw [if_pos (by rfl), if_neg (by show ¬ ho = 0; omega), if_neg hf]
    simp
  rw [eL]
  generalize hT : idT (featS f) :: spT :: (opT ho ++ spT :: (valT f hn hd ++ [])) = T
  have a0 : At T 0 (idT (featS f) :: spT :: (opT ho ++ spT :: (valT f hn hd ++ []))) := by rw [← hT]; exact At.zero _
  obtain ⟨c1, c2, c3⟩ := featS_cal f h1 h6
  have s0 : skI T 0 = 0 := a0.ns (by show (1 : Int) ≠ 20; decide)
  have b0 : ftB0 T 0 = true := by unfold ftB0; rw [s0, a0.kind]; rfl
  have a1 := a0.tail
  have a2 := a1.tail
  have f1 : frF T 0 = f := by unfold frF; rw [a0.head]; exact c2
  have f2 : frO T 0 = 3 := by unfold frO; rw [a0.head]; exact c3
  have f3 : frS T 0 = 2 := by unfold frS; rw [a1.sk1 (NsL.op ho _)]; rfl
  have a2 : At T 2 (opT ho ++ spT :: (valT f hn hd ++ [])) := a2
  have s2 : skI T 2 = 2 := a2.sk (NsL.op ho _)
  obtain ⟨t, l, e1, e2⟩ := opT_cons ho
  have k2 : kindI T 2 = 19 := by rw [e1] at a2; rw [a2.kind]; exact e2
  have d2 : doneB T 2 = false := by rw [e1] at a2; exact At.undone (by rw [s2]; exact a2)
  obtain ⟨o1, o2⟩ := At.op ho1 ho5 (by rw [s2]; exact a2)
  have a3 := a2.app
  have s3 : skI T (2 + (opT ho).length) = 2 + (opT ho).length + 1 := a3.sk1 (NsL.val f hn hd _)
  have a4 := a3.tail
  rw [s2] at o2
  obtain ⟨v1, v2, v3, v4⟩ := At.value (f := f) (n := hn) (d := hd) (a := 2 + (opT ho).length) hf hv (by rw [s3]; exact a4)
  have a5 := a4.app
  have fq : frQ T 0 = 2 + (opT ho).length := by unfold frQ; rw [f3, s2, o2]
  have g : ∀ {α : Type} (no col opm emp bad full : α), frG T 0 no col opm emp bad full = full := by
    intro α no col opm emp bad full
    unfold frG
    rw [f1, f2, f3, k2, d2, s2, o1]
    rw [show leI f 0 = false by rw [leI_f]; omega, show eqI ho 0 = false by rw [eqI_f]; omega, show eqI f 6 = false by rw [eqI_f]; exact hf]
    rfl
  unfold ftB ftV
  rw [b0, s0]
  simp only [if_true]
  unfold frB frV frHo frHn frHd
  simp only [g]
  rw [f1, f3, fq, s2, v1, v2, v3, v4, s3, o1]
  exact ⟨by rw [Bool.true_and]; exact a5.done, rfl⟩
end Go.Proofs.Ytlmanlpgknhfpaa
namespace Go.Proofs.Ytlmanlpgknhfpaa
open Go Go.RowKit Pl Sy
theorem read_two (f lo ln ld ho hn hd : Int) (h1 : 1 ≤ f) (h6 : f ≤ 6) (hf : f ≠ 6) (ho1 : 1 ≤ ho) (ho5 : ho ≤ 5) (hv : VOk f hn hd) (lo1 : 1 ≤ lo) (lo5 : lo ≤ 5) (hw : VOk f ln ld) (hfit : fitsV f lo ln ld ho hn hd = true) : ftB (fiT ⟨4, 0, f, lo, ln, ld, ho, hn, hd⟩) 0 = true ∧ ftV (fiT ⟨4, 0, f, lo, ln, ld, ho, hn, hd⟩) 0 = ⟨4, 0, f, lo, ln, ld, ho, hn, hd⟩ := by
  have eL : fiT ⟨4, 0, f, lo, ln, ld, ho, hn, hd⟩ = valT f ln ld ++ spT :: (opT lo ++ spT :: idT (featS f) :: spT :: (opT ho ++ spT :: (valT f hn hd ++ []))) := by
    unfold fiT loT hiT
    rw [if_neg (by show ¬ leI lo 0 = true; rw [leI_t]; omega), if_neg (by show ¬ ho = 0; omega), if_neg hf]
    simp
  rw [eL]
  generalize hT : valT f ln ld ++ spT :: (opT lo ++ spT :: idT (featS f) :: spT :: (opT ho ++ spT :: (valT f hn hd ++ []))) = T
  have a0 : At T 0 (valT f ln ld ++ spT :: (opT lo ++ spT :: idT (featS f) :: spT :: (opT ho ++ spT :: (valT f hn hd ++ [])))) := by rw [← hT]; exact At.zero _
  obtain ⟨c1, c2, c3⟩ := featS_cal f h1 h6
  have s0 : skI T 0 = 0 := a0.sk (NsL.val f ln ld _)
  obtain ⟨tv, lv, ev, kv'⟩ := valT_cons f ln ld
  have b0 : ftB0 T 0 = false := by
    have a0' := a0
    rw [ev] at a0'
    unfold ftB0
    rw [s0, a0'.kind, eqI_f]
    omega
  obtain ⟨v1, v2, v3, v4⟩ := At.value (f := f) (n := ln) (d := ld) (a := 0) hf hw (by rw [s0]; exact a0)
  rw [s0] at v4
  have a1 := a0.app
  generalize hp1 : (0 : Int) + (valT f ln ld).length = p1 at a1 v4
  have s1 : skI T p1 = p1 + 1 := a1.sk1 (NsL.op lo _)
  have a2 := a1.tail
  obtain ⟨o1, o2⟩ := At.op (a := p1) lo1 lo5 (by rw [s1]; exact a2)
  rw [s1] at o2
  have a3 := a2.app
  have hid : idI T 0 = p1 + 1 + (opT lo).length + 1 := by
    have := At.id (T := T) (s := featS f) (r := spT :: (opT ho ++ spT :: (valT f hn hd ++ []))) (x := valT f ln ld ++ spT :: (opT lo ++ [spT])) (a := 0) (by
      intro t ht
      simp only [List.mem_append, List.mem_cons, List.not_mem_nil, or_false] at ht
      rcases ht with ht | rfl | ht | rfl
      · exact valT_noid _ _ _ t ht
      · decide
      · exact opT_noid _ t ht
      · decide) (by simp only [List.append_assoc, List.cons_append, List.nil_append]; exact a0)
    rw [this]
    simp only [List.length_append, List.length_cons, List.length_nil]
    omega
  generalize hp2 : p1 + 1 + ((opT lo).length : Int) = p2 at a3 o2 hid
  have s3 : skI T p2 = p2 + 1 := a3.sk1 (by show (1 : Int) ≠ 20; decide)
  have a4 := a3.tail
  obtain ⟨w1, w2⟩ := At.word (a := p2) (by rw [s3]; exact a4)
  rw [s3] at w2
  have a5 := a4.tail
  have hne : eqI (p2 + 1) T.length = false := by rw [eqI_f]; have := a4.lt; omega
  have fF : bkF T 0 = f := by unfold bkF; rw [hid, a4.head]; exact c1
  generalize hp3 : p2 + 1 + 1 = p3 at a5 w2
  have s5 : skI T p3 = p3 + 1 := a5.sk1 (NsL.op ho _)
  have a6 := a5.tail
  obtain ⟨t, l, e1, e2⟩ := opT_cons ho
  have d5 : doneB T p3 = false := by
    have a6' := a6
    rw [e1] at a6'
    exact At.undone (by rw [s5]; exact a6')
  have s6 : skI T (p3 + 1) = p3 + 1 := a6.sk (NsL.op ho _)
  obtain ⟨o3, o4⟩ := At.op (a := p3 + 1) ho1 ho5 (by rw [s6]; exact a6)
  rw [s6] at o4
  have a7 := a6.app
  generalize hp4 : p3 + 1 + ((opT ho).length : Int) = p4 at a7 o4
  have s7 : skI T p4 = p4 + 1 := a7.sk1 (NsL.val f hn hd _)
  have a8 := a7.tail
  obtain ⟨v5, v6, v7, v8⟩ := At.value (f := f) (n := hn) (d := hd) (a := p4) hf hv (by rw [s7]; exact a8)
  have a9 := a8.app
  have g1 : bk1 T 0 = p1 := by unfold bk1; rw [fF, v4]
  have g2 : bk2 T 0 = p2 := by unfold bk2; rw [g1, o2]
  have g3 : bk3 T 0 = p3 := by unfold bk3; rw [g2, fF, w2]
  have g5 : bk5 T 0 = p4 := by unfold bk5; rw [g3, s5, o4]
  have g6 : bk6 T 0 = p4 + 1 + (valT f hn hd).length := by unfold bk6; rw [g5, fF, v8, s7]
  have g : ∀ {α : Type} (none_ bad badv badw one two : α), bkG T 0 none_ bad badv badw one two = two := by
    intro α none_ bad badv badw one two
    unfold bkG
    rw [hid, hne, fF, g1, g2, g3, v1, o1, w1, d5]
    rw [show eqI f 0 = false by rw [eqI_f]; omega, show eqI f 6 = false by rw [eqI_f]; exact hf, show eqI lo 0 = false by rw [eqI_f]; omega]
    rfl
  have q2 : bkQ2 T 0 = ⟨4, 0, f, lo, ln, ld, ho, hn, hd⟩ := by
    unfold bkQ2
    rw [fF, g1, g3, g5, s5, o1, o3, v2, v3, v6, v7]
  unfold ftB ftV
  rw [b0, s0]
  simp only [Bool.false_eq_true, if_false]
  unfold bkB bkV
  simp only [g]
  rw [q2, g5, fF, v5, g6, a9.done]
  exact ⟨by unfold qfits; exact hfit, rfl⟩
theorem read_feat {q : QNodeV} (hk : q.kind = 4) (h : rightV q.kind q.count q.feat q.lo q.ln q.ld q.ho q.hn q.hd = true) : ftB (fiT q) 0 = true ∧ ftV (fiT q) 0 = q := by
  obtain ⟨k, c, f, lo, ln, ld, ho, hn, hd⟩ := q
  simp only at hk h
  subst hk
  unfold rightV at h
  rw [decide_eq_true_eq] at h
  rcases h with ⟨_, rfl, h1, h6, hfit⟩ | ⟨h, _⟩
  · rcases fits_cases hfit with ⟨rfl, rfl, rfl, rfl, rfl, rfl⟩ | ⟨rfl, ⟨rfl, hn12, rfl⟩, rfl, rfl, rfl⟩ | ⟨hf, ⟨ho1, ho5⟩, hv, ⟨rfl, rfl, rfl⟩ | ⟨⟨lo1, lo5⟩, hw⟩⟩
    · exact read_none f h1 h6
    · exact read_turned hn hn12
    · exact read_hi f ho hn hd h1 h6 hf ho1 ho5 hv
    · exact read_two f lo ln ld ho hn hd h1 h6 hf ho1 ho5 hv lo1 lo5 hw hfit
  · exact absurd rfl h
theorem noft_open {T l : List TokV} {a : Int} (h : At T (skI T a) (opnT :: l)) : ftB T a = false := by
  have b0 : ftB0 T a = false := by
    unfold ftB0
    rw [h.kind]
    rfl
  have s1 : skI T (skI T a) = skI T a := h.ns (by show (13 : Int) ≠ 20; decide)
  unfold ftB
  rw [b0]
  simp only [Bool.false_eq_true, if_false]
  have n1 : numbB T (skI T a) = false := by unfold numbB; rw [h.kind]; rfl
  have n2 : pxB T (skI T a) = false := by unfold pxB; rw [h.kind]; rfl
  have hv : ∀ f, f ≠ 6 → bnB T (skI T a) f = false := by
    intro f hf
    unfold bnB
    rw [s1, show eqI f 6 = false by rw [eqI_f]; exact hf]
    simp only [Bool.false_eq_true, if_false]
    split
    · unfold ratB
      rw [n1]
      split <;> rfl
    · unfold lenB
      rw [n1, n2]
      rfl
  unfold bkB bkG
  split
  · rfl
  · split
    · rfl
    · split
      · rfl
      · rename_i h6
        rw [hv _ (by intro e; rw [eqI_t] at h6; exact h6 e)]
        rfl
theorem noft_not {T l : List TokV} {a : Int} (h : At T (skI T a) (idT ⟨#[110, 111, 116]⟩ :: l)) : ftB T a = false := by
  have b0 : ftB0 T a = true := by
    unfold ftB0
    rw [h.kind]
    rfl
  unfold ftB
  rw [b0]
  simp only [if_true]
  unfold frB frG
  have f1 : frF T (skI T a) = 0 := by unfold frF; rw [h.head]; decide
  rw [f1]
  rfl
end Go.Proofs.Ytlmanlpgknhfpaa
namespace Go.Proofs.Ytlmanlpgknhfpaa
open Go Go.RowKit Pl Sy
inductive Bal : List TokV → Prop
  | nil : Bal []
  | one (t : TokV) (l : List TokV) (h : clo t.kind = 0) (h' : t.kind ≠ 14) (hl : Bal l) : Bal (t :: l)
  | br (l r : List TokV) (hl : Bal l) (hr : Bal r) : Bal (opnT :: (l ++ cloT :: r))
theorem Bal.app {a b : List TokV} (h : Bal a) (hb : Bal b) : Bal (a ++ b) := by
  induction h with
  | nil => exact hb
  | one t l h h' hl ih => exact Bal.one t _ h h' ih
  | br l r hl hr ihl ihr =>
    have := Bal.br l (r ++ b) hl ihr
    simpa [List.append_assoc] using this
theorem Bal.plain : ∀ {l : List TokV}, (∀ t ∈ l, clo t.kind = 0 ∧ t.kind ≠ 14) → Bal l
  | [], h => .nil
  | t :: l, h => .one t l (h t List.mem_cons_self).1 (h t List.mem_cons_self).2 (Bal.plain fun t ht => h t (List.mem_cons_of_mem _ ht))
theorem At.kget {T : List TokV} {a : Int} {t : TokV} {l : List TokV} (h : At T a (t :: l)) (h' : a.toNat < (kindsT T).length) : (kindsT T)[a.toNat] = t.kind := by
  have h1 := h.1
  have h2 : a.toNat < T.length := by have := h.lt; omega
  rw [kindsT_get h2]
  have h3 := h.head
  rw [List.getD_eq_getElem?_getD, List.getElem?_eq_getElem h2] at h3
  rw [← h3]
  rfl
theorem At.kin {T : List TokV} {a : Int} {t : TokV} {l : List TokV} (h : At T a (t :: l)) : a.toNat < (kindsT T).length := by
  rw [kindsT_len]
  have := h.lt
  have := h.1
  omega
theorem Bal.runs {T L : List TokV} (hL : Bal L) : ∀ (a : Int) (r : List TokV) (st : List Int), At T a (L ++ r) → Pl.runs (kindsT T) a.toNat (14 :: st) = Pl.runs (kindsT T) (a.toNat + L.length) (14 :: st) := by
  induction hL with
  | nil => intro a r st h; rfl
  | one t l h h' hl ih =>
    intro a r st ha
    have ha : At T a (t :: (l ++ r)) := ha
    have h1 := ha.1
    have h2 := ih (a + 1) r st ha.tail
    rw [show (a + 1).toNat = a.toNat + 1 by omega] at h2
    rw [runs_step _ ha.kin, ha.kget ha.kin, if_neg (by rw [h]; simp)]
    show (if t.kind = 14 then _ else _) = _
    rw [if_neg h', h2, List.length_cons]
    congr 1
    omega
  | br l r' hl hr ihl ihr =>
    intro a r st ha
    have ha : At T a (opnT :: (l ++ (cloT :: (r' ++ r)))) := by simpa [List.append_assoc] using ha
    have h1 := ha.1
    have h2 := ihl (a + 1) _ (14 :: st) ha.tail
    rw [show (a + 1).toNat = a.toNat + 1 by omega] at h2
    have hc := ha.tail.app
    have h3 := ihr (a + 1 + l.length + 1) r st hc.tail
    rw [show (a + 1 + (l.length : Int) + 1).toNat = a.toNat + 1 + l.length + 1 by omega] at h3
    rw [runs_step _ ha.kin, ha.kget ha.kin, if_pos (by show clo 13 ≠ 0; decide)]
    show Pl.runs (kindsT T) (a.toNat + 1) (14 :: 14 :: st) = _
    rw [h2]
    have e : a.toNat + 1 + l.length = (a + 1 + (l.length : Int)).toNat := by omega
    rw [runs_step (k := a.toNat + 1 + l.length) _ (by rw [e]; exact hc.kin)]
    have ek : (kindsT T)[a.toNat + 1 + l.length]'(by rw [e]; exact hc.kin) = 14 := by
      have := hc.kget hc.kin
      simp only [← e] at this
      exact this
    rw [ek, if_neg (by decide)]
    show Pl.runs (kindsT T) (a.toNat + 1 + l.length + 1) (14 :: st) = _
    rw [h3]
    congr 1
    simp only [List.length_cons, List.length_append]
    omega
theorem At.mt {T L r : List TokV} {a : Int} (h : At T a (opnT :: (L ++ cloT :: r))) (hL : Bal L) : mtI T a = a + 1 + L.length := by
  have h1 := h.1
  have hlt := h.lt
  have hk := h.kin
  have hr := hL.runs (a + 1) (cloT :: r) [] h.tail
  have hc := h.tail.app
  rw [show (a + 1).toNat = a.toNat + 1 by omega] at hr
  have e : a.toNat + 1 + L.length = (a + 1 + (L.length : Int)).toNat := by omega
  have ek : (kindsT T)[a.toNat + 1 + L.length]'(by rw [e]; exact hc.kin) = 14 := by
    have := hc.kget hc.kin
    simp only [← e] at this
    exact this
  unfold mtI mtc
  rw [dif_pos ⟨h1.1, by omega⟩, h.kget hk, if_neg (by show clo 13 ≠ 0; decide)]
  show ((Pl.runs (kindsT T) (a.toNat + 1) [14] : Nat) : Int) = _
  rw [hr, runs_step (k := a.toNat + 1 + L.length) _ (by rw [e]; exact hc.kin), ek, if_neg (by decide)]
  show ((a.toNat + 1 + L.length : Nat) : Int) = _
  omega
theorem At.inner {T L r : List TokV} {a : Int} (h : At T (skI T a) (opnT :: (L ++ cloT :: r))) (hL : Bal L) : innB T a = true ∧ innL T a = L ∧ innA T a = skI T a + (L.length + 2 : Nat) := by
  have h1 := h.1
  have hm : innE T a = skI T a + 1 + L.length := h.mt hL
  have hl := h.len
  simp only [List.length_cons, List.length_append] at hl
  have b : innB T a = true := by
    unfold innB
    rw [h.kind, hm, Bool.and_eq_true]
    exact ⟨rfl, by rw [Bool.not_eq_true', eqI_f]; omega⟩
  refine ⟨b, ?_, ?_⟩
  · unfold innL
    rw [if_pos b, hm, show skI T a + 1 + (L.length : Int) - (skI T a + 1) = L.length by omega, Int.toNat_natCast, h.tail.2, List.take_left]
  · unfold innA
    rw [if_pos b, hm]
    omega
def TmOk (K : CnK) (xs : List QNodeV) (g : Int → List TokV) (i : Int) (ns : List QNodeV) : Prop :=
  ((nodeN xs i).kind = 4 ∧ g i = feaT (nodeN xs i) ∧ rightV (nodeN xs i).kind (nodeN xs i).count (nodeN xs i).feat (nodeN xs i).lo (nodeN xs i).ln (nodeN xs i).ld (nodeN xs i).ho (nodeN xs i).hn (nodeN xs i).hd = true ∧ ns = [nodeN xs i]) ∨
  ((nodeN xs i).kind ≠ 4 ∧ Bal (g i) ∧ ftB (g i) 0 = false ∧ K.B (g i) = true ∧ K.N (g i) = ns)
theorem fiT_bal (q : QNodeV) : Bal (fiT q) := by
  refine Bal.plain fun t ht => ?_
  have hv : ∀ f n d, ∀ t ∈ valT f n d, clo t.kind = 0 ∧ t.kind ≠ 14 := by
    intro f n d t ht
    unfold valT at ht
    split at ht <;> simp only [List.mem_cons, List.not_mem_nil, or_false] at ht <;> (repeat' (rcases ht with rfl | ht)) <;> (try subst ht) <;> exact ⟨rfl, by simp⟩
  have ho : ∀ o, ∀ t ∈ opT o, clo t.kind = 0 ∧ t.kind ≠ 14 := by
    intro o t ht
    unfold opT at ht
    (repeat' split at ht) <;> simp only [List.mem_cons, List.not_mem_nil, or_false] at ht <;> (repeat' (rcases ht with rfl | ht)) <;> (try subst ht) <;> exact ⟨rfl, by simp⟩
  have hs : clo spT.kind = 0 ∧ spT.kind ≠ 14 := ⟨rfl, by decide⟩
  unfold fiT loT hiT trnT at ht
  simp only [List.mem_append, List.mem_cons, List.not_mem_nil, or_false] at ht
  rcases ht with ht | rfl | ht
  · split at ht
    · simp at ht
    · simp only [List.mem_append, List.mem_cons, List.not_mem_nil, or_false] at ht
      rcases ht with ht | rfl | ht | rfl
      · exact hv _ _ _ t ht
      · exact hs
      · exact ho _ t ht
      · exact hs
  · exact ⟨rfl, by show (1 : Int) ≠ 14; decide⟩
  · split at ht
    · simp at ht
    · split at ht
      · simp only [List.mem_cons, List.not_mem_nil, or_false] at ht
        rcases ht with rfl | rfl | rfl
        · exact ⟨rfl, by show (10 : Int) ≠ 14; decide⟩
        · exact hs
        · exact ⟨rfl, by show (1 : Int) ≠ 14; decide⟩
      · simp only [List.mem_append, List.mem_cons, List.not_mem_nil, or_false] at ht
        rcases ht with rfl | ht | rfl | ht
        · exact hs
        · exact ho _ t ht
        · exact hs
        · exact hv _ _ _ t ht
theorem TmOk.read {K : CnK} {xs : List QNodeV} {g : Int → List TokV} {i : Int} {ns : List QNodeV} (hg : TmOk K xs g i ns) {T r : List TokV} {a : Int} (h : At T (skI T a) (tmT xs g i ++ r)) : trmB K T a = true ∧ trmN K T a = ns ∧ innA T a = skI T a + (tmT xs g i).length := by
  unfold tmT at h ⊢
  rcases hg with ⟨h1, h2, h3, h4⟩ | ⟨h1, h2, h3, h4, h5⟩
  · rw [if_pos h1] at h ⊢
    rw [h2, feaT_fi] at h ⊢
    obtain ⟨e1, e2, e3⟩ := At.inner (L := fiT (nodeN xs i)) (r := r) (by simpa [List.append_assoc] using h) (fiT_bal _)
    obtain ⟨e4, e5⟩ := read_feat h1 h3
    unfold trmB trmN
    rw [e1, e2, e4, e5, e3]
    refine ⟨rfl, ?_, ?_⟩
    · rw [if_pos rfl, if_pos rfl, h4]
    · simp only [List.length_cons, List.length_append, List.length_nil]
  · rw [if_neg h1] at h ⊢
    obtain ⟨e1, e2, e3⟩ := At.inner (L := g i) (r := r) (by simpa [List.append_assoc] using h) h2
    unfold trmB trmN
    rw [e1, e2, e3, h3, h4, h5]
    refine ⟨rfl, ?_, ?_⟩
    · rw [if_pos rfl, if_neg (by decide)]
    · simp only [List.length_cons, List.length_append, List.length_nil]
      omega
theorem tmT_cons {K : CnK} {xs : List QNodeV} {g : Int → List TokV} {i : Int} {ns : List QNodeV} (hg : TmOk K xs g i ns) : ∃ l, tmT xs g i = opnT :: l := by
  unfold tmT
  rcases hg with ⟨h1, h2, h3, h4⟩ | ⟨h1, _⟩
  · rw [if_pos h1, h2, feaT_fi]
    exact ⟨_, rfl⟩
  · rw [if_neg h1]
    exact ⟨_, rfl⟩
def lpN (xs : List QNodeV) (ns : Int → List QNodeV) : Nat → Int → List QNodeV
  | 0, _ => []
  | m + 1, i => ns i ++ lpN xs ns m (spanI xs i)
def TmsOk (K : CnK) (xs : List QNodeV) (g : Int → List TokV) (ns : Int → List QNodeV) : Nat → Int → Prop
  | 0, _ => True
  | m + 1, i => TmOk K xs g i (ns i) ∧ TmsOk K xs g ns m (spanI xs i)
theorem chain_read (K : CnK) (xs : List QNodeV) (g : Int → List TokV) (ns : Int → List QNodeV) (T : List TokV) (w : ByteArray) : ∀ (m : Nat) (j a : Int) (ys : List QNodeV) (c : Int) (n : Nat), m < n → At T a (lpT xs g w m j) → TmsOk K xs g ns m j → ∃ e, chnE K T w n a ys c = ⟨ys ++ lpN xs ns m j, c + m, e, true⟩ ∧ At T e []
  | 0, j, a, ys, c, n, hn, h, hg => by
    have h : At T a [] := h
    obtain ⟨n, rfl⟩ : ∃ k, n = k + 1 := ⟨n - 1, by omega⟩
    obtain ⟨e1, e2⟩ := At.noword0 w (a := a) (by rw [h.sk0]; exact h)
    refine ⟨a, ?_, h⟩
    unfold chnE
    rw [if_neg (by rw [e1]; decide), e2, h.sk0]
    show _ = ChR.mk (ys ++ []) _ _ _
    rw [List.append_nil, show c + ((0 : Nat) : Int) = c by omega]
  | m + 1, j, a, ys, c, n, hn, h, hg => by
    obtain ⟨hg1, hg2⟩ := hg
    obtain ⟨n, rfl⟩ : ∃ k, n = k + 1 := ⟨n - 1, by omega⟩
    have h : At T a (spT :: idT w :: spT :: (tmT xs g j ++ lpT xs g w m (spanI xs j))) := h
    obtain ⟨l, hl⟩ := tmT_cons hg1
    have s1 : skI T a = a + 1 := h.sk1 (by show (1 : Int) ≠ 20; decide)
    obtain ⟨e1, e2⟩ := At.word (a := a) (by rw [s1]; exact h.tail)
    rw [s1] at e2
    have h2 := h.tail.tail
    have s2 : skI T (a + 1 + 1) = a + 1 + 1 + 1 := h2.sk1 (by rw [hl]; show (13 : Int) ≠ 20; decide)
    have h3 := h2.tail
    obtain ⟨e3, e4, e5⟩ := hg1.read (a := a + 1 + 1) (r := lpT xs g w m (spanI xs j)) (by rw [s2]; exact h3)
    rw [s2] at e5
    obtain ⟨e, he, hE⟩ := chain_read K xs g ns T w m (spanI xs j) (a + 1 + 1 + 1 + (tmT xs g j).length) (ys ++ ns j) (c + 1) n (by omega) h3.app hg2
    refine ⟨e, ?_, hE⟩
    unfold chnE
    rw [e2, if_pos e1, if_pos e3, e5, e4, he]
    show _ = ChR.mk (ys ++ (ns j ++ lpN xs ns m (spanI xs j))) _ _ _
    rw [← List.append_assoc, show c + 1 + (m : Int) = c + ((m + 1 : Nat) : Int) by omega]
end Go.Proofs.Ytlmanlpgknhfpaa
namespace Go.Proofs.Ytlmanlpgknhfpaa
open Go Go.RowKit Pl Sy
namespace Sy
structure NwX where
  w : ByteArray
  z : Nat
noncomputable def nwGet (F : Fr) (M : Mem) : Option NwX := match nth F 8 with
  | some (some (.lit (.string w))) => some ⟨w, M.stamp⟩
  | _ => none
noncomputable abbrev lpNd (s : ByteArray) (xs : List QNodeV) (K : NdK) (hK : K.Ok s xs) (L : List TokV) (q : QNodeV) (i : Int) : Lp Try.prog where
  f := 18
  key := 16
  S := formS nwGet (fun x => ndF x.w i q.count 0) (fun x => ⟨4, x.z, [some (ndN q), some (ndQ s xs), some (rowB L.length (kcell L)), some (wB 1 L.length)]⟩) (fun x => (1 ≤ q.count ∧ q.count ≤ 100000) ∧ Spans K xs q.count.toNat i ∧ limT (L.length + (tmT xs K.T i ++ lpT xs K.T x.w (q.count.toNat - 1) (spanI xs i)).length))
    (fun x => .leaf (.exit 1, ndF x.w (spE xs q.count.toNat i) q.count q.count, ndM s xs (L ++ (tmT xs K.T i ++ lpT xs K.T x.w (q.count.toNat - 1) (spanI xs i))))) (true :: false :: true :: false :: true :: false :: false :: false :: true :: (ff30 (true :: true :: (ff17 []))))
  one := by kernel_rfl
  ok := formS_ok fun x ⟨⟨h1, h2⟩, h3, h4⟩ => by
    obtain ⟨r, hr⟩ : ∃ r : Nat, q.count = ((r + 1 : Nat) : Int) := ⟨(q.count - 1).toNat, by omega⟩
    have e1 : q.count.toNat = r + 1 := by omega
    rw [e1] at h3 h4 ⊢
    rw [hr]
    refine ⟨r + 2, ?_⟩
    have key := LoopToT.to (T := 4) (LoopToT.out (wnd_first s xs K hK x.w q L i r (by omega) h3 h4)) (Nat.le_refl 4)
    refine (LoopTo.stampB 0 key).mono fun ex F M hg => ?_
    obtain ⟨rfl, rfl, rfl⟩ := hg
    rfl
end Sy
def NdC (K : NdK) (xs : List QNodeV) (i : Int) : Prop := inR i xs.length = true ∧ (((nodeN xs i).kind = 4 ∧ OpsIn (nodeN xs i) ∧ spanI xs i = i + 1) ∨ ((nodeN xs i).kind = 3 ∧ (inR (i + 1) xs.length = true ∧ K.C (i + 1)) ∧ spanI xs i = spanI xs (i + 1)) ∨
  (((nodeN xs i).kind = 1 ∨ (nodeN xs i).kind = 2) ∧ (1 ≤ (nodeN xs i).count ∧ (nodeN xs i).count ≤ 100000) ∧ Spans K xs (nodeN xs i).count.toNat (i + 1) ∧ spanI xs i = spE xs (nodeN xs i).count.toNat (i + 1)))
def ndG (xs : List QNodeV) (g : Int → List TokV) (i : Int) : List TokV := if (nodeN xs i).kind = 4 then feaT (nodeN xs i) else if (nodeN xs i).kind = 3 then [idT ⟨#[110, 111, 116]⟩, spT] ++ tmT xs g (i + 1) else tmT xs g (i + 1) ++ lpT xs g (wdS (nodeN xs i).kind) ((nodeN xs i).count.toNat - 1) (spanI xs (i + 1))
theorem Sy.wnd_t (s : ByteArray) (xs : List QNodeV) (hx : xs.length ≤ 100000) (K : NdK) (hK : K.Ok s xs) (L : List TokV) (i : Int) (h : NdC K xs i) (hl : limT (L.length + (ndG xs K.T i).length)) : CallTo Try.prog 18 [.ptr 0 0, query s xs, int i] (wM L) fun v M' => v = int (spanI xs i) ∧ WrEnd M' (L ++ ndG xs K.T i) :=
  to (G := fun r => r.1 = int (spanI xs i) ∧ WrEnd r.2 (L ++ ndG xs K.T i)) [cPutV, cSp, cWfea, cTerm s xs K hK] [lpNd s xs K hK L (nodeN xs i) (i + 1)] 400 30 (.yes (.br (.yes .done) (.br (.yes (.yes (.yes .done))) (.br .done .done)))) (let e1 := (int ((xs.getD (i).toNat QNodeV.zero)).kind); let e2 := (int ((xs.getD (i).toNat QNodeV.zero)).count); let e3 := (int ((xs.getD (i).toNat QNodeV.zero)).feat); let e4 := (int ((xs.getD (i).toNat QNodeV.zero)).lo); let e5 := (int ((xs.getD (i).toNat QNodeV.zero)).ln); let e6 := (int ((xs.getD (i).toNat QNodeV.zero)).ld); let e7 := (int ((xs.getD (i).toNat QNodeV.zero)).ho); let e8 := (int ((xs.getD (i).toNat QNodeV.zero)).hn); let e9 := (int ((xs.getD (i).toNat QNodeV.zero)).hd); let e10 := (int (0 : Int)); let e11 := (e1 :: e2 :: e3 :: e4 :: e5 :: e6 :: e7 :: e8 :: e9 :: (@List.drop _ (0 + ([e1, e2, e3, e4, e5, e6, e7, e8, e9]).length) [e10, e10, e10, e10, e10, e10, e10, e10, e10])); let e12 := (@TokRows (L).length (@kcell L)); let e13 := (@QNodeV.mk ((xs.getD (i).toNat QNodeV.zero)).kind ((xs.getD (i).toNat QNodeV.zero)).count ((xs.getD (i).toNat QNodeV.zero)).feat ((xs.getD (i).toNat QNodeV.zero)).lo ((xs.getD (i).toNat QNodeV.zero)).ln ((xs.getD (i).toNat QNodeV.zero)).ld ((xs.getD (i).toNat QNodeV.zero)).ho ((xs.getD (i).toNat QNodeV.zero)).hn ((xs.getD (i).toNat QNodeV.zero)).hd); let e14 := ((L).length + ((@feaT e13)).length); let e15 := (i + (1 : Int)); let e16 := (int (w64 e15)); let e17 := (some (@Blk.mk e11 45 none)); let e18 := (some (@Blk.mk [(@AV.lit (@Value.string s)), (@qview xs)] 24 none)); let e19 := (@ByteArray.mk (@Array.mk _ [(110 : UInt8), (111 : UInt8), (116 : UInt8)])); let e20 := (@AV.lit (@Value.string e19)); let e21 := ((L).length + 1); let e22 := (@appc (L).length (@kcell L) (@kcell [(@TokV.mk (1 : Int) e19 (0 : Int))])); let e23 := (e21 + 1); let e24 := (@appc e21 e22 (@kcell [spT])); let e25 := (e23 + ((@tmT xs (K).T (w64 e15))).length); let e26 := (some (@AV.ptr 0 0)); let e27 := (some (@AV.ptr 2 0)); let e28 := (@ByteArray.mk (@Array.mk _ [(111 : UInt8), (114 : UInt8)])); let e29 := (some (@AV.lit (@Value.string e28))); let e30 := (some (int ((@nodeN xs i)).count)); let e31 := (some (@Blk.mk [] 40 (some (@Rw.mk (L).length 3 (@kcell L))))); let e32 := (some (@Blk.mk [(@AV.own 1 (L).length 3)] 48 none)); let e33 := ((@Mem.mk ((2 + 1) + 1) (0 + 1) [e17, e18, e31, e32]) = (@Mem.mk 4 (0 + 1) [(some (@Blk.mk [(int ((@nodeN xs i)).kind), (int ((@nodeN xs i)).count), (int ((@nodeN xs i)).feat), (int ((@nodeN xs i)).lo), (int ((@nodeN xs i)).ln), (int ((@nodeN xs i)).ld), (int ((@nodeN xs i)).ho), (int ((@nodeN xs i)).hn), (int ((@nodeN xs i)).hd)] 45 none)), e18, e31, e32])); let e34 := (@And ((1 : Int) ≤ ((@nodeN xs i)).count) (((@nodeN xs i)).count ≤ (100000 : Int))); let e35 := (((@nodeN xs i)).count); let e36 := (int (@spE xs e35.toNat e15)); let e37 := (@ByteArray.mk (@Array.mk _ [(97 : UInt8), (110 : UInt8), (100 : UInt8)])); let e38 := (some (@AV.lit (@Value.string e37))); (.need (@inR i (xs).length) (.fork (eqI ((xs.getD (i).toNat QNodeV.zero)).kind (4 : Int)) (.need (@isSo (@And ([(@AV.agg (@List.take _ 9 e11))] = [(@AV.agg [e1, e2, e3, e4, e5, e6, e7, e8, e9])]) (@And e12 (@And ((L).length = (L).length) (@And (@OpsIn e13) (e14 ≤ 1000000)))))) (.leaf (e16, (@Mem.mk (((2 + 1) + 1) + 1) (((0 + 1) + 1) + 1) ((some (@Blk.mk [] 40 (some (@Rw.mk e14 3 (@appc (L).length (@kcell L) (@kcell (@feaT e13))))))) :: [e17, e18, none, (some (@Blk.mk [(@AV.own ((2 + 1) + 1) e14 3)] 48 none))]))))) (.fork (eqI ((xs.getD (i).toNat QNodeV.zero)).kind (3 : Int)) (.need (@isSo (@And ([(int (1 : Int)), e20, e10] = [(int (1 : Int)), e20, e10]) (@And e12 (@And ((L).length = (L).length) (@And True (e21 ≤ 1000000)))))) (.need (@isSo (@And (([] : List AV) = []) (@And (@TokRows e21 e22) (@And (e21 = e21) (@And True (e23 ≤ 1000000)))))) (.need (@isSo (@And ([(@AV.agg [(@AV.lit (@Value.string s)), (@qview xs)]), e16] = [(@query s xs), e16]) (@And (@TokRows e23 e24) (@And (e23 = e23) (@And (@And ((@inR (w64 e15) (xs).length) = true) ((K).C (w64 e15))) (e25 ≤ 1000000)))))) (.leaf ((int (@spanI xs (w64 e15))), (@Mem.mk (((((2 + 1) + 1) + 1) + 1) + 1) (((((((0 + 1) + 1) + 1) + 1) + 1) + 1) + 1) ((some (@Blk.mk [] 40 (some (@Rw.mk e25 3 (@appc e23 e24 (@kcell (@tmT xs (K).T (w64 e15)))))))) :: (none :: (none :: [e17, e18, none, (some (@Blk.mk [(@AV.own ((((2 + 1) + 1) + 1) + 1) e25 3)] 48 none))]))))))))) (.fork (eqI ((xs.getD (i).toNat QNodeV.zero)).kind (2 : Int)) (.need (@isSo (@And ((e26 :: none :: (some e16) :: (none :: e27 :: none :: none :: none :: e29 :: (nn30 ((some e2) :: (some e10) :: (nn17 []))))) = (e26 :: none :: (some (int e15)) :: none :: e27 :: none :: none :: none :: e29 :: (nn30 (e30 :: (some e10) :: (nn17 []))))) e33)) (.need (@isSo (@And e34 (@And (@Spans K xs e35.toNat e15) (((L).length + ((@HAppend.hAppend _ _ _ _ (@tmT xs (K).T e15) (@lpT xs (K).T e28 (e35.toNat - 1) (@spanI xs e15)))).length) ≤ 1000000)))) (.leaf (e36, (@Mem.mk 5 0 [(some (@Blk.mk [] 40 (some (@Rw.mk ((@HAppend.hAppend _ _ _ _ L (@HAppend.hAppend _ _ _ _ (@tmT xs (K).T e15) (@lpT xs (K).T e28 (e35.toNat - 1) (@spanI xs e15))))).length 3 (@kcell (@HAppend.hAppend _ _ _ _ L (@HAppend.hAppend _ _ _ _ (@tmT xs (K).T e15) (@lpT xs (K).T e28 (e35.toNat - 1) (@spanI xs e15))))))))), none, e18, none, (some (@Blk.mk [(@AV.own 4 ((@HAppend.hAppend _ _ _ _ L (@HAppend.hAppend _ _ _ _ (@tmT xs (K).T e15) (@lpT xs (K).T e28 (e35.toNat - 1) (@spanI xs e15))))).length 3)] 48 none))]))))) (.need (@isSo (@And ((e26 :: none :: (some e16) :: (none :: e27 :: none :: none :: none :: e38 :: (nn30 ((some e2) :: (some e10) :: (nn17 []))))) = (e26 :: none :: (some (int e15)) :: none :: e27 :: none :: none :: none :: e38 :: (nn30 (e30 :: (some e10) :: (nn17 []))))) e33)) (.need (@isSo (@And e34 (@And (@Spans K xs e35.toNat e15) (((L).length + ((@HAppend.hAppend _ _ _ _ (@tmT xs (K).T e15) (@lpT xs (K).T e37 (e35.toNat - 1) (@spanI xs e15)))).length) ≤ 1000000)))) (.leaf (e36, (@Mem.mk 5 0 [(some (@Blk.mk [] 40 (some (@Rw.mk ((@HAppend.hAppend _ _ _ _ L (@HAppend.hAppend _ _ _ _ (@tmT xs (K).T e15) (@lpT xs (K).T e37 (e35.toNat - 1) (@spanI xs e15))))).length 3 (@kcell (@HAppend.hAppend _ _ _ _ L (@HAppend.hAppend _ _ _ _ (@tmT xs (K).T e15) (@lpT xs (K).T e37 (e35.toNat - 1) (@spanI xs e15))))))))), none, e18, none, (some (@Blk.mk [(@AV.own 4 ((@HAppend.hAppend _ _ _ _ L (@HAppend.hAppend _ _ _ _ (@tmT xs (K).T e15) (@lpT xs (K).T e37 (e35.toNat - 1) (@spanI xs e15))))).length 3)] 48 none))])))))))))) (by kernel_rfl) (by
    obtain ⟨hr, hc⟩ := h
    have hr' := hr
    rw [inR_t] at hr'
    have e1 : w64 (i + 1) = i + 1 := w64_in (by omega)
    conv => zeta
    rw [e1]
    unfold limT ndG at hl
    unfold ndG
    refine need_t hr (fork_ok (fun c => ?_) (fun c => fork_ok (fun c2 => ?_) (fun c2 => ?_)))
    · have c' : (nodeN xs i).kind = 4 := by rw [eqI_t] at c; exact c
      rcases hc with ⟨_, ho, hs⟩ | ⟨k3, _⟩ | ⟨k12, _⟩
      · rw [if_pos c'] at hl ⊢
        rw [hs]
        exact need_so ⟨rfl, (by repeat' (first | exact TokRows.kc _ | refine TokRows.app ?_ rfl)), rfl, ho, hl⟩ ⟨rfl, _, _, _, rfl, rfl, by decide, CellIs.cast (CellIs.app2 (CellIs.kc _) rfl) rfl⟩
      · omega
      · omega
    · have c' : ¬ (nodeN xs i).kind = 4 := by rw [eqI_f] at c; exact c
      have c2' : (nodeN xs i).kind = 3 := by rw [eqI_t] at c2; exact c2
      rcases hc with ⟨k4, _⟩ | ⟨_, ht, hs⟩ | ⟨k12, _⟩
      · omega
      · rw [if_neg c', if_pos c2'] at hl ⊢
        simp only [List.length_append, List.length_cons, List.length_nil] at hl
        rw [hs]
        exact need_so ⟨rfl, (by repeat' (first | exact TokRows.kc _ | refine TokRows.app ?_ rfl)), rfl, trivial, (by (try unfold limT); (try simp only [List.length_cons, List.length_nil] at *); omega)⟩ (need_so ⟨rfl, (by repeat' (first | exact TokRows.kc _ | refine TokRows.app ?_ rfl)), rfl, trivial, (by (try unfold limT); (try simp only [List.length_cons, List.length_nil] at *); omega)⟩ (need_so ⟨rfl, (by repeat' (first | exact TokRows.kc _ | refine TokRows.app ?_ rfl)), rfl, ht, (by (try unfold limT); (try simp only [List.length_cons, List.length_nil] at *); omega)⟩ ⟨rfl, _, _, _, rfl, rfl, by decide, CellIs.cast (CellIs.app2 (CellIs.app2 (CellIs.app2 (CellIs.kc _) rfl) rfl) rfl) (by simp [List.append_assoc])⟩))
      · omega
    · have c' : ¬ (nodeN xs i).kind = 4 := by rw [eqI_f] at c; exact c
      have c2' : ¬ (nodeN xs i).kind = 3 := by rw [eqI_f] at c2; exact c2
      rcases hc with ⟨k4, _⟩ | ⟨k3, _⟩ | ⟨_, hcn, hsp, hs⟩
      · omega
      · omega
      · rw [if_neg c', if_neg c2'] at hl ⊢
        rw [hs]
        refine fork_ok (fun c3 => ?_) (fun c3 => ?_)
        · have c3' : (nodeN xs i).kind = 2 := by rw [eqI_t] at c3; exact c3
          have ew : wdS (nodeN xs i).kind = ⟨#[111, 114]⟩ := by unfold wdS; rw [if_pos c3']
          rw [ew] at hl ⊢
          exact need_so ⟨rfl, rfl⟩ (need_so ⟨hcn, hsp, hl⟩ ⟨rfl, 4, _, _, rfl, rfl, by decide, CellIs.kc _⟩)
        · have c3' : ¬ (nodeN xs i).kind = 2 := by rw [eqI_f] at c3; exact c3
          have ew : wdS (nodeN xs i).kind = ⟨#[97, 110, 100]⟩ := by unfold wdS; rw [if_neg c3']
          rw [ew] at hl ⊢
          exact need_so ⟨rfl, rfl⟩ (need_so ⟨hcn, hsp, hl⟩ ⟨rfl, 4, _, _, rfl, rfl, by decide, CellIs.kc _⟩))
def ndK (xs : List QNodeV) : Nat → NdK
  | 0 => ⟨fun _ => [], fun _ => False⟩
  | f + 1 => ⟨ndG xs (ndK xs f).T, NdC (ndK xs f) xs⟩
theorem ndK_ok (s : ByteArray) (xs : List QNodeV) (hx : xs.length ≤ 100000) : ∀ f, (ndK xs f).Ok s xs := by
  intro f
  induction f with
  | zero => exact ⟨fun L i h => h.elim⟩
  | succ f ih => exact ⟨fun L i h hl => Sy.wnd_t s xs hx (ndK xs f) ih L i h hl⟩
def qryT (s : ByteArray) (xs : List QNodeV) : List TokV := (if bytesEq s.data.toList [] then [] else [idT s, spT]) ++ (ndK xs xs.length).T 0
noncomputable abbrev Sy.cRightP (s : ByteArray) (xs : List QNodeV) : Con Try.prog := at1 15 [query s xs] (boo (rightQ s xs)) (s.size ≤ maxLen ∧ xs.length ≤ 17592186044416) fun h => ⟨⟨⟨qv_free s xs, trivial⟩, trivial⟩, right_q0 s xs h.1 h.2⟩
def prT (s : ByteArray) (xs : List QNodeV) : List TokV := if rightQ s xs then qryT s xs else []
def prE (s : ByteArray) (xs : List QNodeV) : Int := if rightQ s xs then 0 else 21
def PrnOk (s : ByteArray) (xs : List QNodeV) : Prop := rightQ s xs = true → (ndK xs xs.length).C 0 ∧ limT ((qryT s xs).length + 2)
theorem Sy.tview_frz (T : Nat) (M : Mem) {b n : Nat} {cell : Nat → Nat → AV} {L : List TokV} (hT : T ≤ b) (hb : M.get b = some (rowB n cell)) (hc : CellIs n cell L) : Frz true T M (.own b n 3) (kv L) := by
  have hn := hc.1
  subst hn
  exact Frz.own (b := b) hT hb rfl (Nat.le_refl _) rfl fun i j hi hj => by
    show Frz true T M (cell i j) _
    rw [hc.2 i j hi hj]
    exact Frz.lit _ _ _ _
theorem Sy.cell0 : CellIs 0 (kcell []) [] := CellIs.kc []
theorem Sy.rows0 : TokRows 0 (kcell []) := TokRows.kc []
theorem Sy.qpr_t (s : ByteArray) (xs : List QNodeV) (hx : xs.length ≤ 100000) (hs : s.size ≤ maxLen) (hp : PrnOk s xs) : CallTo Try.prog 7 [query s xs] M0 fun v M' => Frz true 0 M' v (.tup [kv (prT s xs), int (prE s xs)]) :=
  to (G := fun r => Frz true 0 r.2 r.1 (.tup [kv (prT s xs), int (prE s xs)])) [cRightP s xs, cPutV, cSp, cNode s xs (ndK xs xs.length) (ndK_ok s xs hx xs.length)] [] 400 30 (.yes (.br .done (.br (.yes (.yes (.yes .done))) (.yes .done)))) (let e1 := (@AV.lit (@Value.string s)); let e2 := (@AV.lit (@Value.slice none 0 0)); let e3 := (some (@Blk.mk [e1, (@qview xs)] 24 none)); let e4 := (int (0 : Int)); let e5 := ((some (@Blk.mk [e2] 48 none)) = (some wB0)); let e6 := (@TokV.mk (Int.ofNat 1) s (Int.ofNat 0)); let e7 := (0 + ([e6]).length); let e8 := (@appc 0 (@kcell []) (@kcell [e6])); let e9 := ([(@AV.agg [e1, (@qview xs)]), e4] = [(@query s xs), e4]); let e10 := (((@ndK xs (xs).length)).C (0 : Int)); let e11 := (((@ndK xs (xs).length)).T (0 : Int)); let e12 := ((e7 + 1) + (e11).length); let e13 := (((0 + 1) + 1) + 1); let e14 := (@AV.own ((e13 + 1) + 1) e12 3); let e15 := (@AV.own e13 (0 + (e11).length) 3); (.need (@isSo (@And ((@HAppend.hAppend _ _ _ _ (@HAppend.hAppend _ _ _ _ [] [(@AV.agg [e1, (@qview xs)])]) []) = [(@query s xs)]) (@And ((@ByteArray.size s) ≤ 9223372036854775807) ((xs).length ≤ 17592186044416)))) (.fork (!(@rightQ s xs)) (.leaf ((@AV.tup [e2, (int (21 : Int))]), (@Mem.mk 1 0 [e3]))) (.fork (!(@bytesEq (@Array.toList _ (@ByteArray.data s)) (@Array.toList _ (@ByteArray.data (@ByteArray.mk (@Array.mk _ [])))))) (.need (@isSo (@And ([(int (1 : Int)), e1, e4] = [(int (Int.ofNat 1)), e1, (int (Int.ofNat 0))]) (@And e5 (@And True (([e6]).length ≤ 1000000))))) (.need (@isSo (@And (([] : List AV) = []) (@And (@TokRows e7 e8) (@And (e7 = e7) (@And True ((e7 + 1) ≤ 1000000)))))) (.need (@isSo (@And e9 (@And (@TokRows (e7 + 1) (@appc e7 e8 (@kcell [spT]))) (@And ((e7 + 1) = (e7 + 1)) (@And e10 (e12 ≤ 1000000)))))) (.leaf ((@AV.tup [e14, e4]), (@Mem.mk (((e13 + 1) + 1) + 1) ((((e13 + 1) + 1) + 1) + 1) ((some (@Blk.mk [] 40 (some (@Rw.mk e12 3 (@appc (e7 + 1) (@appc e7 e8 (@kcell [spT])) (@kcell e11)))))) :: (none :: (none :: [none, (some (@Blk.mk [e14] 48 none)), e3]))))))))) (.need (@isSo (@And e9 (@And e5 (@And e10 ((e11).length ≤ 1000000))))) (.leaf ((@AV.tup [e15, e4]), (@Mem.mk (e13 + 1) e13 ((some (@Blk.mk [] 40 (some (@Rw.mk (0 + (e11).length) 3 (@appc 0 (@kcell []) (@kcell e11)))))) :: [none, (some (@Blk.mk [e15] 48 none)), e3]))))))))) (by kernel_rfl) (by
    refine need_so ⟨rfl, hs, by omega⟩ (fork_ok (fun c => ?_) (fun c => ?_))
    · have c := n_t c
      unfold prT prE
      rw [c]
      exact Frz.tup ⟨Frz.nil _ _ _ _ _, Frz.lit _ _ _ _, trivial⟩
    · have c := n_f c
      obtain ⟨h1, h2⟩ := hp c
      unfold prT prE
      rw [c]
      unfold qryT limT at h2
      refine fork_ok (fun c2 => ?_) (fun c2 => ?_)
      · have c2 : bytesEq s.data.toList [] = false := n_t c2
        rw [if_neg (by rw [c2]; simp)] at h2
        simp only [List.length_append, List.length_cons, List.length_nil] at h2
        have e : qryT s xs = [idT s, spT] ++ (ndK xs xs.length).T 0 := by unfold qryT; rw [if_neg (by rw [c2]; simp)]
        rw [if_pos rfl, if_pos rfl, e]
        exact need_so ⟨rfl, rfl, trivial, (by (try unfold limT); (try simp only [List.length_cons, List.length_nil] at *); omega)⟩ (need_so ⟨rfl, (by repeat' (first | exact rows0 | refine TokRows.app ?_ rfl)), rfl, trivial, (by (try unfold limT); (try simp only [List.length_cons, List.length_nil] at *); omega)⟩ (need_so ⟨rfl, (by repeat' (first | exact rows0 | refine TokRows.app ?_ rfl)), rfl, h1, (by (try unfold limT); (try simp only [List.length_cons, List.length_nil] at *); omega)⟩ (Frz.tup ⟨tview_frz 0 _ (Nat.zero_le _) rfl (CellIs.cast (CellIs.app2 (CellIs.app2 (CellIs.app2 cell0 rfl) rfl) rfl) (by simp)), Frz.lit _ _ _ _, trivial⟩)))
      · have c2 : bytesEq s.data.toList [] = true := n_f c2
        rw [if_pos c2] at h2
        have e : qryT s xs = (ndK xs xs.length).T 0 := by unfold qryT; rw [if_pos c2, List.nil_append]
        rw [if_pos rfl, if_pos rfl, e]
        simp only [List.length_append, List.length_nil] at h2
        exact need_so ⟨rfl, rfl, h1, (by (try unfold limT); (try simp only [List.length_cons, List.length_nil] at *); omega)⟩ (Frz.tup ⟨tview_frz 0 _ (Nat.zero_le _) rfl (CellIs.cast (CellIs.app2 cell0 rfl) (by simp)), Frz.lit _ _ _ _, trivial⟩))
theorem Sy.qpr_v (s : ByteArray) (xs : List QNodeV) (hx : xs.length ≤ 100000) (hs : s.size ≤ maxLen) (hp : PrnOk s xs) : CallTo Try.prog 7 [query s xs] M0 fun v _ => v = .tup [kv (prT s xs), int (prE s xs)] :=
  CallTo.frz0 (qpr_t s xs hx hs hp) ⟨qv_free s xs, trivial⟩ ⟨kv_free _, trivial, trivial⟩
noncomputable abbrev Sy.cQpr (s : ByteArray) (xs : List QNodeV) : Con Try.prog := at1 7 [query s xs] (.tup [kv (prT s xs), int (prE s xs)]) (xs.length ≤ 100000 ∧ s.size ≤ maxLen ∧ PrnOk s xs) fun h => ⟨⟨⟨qv_free s xs, trivial⟩, kv_free _, trivial, trivial⟩, qpr_v s xs h.1 h.2.1 h.2.2⟩
end Go.Proofs.Ytlmanlpgknhfpaa
namespace Go.Proofs.Ytlmanlpgknhfpaa
open Go Go.RowKit Pl Sy
def strCellsQ (y : ByteArray) : List Value := [.string y]
abbrev Sy.cviewQ (l : List ByteArray) : AV := viewOf strCellsQ ⟨#[]⟩ 1 l
abbrev Sy.tokL (t : TokV) : AV := .agg [int t.kind, .lit (.string t.text), int t.n]
theorem Sy.rtok_t (k : Int) (s : ByteArray) : CallTo Try.prog 27 [int k, .lit (.string s)] M0 fun v _ => v = tokL ⟨k, s, 0⟩ :=
  toV [] [] 400 30 .done (.leaf (@AV.agg (@List.take _ 3 ((int k) :: ((@AV.lit (@Value.string s)) :: ((int (0 : Int)) :: (@List.drop _ (0 + (((int k) :: ((@AV.lit (@Value.string s)) :: (@List.drop _ (1 + ([(@AV.lit (@Value.string s))]).length) ((int k) :: (@List.drop _ (0 + ([(int k)]).length) (@List.map _ _ AV.lit (@Array.toList _ (@Array.mk _ [(@Value.int IntKind.i64 (0 : Int)), (@Value.string (@ByteArray.mk (@Array.mk _ []))), (@Value.int IntKind.i64 (0 : Int))]))))))))).length) [(int (0 : Int)), (@AV.lit (@Value.string (@ByteArray.mk (@Array.mk _ [])))), (int (0 : Int))]))))))) (by kernel_rfl) rfl
structure TkY where
  k : Int
  s : ByteArray
noncomputable abbrev Sy.cTok : Con Try.prog := atX 27 (fun args => match args with | [.lit (.int .i64 k), .lit (.string s)] => some (TkY.mk k s) | _ => none) (fun y => [int y.k, .lit (.string y.s)]) (fun y => tokL ⟨y.k, y.s, 0⟩) (fun _ => True) fun y _ => ⟨⟨⟨trivial, trivial, trivial⟩, trivial, trivial, trivial, trivial⟩, rtok_t y.k y.s⟩
theorem Sy.rop_t (o : Int) (h0 : 1 ≤ o) (h5 : o ≤ 5) : CallTo Try.prog 77 [int o] M0 fun v _ => v = kv (opT o) := by
  have hc : o = 1 ∨ o = 2 ∨ o = 3 ∨ o = 4 ∨ o = 5 := by omega
  refine CallTo.frz0 ?_ ⟨trivial, trivial⟩ (kv_free _)
  rcases hc with rfl | rfl | rfl | rfl | rfl
  · exact to (G := fun r => Frz true 0 r.2 r.1 (kv (opT 1))) [] [] 400 30 (.auto 8 .done) (let e1 := (@AV.lit (@Value.string (@ByteArray.mk (@Array.mk _ [(60 : UInt8)])))); let e2 := (int (0 : Int)); let e3 := (@Value.int IntKind.i64 (0 : Int)); let e4 := (@Value.string (@ByteArray.mk (@Array.mk _ []))); let e5 := (@Array.toList _ (@Array.mk _ [e3, e4, e3])); let e6 := ((int (19 : Int)) :: e1 :: e2 :: (@List.drop _ 3 (@List.map _ _ AV.lit (@Array.toList _ (@Array.mk _ [(@List.get _ e5 (@Fin.mk _ 0 (@Nat.le_of_ble_eq_true _ _ (@Eq.refl _ true)))), (@List.get _ e5 (@Fin.mk _ 1 (@Nat.le_of_ble_eq_true _ _ (@Eq.refl _ true)))), (@List.get _ e5 (@Fin.mk _ 2 (@Nat.le_of_ble_eq_true _ _ (@Eq.refl _ true))))]))))); (.leaf ((@AV.sl 2 0 1 none 3), (@Mem.mk 3 1 [(some (@Blk.mk (@List.take _ 3 e6) 40 none)), (some (@Blk.mk e6 40 none)), (some (@Blk.mk ((int (19 : Int)) :: e1 :: e2 :: (@List.drop _ 3 [e2, (@AV.lit e4), e2])) 40 none))])))) (by kernel_rfl) (Frz.sl (b := 2) (by decide) rfl (fun i j hi hj => by
        rcases i with _ | i
        · rcases j with _ | _ | _ | j
          · exact ⟨_, rfl, Frz.lit _ _ _ _, rfl⟩
          · exact ⟨_, rfl, Frz.lit _ _ _ _, rfl⟩
          · exact ⟨_, rfl, Frz.lit _ _ _ _, rfl⟩
          · omega
        · omega))
  · exact to (G := fun r => Frz true 0 r.2 r.1 (kv (opT 2))) [] [] 400 30 (.auto 8 .done) (let e1 := (int (19 : Int)); let e2 := (@AV.lit (@Value.string (@ByteArray.mk (@Array.mk _ [(60 : UInt8)])))); let e3 := (int (0 : Int)); let e4 := (@AV.lit (@Value.string (@ByteArray.mk (@Array.mk _ [(61 : UInt8)])))); let e5 := (@Value.int IntKind.i64 (0 : Int)); let e6 := (@Value.string (@ByteArray.mk (@Array.mk _ []))); let e7 := (@Array.toList _ (@Array.mk _ [e5, e6, e5])); let e8 := (@List.drop _ 3 (@List.map _ _ AV.lit (@Array.toList _ (@Array.mk _ [(@List.get _ e7 (@Fin.mk _ 0 (@Nat.le_of_ble_eq_true _ _ (@Eq.refl _ true)))), (@List.get _ e7 (@Fin.mk _ 1 (@Nat.le_of_ble_eq_true _ _ (@Eq.refl _ true)))), (@List.get _ e7 (@Fin.mk _ 2 (@Nat.le_of_ble_eq_true _ _ (@Eq.refl _ true))))])))); let e9 := (@List.drop _ 3 [e3, (@AV.lit e6), e3]); (.leaf ((@AV.sl 5 0 2 none 3), (@Mem.mk 6 3 [(some (@Blk.mk (@HAppend.hAppend _ _ _ _ (@List.take _ 3 [e1, e2, e3]) (@List.take _ 3 (e1 :: e4 :: e3 :: e8))) 40 none)), (some (@Blk.mk (e1 :: e4 :: e3 :: e8) 40 none)), (some (@Blk.mk (e1 :: e4 :: e3 :: e9) 40 none)), none, (some (@Blk.mk (e1 :: e2 :: e3 :: e8) 40 none)), (some (@Blk.mk (e1 :: e2 :: e3 :: e9) 40 none))])))) (by kernel_rfl) (Frz.sl (b := 5) (by decide) rfl (fun i j hi hj => by
        rcases i with _ | _ | i
        · rcases j with _ | _ | _ | j
          · exact ⟨_, rfl, Frz.lit _ _ _ _, rfl⟩
          · exact ⟨_, rfl, Frz.lit _ _ _ _, rfl⟩
          · exact ⟨_, rfl, Frz.lit _ _ _ _, rfl⟩
          · omega
        · rcases j with _ | _ | _ | j
          · exact ⟨_, rfl, Frz.lit _ _ _ _, rfl⟩
          · exact ⟨_, rfl, Frz.lit _ _ _ _, rfl⟩
          · exact ⟨_, rfl, Frz.lit _ _ _ _, rfl⟩
          · omega
        · omega))
  · exact to (G := fun r => Frz true 0 r.2 r.1 (kv (opT 3))) [] [] 400 30 (.auto 8 .done) (let e1 := (@AV.lit (@Value.string (@ByteArray.mk (@Array.mk _ [(61 : UInt8)])))); let e2 := (int (0 : Int)); let e3 := (@Value.int IntKind.i64 (0 : Int)); let e4 := (@Value.string (@ByteArray.mk (@Array.mk _ []))); let e5 := (@Array.toList _ (@Array.mk _ [e3, e4, e3])); let e6 := ((int (19 : Int)) :: e1 :: e2 :: (@List.drop _ 3 (@List.map _ _ AV.lit (@Array.toList _ (@Array.mk _ [(@List.get _ e5 (@Fin.mk _ 0 (@Nat.le_of_ble_eq_true _ _ (@Eq.refl _ true)))), (@List.get _ e5 (@Fin.mk _ 1 (@Nat.le_of_ble_eq_true _ _ (@Eq.refl _ true)))), (@List.get _ e5 (@Fin.mk _ 2 (@Nat.le_of_ble_eq_true _ _ (@Eq.refl _ true))))]))))); (.leaf ((@AV.sl 2 0 1 none 3), (@Mem.mk 3 1 [(some (@Blk.mk (@List.take _ 3 e6) 40 none)), (some (@Blk.mk e6 40 none)), (some (@Blk.mk ((int (19 : Int)) :: e1 :: e2 :: (@List.drop _ 3 [e2, (@AV.lit e4), e2])) 40 none))])))) (by kernel_rfl) (Frz.sl (b := 2) (by decide) rfl (fun i j hi hj => by
        rcases i with _ | i
        · rcases j with _ | _ | _ | j
          · exact ⟨_, rfl, Frz.lit _ _ _ _, rfl⟩
          · exact ⟨_, rfl, Frz.lit _ _ _ _, rfl⟩
          · exact ⟨_, rfl, Frz.lit _ _ _ _, rfl⟩
          · omega
        · omega))
  · exact to (G := fun r => Frz true 0 r.2 r.1 (kv (opT 4))) [] [] 400 30 (.auto 8 .done) (let e1 := (int (19 : Int)); let e2 := (@AV.lit (@Value.string (@ByteArray.mk (@Array.mk _ [(62 : UInt8)])))); let e3 := (int (0 : Int)); let e4 := (@AV.lit (@Value.string (@ByteArray.mk (@Array.mk _ [(61 : UInt8)])))); let e5 := (@Value.int IntKind.i64 (0 : Int)); let e6 := (@Value.string (@ByteArray.mk (@Array.mk _ []))); let e7 := (@Array.toList _ (@Array.mk _ [e5, e6, e5])); let e8 := (@List.drop _ 3 (@List.map _ _ AV.lit (@Array.toList _ (@Array.mk _ [(@List.get _ e7 (@Fin.mk _ 0 (@Nat.le_of_ble_eq_true _ _ (@Eq.refl _ true)))), (@List.get _ e7 (@Fin.mk _ 1 (@Nat.le_of_ble_eq_true _ _ (@Eq.refl _ true)))), (@List.get _ e7 (@Fin.mk _ 2 (@Nat.le_of_ble_eq_true _ _ (@Eq.refl _ true))))])))); let e9 := (@List.drop _ 3 [e3, (@AV.lit e6), e3]); (.leaf ((@AV.sl 5 0 2 none 3), (@Mem.mk 6 3 [(some (@Blk.mk (@HAppend.hAppend _ _ _ _ (@List.take _ 3 [e1, e2, e3]) (@List.take _ 3 (e1 :: e4 :: e3 :: e8))) 40 none)), (some (@Blk.mk (e1 :: e4 :: e3 :: e8) 40 none)), (some (@Blk.mk (e1 :: e4 :: e3 :: e9) 40 none)), none, (some (@Blk.mk (e1 :: e2 :: e3 :: e8) 40 none)), (some (@Blk.mk (e1 :: e2 :: e3 :: e9) 40 none))])))) (by kernel_rfl) (Frz.sl (b := 5) (by decide) rfl (fun i j hi hj => by
        rcases i with _ | _ | i
        · rcases j with _ | _ | _ | j
          · exact ⟨_, rfl, Frz.lit _ _ _ _, rfl⟩
          · exact ⟨_, rfl, Frz.lit _ _ _ _, rfl⟩
          · exact ⟨_, rfl, Frz.lit _ _ _ _, rfl⟩
          · omega
        · rcases j with _ | _ | _ | j
          · exact ⟨_, rfl, Frz.lit _ _ _ _, rfl⟩
          · exact ⟨_, rfl, Frz.lit _ _ _ _, rfl⟩
          · exact ⟨_, rfl, Frz.lit _ _ _ _, rfl⟩
          · omega
        · omega))
  · exact to (G := fun r => Frz true 0 r.2 r.1 (kv (opT 5))) [] [] 400 30 (.auto 8 .done) (let e1 := (@AV.lit (@Value.string (@ByteArray.mk (@Array.mk _ [(62 : UInt8)])))); let e2 := (int (0 : Int)); let e3 := (@Value.int IntKind.i64 (0 : Int)); let e4 := (@Value.string (@ByteArray.mk (@Array.mk _ []))); let e5 := (@Array.toList _ (@Array.mk _ [e3, e4, e3])); let e6 := ((int (19 : Int)) :: e1 :: e2 :: (@List.drop _ 3 (@List.map _ _ AV.lit (@Array.toList _ (@Array.mk _ [(@List.get _ e5 (@Fin.mk _ 0 (@Nat.le_of_ble_eq_true _ _ (@Eq.refl _ true)))), (@List.get _ e5 (@Fin.mk _ 1 (@Nat.le_of_ble_eq_true _ _ (@Eq.refl _ true)))), (@List.get _ e5 (@Fin.mk _ 2 (@Nat.le_of_ble_eq_true _ _ (@Eq.refl _ true))))]))))); (.leaf ((@AV.sl 2 0 1 none 3), (@Mem.mk 3 1 [(some (@Blk.mk (@List.take _ 3 e6) 40 none)), (some (@Blk.mk e6 40 none)), (some (@Blk.mk ((int (19 : Int)) :: e1 :: e2 :: (@List.drop _ 3 [e2, (@AV.lit e4), e2])) 40 none))])))) (by kernel_rfl) (Frz.sl (b := 2) (by decide) rfl (fun i j hi hj => by
        rcases i with _ | i
        · rcases j with _ | _ | _ | j
          · exact ⟨_, rfl, Frz.lit _ _ _ _, rfl⟩
          · exact ⟨_, rfl, Frz.lit _ _ _ _, rfl⟩
          · exact ⟨_, rfl, Frz.lit _ _ _ _, rfl⟩
          · omega
        · omega))
noncomputable abbrev Sy.cRop : Con Try.prog := atX 77 (fun args => match args with | [.lit (.int .i64 o)] => some o | _ => none) (fun o => [int o]) (fun o => kv (opT o)) (fun o => 1 ≤ o ∧ o ≤ 5) fun o h => ⟨⟨⟨trivial, trivial⟩, kv_free _⟩, rop_t o h.1 h.2⟩
theorem Sy.rval_t (f o n e : Int) (hf : f ≤ 5) : CallTo Try.prog 76 [int f, .agg [int o, int n, int e]] M0 fun v _ => v = kv (valT f n e) :=
  CallTo.frz0 (to (G := fun r => Frz true 0 r.2 r.1 (kv (valT f n e))) [cTok] [] 400 30 (.br .done (.yes (.yes (.yes .done)))) (let e1 := (some (@Blk.mk [(int o), (int n), (int e)] 43 none)); let e2 := (int (20 : Int)); let e3 := (@AV.lit (@Value.string (@ByteArray.mk (@Array.mk _ [])))); let e4 := (@isSo (@And ((@HAppend.hAppend _ _ _ _ (@HAppend.hAppend _ _ _ _ [] [e2, e3]) []) = [e2, e3]) True)); let e5 := (@AV.lit (@Value.string (@ByteArray.mk (@Array.mk _ [(47 : UInt8)])))); (.fork (!(leI (5 : Int) f)) (.leaf ((@AV.sl (0 + 1) 0 1 (some 1) 3), (@Mem.mk ((0 + 1) + 1) 0 [(some (@Blk.mk ((int (9 : Int)) :: (@AV.lit (@Value.string (@ByteArray.mk (@Array.mk _ [(112 : UInt8), (120 : UInt8)])))) :: ((int n) :: [])) 40 none)), e1]))) (.need e4 (.need (@isSo (@And ((@HAppend.hAppend _ _ _ _ (@HAppend.hAppend _ _ _ _ [] [(int (19 : Int)), e5]) []) = [(int (19 : Int)), e5]) True)) (.need e4 (.leaf ((@AV.sl (0 + 1) 0 5 (some 5) 3), (@Mem.mk ((0 + 1) + 1) 0 [(some (@Blk.mk ((int (7 : Int)) :: e3 :: ((int n) :: e2 :: e3 :: (int (0 : Int)) :: (int (19 : Int)) :: e5 :: (int (0 : Int)) :: e2 :: e3 :: (int (0 : Int)) :: ((int (7 : Int)) :: e3 :: ((int e) :: [])))) 40 none)), e1])))))))) (by kernel_rfl) (by
    refine fork_ok (fun c => ?_) (fun c => ?_)
    · have c := n_t c
      rw [leI_f] at c
      have e : valT f n e = [⟨9, ⟨#[112, 120]⟩, n⟩] := by unfold valT; rw [if_neg (by omega)]
      rw [e]
      exact Frz.sl (b := 1) (by decide) rfl (fun i j hi hj => by
        rcases i with _ | i
        · rcases j with _ | _ | _ | j
          · exact ⟨_, rfl, Frz.lit _ _ _ _, rfl⟩
          · exact ⟨_, rfl, Frz.lit _ _ _ _, rfl⟩
          · exact ⟨_, rfl, Frz.lit _ _ _ _, rfl⟩
          · omega
        · omega)
    · have c := n_f c
      rw [leI_t] at c
      have e : valT f n e = [⟨7, ⟨#[]⟩, n⟩, spT, slT, spT, ⟨7, ⟨#[]⟩, e⟩] := by unfold valT; rw [if_pos (by omega)]
      rw [e]
      exact need_so ⟨rfl, trivial⟩ (need_so ⟨rfl, trivial⟩ (need_so ⟨rfl, trivial⟩ (Frz.sl (b := 1) (by decide) rfl (fun i j hi hj => by
        rcases i with _ | _ | _ | _ | _ | i
        · rcases j with _ | _ | _ | j
          · exact ⟨_, rfl, Frz.lit _ _ _ _, rfl⟩
          · exact ⟨_, rfl, Frz.lit _ _ _ _, rfl⟩
          · exact ⟨_, rfl, Frz.lit _ _ _ _, rfl⟩
          · omega
        · rcases j with _ | _ | _ | j
          · exact ⟨_, rfl, Frz.lit _ _ _ _, rfl⟩
          · exact ⟨_, rfl, Frz.lit _ _ _ _, rfl⟩
          · exact ⟨_, rfl, Frz.lit _ _ _ _, rfl⟩
          · omega
        · rcases j with _ | _ | _ | j
          · exact ⟨_, rfl, Frz.lit _ _ _ _, rfl⟩
          · exact ⟨_, rfl, Frz.lit _ _ _ _, rfl⟩
          · exact ⟨_, rfl, Frz.lit _ _ _ _, rfl⟩
          · omega
        · rcases j with _ | _ | _ | j
          · exact ⟨_, rfl, Frz.lit _ _ _ _, rfl⟩
          · exact ⟨_, rfl, Frz.lit _ _ _ _, rfl⟩
          · exact ⟨_, rfl, Frz.lit _ _ _ _, rfl⟩
          · omega
        · rcases j with _ | _ | _ | j
          · exact ⟨_, rfl, Frz.lit _ _ _ _, rfl⟩
          · exact ⟨_, rfl, Frz.lit _ _ _ _, rfl⟩
          · exact ⟨_, rfl, Frz.lit _ _ _ _, rfl⟩
          · omega
        · omega)))))) ⟨trivial, ⟨trivial, trivial, trivial, trivial⟩, trivial⟩ (kv_free _)
noncomputable abbrev Sy.cRval : Con Try.prog := atX 76 (fun args => match args with | [.lit (.int .i64 f), .agg [.lit (.int .i64 o), .lit (.int .i64 n), .lit (.int .i64 e)]] => some (BnY.mk f o n e) | _ => none) (fun y => [int y.f, .agg [int y.o, int y.n, int y.e]]) (fun y => kv (valT y.f y.n y.e)) (fun y => y.f ≤ 5) fun y h => ⟨⟨⟨trivial, ⟨trivial, trivial, trivial, trivial⟩, trivial⟩, kv_free _⟩, rval_t y.f y.o y.n y.e h⟩
def wdsL : List ByteArray := [⟨#[]⟩, ⟨#[119, 105, 100, 116, 104]⟩, ⟨#[104, 101, 105, 103, 104, 116]⟩, ⟨#[105, 110, 108, 105, 110, 101, 45, 115, 105, 122, 101]⟩, ⟨#[98, 108, 111, 99, 107, 45, 115, 105, 122, 101]⟩, ⟨#[97, 115, 112, 101, 99, 116, 45, 114, 97, 116, 105, 111]⟩, ⟨#[111, 114, 105, 101, 110, 116, 97, 116, 105, 111, 110]⟩]
theorem Sy.rwd_t : CallTo Try.prog 78 [] M0 fun v _ => v = cviewQ wdsL :=
  CallTo.frz0 (to (G := fun r => Frz true 0 r.2 r.1 (cviewQ wdsL)) [] [] 400 30 .done (let e1 := (@Value.string (@ByteArray.mk (@Array.mk _ []))); let e2 := (@AV.lit e1); let e3 := (105 : UInt8); let e4 := (116 : UInt8); let e5 := (@AV.lit (@Value.string (@ByteArray.mk (@Array.mk _ [(119 : UInt8), e3, (100 : UInt8), e4, (104 : UInt8)])))); let e6 := (101 : UInt8); let e7 := (@AV.lit (@Value.string (@ByteArray.mk (@Array.mk _ [(104 : UInt8), e6, e3, (103 : UInt8), (104 : UInt8), e4])))); let e8 := (110 : UInt8); let e9 := (@AV.lit (@Value.string (@ByteArray.mk (@Array.mk _ [e3, e8, (108 : UInt8), e3, e8, e6, (45 : UInt8), (115 : UInt8), e3, (122 : UInt8), e6])))); let e10 := (111 : UInt8); let e11 := (@AV.lit (@Value.string (@ByteArray.mk (@Array.mk _ [(98 : UInt8), (108 : UInt8), e10, (99 : UInt8), (107 : UInt8), (45 : UInt8), (115 : UInt8), e3, (122 : UInt8), e6])))); let e12 := (@AV.lit (@Value.string (@ByteArray.mk (@Array.mk _ [(97 : UInt8), (115 : UInt8), (112 : UInt8), e6, (99 : UInt8), e4, (45 : UInt8), (114 : UInt8), (97 : UInt8), e4, e3, e10])))); (.leaf ((@AV.sl 0 0 7 (some 7) 1), (@Mem.mk 1 0 [(some (@Blk.mk (e2 :: e5 :: e7 :: e9 :: e11 :: e12 :: (@AV.lit (@Value.string (@ByteArray.mk (@Array.mk _ [e10, (114 : UInt8), e3, e6, e8, e4, (97 : UInt8), e4, e3, e10, e8])))) :: (@List.drop _ 7 (e2 :: e5 :: e7 :: e9 :: e11 :: e12 :: (@List.drop _ 6 (e2 :: e5 :: e7 :: e9 :: e11 :: (@List.drop _ 5 (e2 :: e5 :: e7 :: e9 :: (@List.drop _ 4 (e2 :: e5 :: e7 :: (@List.drop _ 3 (e2 :: e5 :: (@List.drop _ 2 (e2 :: (@List.drop _ 1 (@List.map _ _ AV.lit (@Array.toList _ (@Array.mk _ [(@List.get _ (@Array.toList _ (@Array.mk _ [e1])) (@Fin.mk _ 0 (@Nat.le_of_ble_eq_true _ _ (@Eq.refl _ true)))), (@List.get _ (@Array.toList _ (@Array.mk _ [e1])) (@Fin.mk _ 0 (@Nat.le_of_ble_eq_true _ _ (@Eq.refl _ true)))), (@List.get _ (@Array.toList _ (@Array.mk _ [e1])) (@Fin.mk _ 0 (@Nat.le_of_ble_eq_true _ _ (@Eq.refl _ true)))), (@List.get _ (@Array.toList _ (@Array.mk _ [e1])) (@Fin.mk _ 0 (@Nat.le_of_ble_eq_true _ _ (@Eq.refl _ true)))), (@List.get _ (@Array.toList _ (@Array.mk _ [e1])) (@Fin.mk _ 0 (@Nat.le_of_ble_eq_true _ _ (@Eq.refl _ true)))), (@List.get _ (@Array.toList _ (@Array.mk _ [e1])) (@Fin.mk _ 0 (@Nat.le_of_ble_eq_true _ _ (@Eq.refl _ true)))), (@List.get _ (@Array.toList _ (@Array.mk _ [e1])) (@Fin.mk _ 0 (@Nat.le_of_ble_eq_true _ _ (@Eq.refl _ true))))]))))))))))))))))) 9 none))])))) (by kernel_rfl) (Frz.sl (b := 0) (by decide) rfl (fun i j hi hj => by
    obtain rfl : j = 0 := by omega
    rcases i with _ | _ | _ | _ | _ | _ | _ | i
    · exact ⟨_, rfl, Frz.lit _ _ _ _, rfl⟩
    · exact ⟨_, rfl, Frz.lit _ _ _ _, rfl⟩
    · exact ⟨_, rfl, Frz.lit _ _ _ _, rfl⟩
    · exact ⟨_, rfl, Frz.lit _ _ _ _, rfl⟩
    · exact ⟨_, rfl, Frz.lit _ _ _ _, rfl⟩
    · exact ⟨_, rfl, Frz.lit _ _ _ _, rfl⟩
    · exact ⟨_, rfl, Frz.lit _ _ _ _, rfl⟩
    · omega))) trivial (viewOf_free _ _ _ _)
noncomputable abbrev Sy.cRwd : Con Try.prog := at1 78 [] (cviewQ wdsL) True fun _ => ⟨⟨trivial, viewOf_free _ _ _ _⟩, rwd_t⟩
theorem wds_feat (f : Int) (h1 : 1 ≤ f) (h6 : f ≤ 6) : wdsL.getD f.toNat ⟨#[]⟩ = featS f := by
  have hc : f = 1 ∨ f = 2 ∨ f = 3 ∨ f = 4 ∨ f = 5 ∨ f = 6 := by omega
  rcases hc with rfl | rfl | rfl | rfl | rfl | rfl <;> rfl
theorem Sy.rfea_1 (lo ln ld ho hn hd : Int) (hl : 0 < lo → lo ≤ 5) (hh : ho ≠ 0 → 1 ≤ ho ∧ ho ≤ 5) : CallTo Try.prog 47 [qa 4 0 1 lo ln ld ho hn hd] M0 fun v _ => v = kv (feaT ⟨4, 0, 1, lo, ln, ld, ho, hn, hd⟩) :=
  CallTo.frz0 (to (G := fun r => Frz true 0 r.2 r.1 (kv (feaT ⟨4, 0, 1, lo, ln, ld, ho, hn, hd⟩))) [cTok, cRop, cRval, cRwd] [] 400 30 (.yes (.yes (.br (.yes (.auto 1 (.yes (.yes (.yes (.yes (.auto 0 (.yes (.yes (.br (.auto 3 (.yes (.yes (.yes (.yes (.yes (.yes (.yes (.yes (.yes .done)))))))))) (.auto 3 (.no (.yes (.yes .done)))))))))))))) (.yes (.auto 0 (.yes (.br (.auto 3 (.yes (.yes (.yes (.yes (.yes (.yes (.yes (.yes .done))))))))) (.auto 3 (.no (.yes .done)))))))))) (let e1 := (int (13 : Int)); let e2 := (@Value.string (@ByteArray.mk (@Array.mk _ []))); let e3 := (@AV.lit e2); let e4 := (int (20 : Int)); let e5 := (int (1 : Int)); let e6 := (@AV.agg [(int lo), (int ln), (int ld)]); let e7 := (Int.ofNat 1); let e8 := (1 + ((@valT e7 ln ld)).length); let e9 := ((e8 + 1) + ((@opT lo)).length); let e10 := (@isSo (@And ((@HAppend.hAppend _ _ _ _ (@HAppend.hAppend _ _ _ _ ([] : List AV) ([] : List AV)) []) = []) True)); let e11 := (@AV.lit (@Value.string (@ByteArray.mk (@Array.mk _ [(119 : UInt8), (105 : UInt8), (100 : UInt8), (116 : UInt8), (104 : UInt8)])))); let e12 := (@isSo (@And ((@HAppend.hAppend _ _ _ _ (@HAppend.hAppend _ _ _ _ [] [e5, e11]) []) = [e5, e11]) True)); let e13 := ((e9 + 1) + 1); let e14 := (!(leI ho (0 : Int))); let e15 := (e13 + 1); let e16 := (Bool.true && ((@Nat.ble e13 e13) && ((@Nat.ble (e15 * 32) 140737488355328) && (@Nat.ble e15 17592186044416)))); let e17 := (@isSo (@And ((@HAppend.hAppend _ _ _ _ (@HAppend.hAppend _ _ _ _ [] [(int ho)]) []) = [(int ho)]) (@And ((1 : Int) ≤ ho) (ho ≤ (5 : Int))))); let e18 := (e15 + ((@opT ho)).length); let e19 := (e18 + 1); let e20 := (@AV.agg [(int ho), (int hn), (int hd)]); let e21 := (@isSo (@And ((@HAppend.hAppend _ _ _ _ (@HAppend.hAppend _ _ _ _ [] [e5, e20]) []) = [(int e7), e20]) (e7 ≤ (5 : Int)))); let e22 := (e19 + ((@valT e7 hn hd)).length); let e23 := (int (14 : Int)); let e24 := (@isSo (@And ((@HAppend.hAppend _ _ _ _ (@HAppend.hAppend _ _ _ _ [] [e23, e3]) []) = [e23, e3]) True)); let e25 := ((((((0 + 1) + 1) + 1) + 1) + 1) + 1); let e26 := ((((((e25 + 1) + 1) + 1) + 1) + 1) + 1); let e27 := ((((((e26 + 1) + 1) + 1) + 1) + 1) + 1); let e28 := (int (0 : Int)); let e29 := (@Value.int IntKind.i64 (0 : Int)); let e30 := (@Array.toList _ (@Array.mk _ [e29, e2, e29])); let e31 := (@List.map _ _ AV.lit (@Array.toList _ (@Array.mk _ [(@List.get _ e30 (@Fin.mk _ 0 (@Nat.le_of_ble_eq_true _ _ (@Eq.refl _ true)))), (@List.get _ e30 (@Fin.mk _ 1 (@Nat.le_of_ble_eq_true _ _ (@Eq.refl _ true)))), (@List.get _ e30 (@Fin.mk _ 2 (@Nat.le_of_ble_eq_true _ _ (@Eq.refl _ true))))]))); let e32 := (e1 :: e3 :: e28 :: (@List.drop _ (0 + ([e1, e3, e28]).length) e31)); let e33 := (@Value.tuple (@Array.mk _ [])); let e34 := (e4 :: e3 :: e28 :: (@List.drop _ (0 + ([e4, e3, e28]).length) e31)); let e35 := (fun y0 => (fun y1 => (@getA (@List.take _ 3 e34) ((y0 * 3) + y1)))); let e36 := (e5 :: e11 :: e28 :: (@List.drop _ (0 + ([e5, e11, e28]).length) e31)); let e37 := (@appc (e9 + 1) (@appc e9 (@appc (e8 + 1) (@appc e8 (@appc 1 (fun y0 => (fun y1 => (@getA e32 ((y0 * 3) + y1)))) (fun y0 => (fun y1 => (@AV.lit ([(@Value.int IntKind.i64 (((@valT e7 ln ld).getD y0 tok0)).kind), (@Value.string (((@valT e7 ln ld).getD y0 tok0)).text), (@Value.int IntKind.i64 (((@valT e7 ln ld).getD y0 tok0)).n)].getD y1 e33))))) e35) (fun y0 => (fun y1 => (@AV.lit ([(@Value.int IntKind.i64 (((@opT lo).getD y0 tok0)).kind), (@Value.string (((@opT lo).getD y0 tok0)).text), (@Value.int IntKind.i64 (((@opT lo).getD y0 tok0)).n)].getD y1 e33))))) e35) (fun y0 => (fun y1 => (@getA (@List.take _ 3 e36) ((y0 * 3) + y1))))); let e38 := (fun y0 => (fun y1 => (@AV.lit ([(@Value.int IntKind.i64 (((@opT ho).getD y0 tok0)).kind), (@Value.string (((@opT ho).getD y0 tok0)).text), (@Value.int IntKind.i64 (((@opT ho).getD y0 tok0)).n)].getD y1 e33)))); let e39 := (fun y0 => (fun y1 => (@AV.lit ([(@Value.int IntKind.i64 (((@valT e7 hn hd).getD y0 tok0)).kind), (@Value.string (((@valT e7 hn hd).getD y0 tok0)).text), (@Value.int IntKind.i64 (((@valT e7 hn hd).getD y0 tok0)).n)].getD y1 e33)))); let e40 := (e23 :: e3 :: e28 :: (@List.drop _ (0 + ([e23, e3, e28]).length) e31)); let e41 := (fun y0 => (fun y1 => (@getA (@List.take _ 3 e40) ((y0 * 3) + y1)))); let e42 := (some (@Blk.mk e40 40 none)); let e43 := (some (@Blk.mk e34 40 none)); let e44 := (some (@Blk.mk e36 40 none)); let e45 := (some (@Blk.mk (e4 :: e3 :: e28 :: (@List.drop _ (0 + ([e4, e3, e28]).length) [e28, e3, e28])) 40 none)); let e46 := (some (@Blk.mk [(int (4 : Int)), e28, e5, (int lo), (int ln), (int ld), (int ho), (int hn), (int hd)] 45 none)); let e47 := (3 + ((@opT ho)).length); let e48 := (e47 + 1); let e49 := (e48 + ((@valT e7 hn hd)).length); (.need (@isSo (@And ((@HAppend.hAppend _ _ _ _ (@HAppend.hAppend _ _ _ _ [] [e1, e3]) []) = [e1, e3]) True)) (.need (@isSo (@And ((@HAppend.hAppend _ _ _ _ (@HAppend.hAppend _ _ _ _ [] [e4, e3]) []) = [e4, e3]) True)) (.fork (!(leI lo (0 : Int))) (.need (@isSo (@And ((@HAppend.hAppend _ _ _ _ (@HAppend.hAppend _ _ _ _ [] [e5, e6]) []) = [(int e7), e6]) (e7 ≤ (5 : Int)))) (.need (@isSo (@And ((@HAppend.hAppend _ _ _ _ (@HAppend.hAppend _ _ _ _ [] [(int lo)]) []) = [(int lo)]) (@And ((1 : Int) ≤ lo) (lo ≤ (5 : Int))))) (.need (Bool.true && ((@Nat.ble (e8 + 1) (e8 + 1)) && ((@Nat.ble (e9 * 32) 140737488355328) && (@Nat.ble e9 17592186044416)))) (.need (Bool.true && ((@Nat.ble e9 e9) && ((@Nat.ble ((e9 + 1) * 32) 140737488355328) && (@Nat.ble (e9 + 1) 17592186044416)))) (.need e10 (.need e12 (.need (Bool.true && ((@Nat.ble (e9 + 1) (e9 + 1)) && ((@Nat.ble (e13 * 32) 140737488355328) && (@Nat.ble e13 17592186044416)))) (.fork e14 (.need e14 (.need e16 (.need e17 (.need (Bool.true && ((@Nat.ble e15 e15) && ((@Nat.ble (e18 * 32) 140737488355328) && (@Nat.ble e18 17592186044416)))) (.need (Bool.true && ((@Nat.ble e18 e18) && ((@Nat.ble (e19 * 32) 140737488355328) && (@Nat.ble e19 17592186044416)))) (.need e21 (.need (Bool.true && ((@Nat.ble e19 e19) && ((@Nat.ble (e22 * 32) 140737488355328) && (@Nat.ble e22 17592186044416)))) (.need e24 (.need (Bool.true && ((@Nat.ble e22 e22) && ((@Nat.ble ((e22 + 1) * 32) 140737488355328) && (@Nat.ble (e22 + 1) 17592186044416)))) (.leaf ((@AV.own e27 (e22 + 1) 3), (@Mem.mk (e27 + 1) e26 ((some (@Blk.mk [] 40 (some (@Rw.mk (e22 + 1) 3 (@appc e22 (@appc e19 (@appc e18 (@appc e15 (@appc e13 e37 e35) e38) e35) e39) e41))))) :: (e42 :: none :: (none :: (e43 :: none :: (none :: (e43 :: none :: (e44 :: none :: (e43 :: none :: (none :: (e43 :: none :: [e45, none, e46])))))))))))))))))))))) (.need (!e14) (.need e24 (.need e16 (.leaf ((@AV.own e26 e15 3), (@Mem.mk (e26 + 1) ((e25 + 1) + 1) ((some (@Blk.mk [] 40 (some (@Rw.mk e15 3 (@appc e13 e37 e41))))) :: (e42 :: none :: (e44 :: none :: (e43 :: none :: (none :: (e43 :: none :: [e45, none, e46])))))))))))))))))))) (.need e10 (.need e12 (.fork e14 (.need e14 (.need e17 (.need (Bool.true && ((@Nat.ble 3 (2 + 1)) && ((@Nat.ble (e47 * 32) 140737488355328) && (@Nat.ble e47 17592186044416)))) (.need (Bool.true && ((@Nat.ble e47 e47) && ((@Nat.ble (e48 * 32) 140737488355328) && (@Nat.ble e48 17592186044416)))) (.need e21 (.need (Bool.true && ((@Nat.ble e48 e48) && ((@Nat.ble (e49 * 32) 140737488355328) && (@Nat.ble e49 17592186044416)))) (.need e24 (.need (Bool.true && ((@Nat.ble e49 e49) && ((@Nat.ble ((e49 + 1) * 32) 140737488355328) && (@Nat.ble (e49 + 1) 17592186044416)))) (.leaf ((@AV.own e26 (e49 + 1) 3), (@Mem.mk (e26 + 1) (e25 + 1) ((some (@Blk.mk [] 40 (some (@Rw.mk (e49 + 1) 3 (@appc e49 (@appc e48 (@appc e47 (@appc 3 (fun y0 => (fun y1 => (@getA (e1 :: e3 :: e28 :: (e5 :: e11 :: e28 :: (@List.take _ 3 e34))) ((y0 * 3) + y1)))) e38) e35) e39) e41))))) :: (e42 :: none :: (none :: (e43 :: none :: (none :: (e43 :: none :: e44 :: [e45, (some (@Blk.mk e32 40 none)), e46]))))))))))))))))) (.need (!e14) (.need e24 (.leaf ((@AV.sl e25 0 3 none 3), (@Mem.mk (e25 + 1) ((0 + 1) + 1) ((some (@Blk.mk (@HAppend.hAppend _ _ _ _ (@List.take _ 6 (e1 :: e3 :: e28 :: (@List.take _ 3 e36))) (@List.take _ 3 e40)) 40 none)) :: (e42 :: none :: e44 :: [e45, (some (@Blk.mk e32 40 none)), e46])))))))))))))) (by kernel_rfl) (by
    have v1 := valT_len (Int.ofNat 1) ln ld
    have v2 := valT_len (Int.ofNat 1) hn hd
    have o1 := opT_len lo
    have o2 := opT_len ho
    cases cl : leI lo 0 with
    | false =>
      have hlo : 1 ≤ lo := by rw [leI_f] at cl; omega
      have hlo5 : lo ≤ 5 := hl (by omega)
      have el : loT ⟨4, 0, 1, lo, ln, ld, ho, hn, hd⟩ = valT 1 ln ld ++ ([spT] ++ (opT lo ++ [spT])) := by unfold loT; rw [if_neg (by rw [cl]; simp)]
      cases ch : leI ho 0 with
      | false =>
        have hho : 1 ≤ ho := by rw [leI_f] at ch; omega
        have hho5 : ho ≤ 5 := (hh (by omega)).2
        have eh : hiT ⟨4, 0, 1, lo, ln, ld, ho, hn, hd⟩ = [spT] ++ (opT ho ++ ([spT] ++ valT 1 hn hd)) := by unfold hiT; rw [if_neg (by show ¬ ho = 0; omega), if_neg (by show ¬ (1 : Int) = 6; decide)]
        (repeat' (first
          | (refine need_so ?_ ?_; (focus (first | exact ⟨rfl, trivial⟩ | exact ⟨rfl, hlo, hlo5⟩ | exact ⟨rfl, hho, hho5⟩ | exact ⟨rfl, Int.le_of_lt_add_one (by decide)⟩)))
          | (refine need_t ?_ ?_; (focus (first | assumption | (simp only [*, Bool.not_true, Bool.not_false]; done) | (simp only [Bool.true_and, Bool.and_eq_true, Nat.ble_eq]; omega))))
          | (refine fork_t ?_ ?_; (focus (simp only [*, Bool.not_true, Bool.not_false]; done)))
          | (refine fork_f ?_ ?_; (focus (simp only [*, Bool.not_true, Bool.not_false]; done)))))
        exact tview_frz 0 _ (Nat.zero_le _) rfl (CellIs.cast (CellIs.app ((CellIs.app2 ((CellIs.app ((CellIs.app2 ((CellIs.app ((CellIs.app ((CellIs.app ((CellIs.app2 ((CellIs.app ((CellIs.app2 ((show CellIs 1 _ [opnT] from ⟨rfl, (fun i j hi hj => by
        rcases i with _ | i
        · rcases j with _ | _ | _ | j
          · exact rfl
          · exact rfl
          · exact rfl
          · omega
        · omega)⟩)) rfl)) (CellIs.one 20 ⟨#[]⟩ 0 (fun j hj => by
              rcases j with _ | _ | _ | j
              · exact rfl
              · exact rfl
              · exact rfl
              · omega)))) rfl)) (CellIs.one 20 ⟨#[]⟩ 0 (fun j hj => by
              rcases j with _ | _ | _ | j
              · exact rfl
              · exact rfl
              · exact rfl
              · omega)))) (CellIs.one 1 _ 0 (fun j hj => by
              rcases j with _ | _ | _ | j
              · exact rfl
              · exact rfl
              · exact rfl
              · omega)))) (CellIs.one 20 ⟨#[]⟩ 0 (fun j hj => by
              rcases j with _ | _ | _ | j
              · exact rfl
              · exact rfl
              · exact rfl
              · omega)))) rfl)) (CellIs.one 20 ⟨#[]⟩ 0 (fun j hj => by
              rcases j with _ | _ | _ | j
              · exact rfl
              · exact rfl
              · exact rfl
              · omega)))) rfl)) (CellIs.one 14 ⟨#[]⟩ 0 (fun j hj => by
              rcases j with _ | _ | _ | j
              · exact rfl
              · exact rfl
              · exact rfl
              · omega))) (by unfold feaT; rw [el, eh]; simp [List.append_assoc]; rfl))
      | true =>
        have eh : hiT ⟨4, 0, 1, lo, ln, ld, ho, hn, hd⟩ = [] := by
          unfold hiT
          rw [leI_t] at ch
          rw [if_pos (show ho = 0 by by_cases e : ho = 0; exact e; exact absurd (hh e).1 (by omega))]
        (repeat' (first
          | (refine need_so ?_ ?_; (focus (first | exact ⟨rfl, trivial⟩ | exact ⟨rfl, hlo, hlo5⟩ | exact ⟨rfl, hho, hho5⟩ | exact ⟨rfl, Int.le_of_lt_add_one (by decide)⟩)))
          | (refine need_t ?_ ?_; (focus (first | assumption | (simp only [*, Bool.not_true, Bool.not_false]; done) | (simp only [Bool.true_and, Bool.and_eq_true, Nat.ble_eq]; omega))))
          | (refine fork_t ?_ ?_; (focus (simp only [*, Bool.not_true, Bool.not_false]; done)))
          | (refine fork_f ?_ ?_; (focus (simp only [*, Bool.not_true, Bool.not_false]; done)))))
        exact tview_frz 0 _ (Nat.zero_le _) rfl (CellIs.cast (CellIs.app ((CellIs.app ((CellIs.app ((CellIs.app2 ((CellIs.app ((CellIs.app2 ((show CellIs 1 _ [opnT] from ⟨rfl, (fun i j hi hj => by
        rcases i with _ | i
        · rcases j with _ | _ | _ | j
          · exact rfl
          · exact rfl
          · exact rfl
          · omega
        · omega)⟩)) rfl)) (CellIs.one 20 ⟨#[]⟩ 0 (fun j hj => by
              rcases j with _ | _ | _ | j
              · exact rfl
              · exact rfl
              · exact rfl
              · omega)))) rfl)) (CellIs.one 20 ⟨#[]⟩ 0 (fun j hj => by
              rcases j with _ | _ | _ | j
              · exact rfl
              · exact rfl
              · exact rfl
              · omega)))) (CellIs.one 1 _ 0 (fun j hj => by
              rcases j with _ | _ | _ | j
              · exact rfl
              · exact rfl
              · exact rfl
              · omega)))) (CellIs.one 14 ⟨#[]⟩ 0 (fun j hj => by
              rcases j with _ | _ | _ | j
              · exact rfl
              · exact rfl
              · exact rfl
              · omega))) (by unfold feaT; rw [el, eh]; simp [List.append_assoc]; rfl))
    | true =>
      have el : loT ⟨4, 0, 1, lo, ln, ld, ho, hn, hd⟩ = [] := by unfold loT; rw [if_pos cl]
      cases ch : leI ho 0 with
      | false =>
        have hho : 1 ≤ ho := by rw [leI_f] at ch; omega
        have hho5 : ho ≤ 5 := (hh (by omega)).2
        have eh : hiT ⟨4, 0, 1, lo, ln, ld, ho, hn, hd⟩ = [spT] ++ (opT ho ++ ([spT] ++ valT 1 hn hd)) := by unfold hiT; rw [if_neg (by show ¬ ho = 0; omega), if_neg (by show ¬ (1 : Int) = 6; decide)]
        (repeat' (first
          | (refine need_so ?_ ?_; (focus (first | exact ⟨rfl, trivial⟩ | exact ⟨rfl, hlo, hlo5⟩ | exact ⟨rfl, hho, hho5⟩ | exact ⟨rfl, Int.le_of_lt_add_one (by decide)⟩)))
          | (refine need_t ?_ ?_; (focus (first | assumption | (simp only [*, Bool.not_true, Bool.not_false]; done) | (simp only [Bool.true_and, Bool.and_eq_true, Nat.ble_eq]; omega))))
          | (refine fork_t ?_ ?_; (focus (simp only [*, Bool.not_true, Bool.not_false]; done)))
          | (refine fork_f ?_ ?_; (focus (simp only [*, Bool.not_true, Bool.not_false]; done)))))
        exact tview_frz 0 _ (Nat.zero_le _) rfl (CellIs.cast (CellIs.app ((CellIs.app2 ((CellIs.app ((CellIs.app2 ((show CellIs 3 _ [opnT, idT ⟨#[119, 105, 100, 116, 104]⟩, spT] from ⟨rfl, (fun i j hi hj => by
        rcases i with _ | _ | _ | i
        · rcases j with _ | _ | _ | j
          · exact rfl
          · exact rfl
          · exact rfl
          · omega
        · rcases j with _ | _ | _ | j
          · exact rfl
          · exact rfl
          · exact rfl
          · omega
        · rcases j with _ | _ | _ | j
          · exact rfl
          · exact rfl
          · exact rfl
          · omega
        · omega)⟩)) rfl)) (CellIs.one 20 ⟨#[]⟩ 0 (fun j hj => by
              rcases j with _ | _ | _ | j
              · exact rfl
              · exact rfl
              · exact rfl
              · omega)))) rfl)) (CellIs.one 14 ⟨#[]⟩ 0 (fun j hj => by
              rcases j with _ | _ | _ | j
              · exact rfl
              · exact rfl
              · exact rfl
              · omega))) (by unfold feaT; rw [el, eh]; simp [List.append_assoc]; rfl))
      | true =>
        have eh : hiT ⟨4, 0, 1, lo, ln, ld, ho, hn, hd⟩ = [] := by
          unfold hiT
          rw [leI_t] at ch
          rw [if_pos (show ho = 0 by by_cases e : ho = 0; exact e; exact absurd (hh e).1 (by omega))]
        (repeat' (first
          | (refine need_so ?_ ?_; (focus (first | exact ⟨rfl, trivial⟩ | exact ⟨rfl, hlo, hlo5⟩ | exact ⟨rfl, hho, hho5⟩ | exact ⟨rfl, Int.le_of_lt_add_one (by decide)⟩)))
          | (refine need_t ?_ ?_; (focus (first | assumption | (simp only [*, Bool.not_true, Bool.not_false]; done) | (simp only [Bool.true_and, Bool.and_eq_true, Nat.ble_eq]; omega))))
          | (refine fork_t ?_ ?_; (focus (simp only [*, Bool.not_true, Bool.not_false]; done)))
          | (refine fork_f ?_ ?_; (focus (simp only [*, Bool.not_true, Bool.not_false]; done)))))
        have e : feaT ⟨4, 0, 1, lo, ln, ld, ho, hn, hd⟩ = [opnT, idT ⟨#[119, 105, 100, 116, 104]⟩, cloT] := by unfold feaT; rw [el, eh]; rfl
        rw [e]
        exact Frz.sl (b := 6) (by decide) rfl (fun i j hi hj => by
          rcases i with _ | _ | _ | i
          · rcases j with _ | _ | _ | j
            · exact ⟨_, rfl, Frz.lit _ _ _ _, rfl⟩
            · exact ⟨_, rfl, Frz.lit _ _ _ _, rfl⟩
            · exact ⟨_, rfl, Frz.lit _ _ _ _, rfl⟩
            · omega
          · rcases j with _ | _ | _ | j
            · exact ⟨_, rfl, Frz.lit _ _ _ _, rfl⟩
            · exact ⟨_, rfl, Frz.lit _ _ _ _, rfl⟩
            · exact ⟨_, rfl, Frz.lit _ _ _ _, rfl⟩
            · omega
          · rcases j with _ | _ | _ | j
            · exact ⟨_, rfl, Frz.lit _ _ _ _, rfl⟩
            · exact ⟨_, rfl, Frz.lit _ _ _ _, rfl⟩
            · exact ⟨_, rfl, Frz.lit _ _ _ _, rfl⟩
            · omega
          · omega))) ⟨⟨trivial, trivial, trivial, trivial, trivial, trivial, trivial, trivial, trivial, trivial⟩, trivial⟩ (kv_free _)
theorem Sy.rfea_2 (lo ln ld ho hn hd : Int) (hl : 0 < lo → lo ≤ 5) (hh : ho ≠ 0 → 1 ≤ ho ∧ ho ≤ 5) : CallTo Try.prog 47 [qa 4 0 2 lo ln ld ho hn hd] M0 fun v _ => v = kv (feaT ⟨4, 0, 2, lo, ln, ld, ho, hn, hd⟩) :=
  CallTo.frz0 (to (G := fun r => Frz true 0 r.2 r.1 (kv (feaT ⟨4, 0, 2, lo, ln, ld, ho, hn, hd⟩))) [cTok, cRop, cRval, cRwd] [] 400 30 (.yes (.yes (.br (.yes (.auto 1 (.yes (.yes (.yes (.yes (.auto 0 (.yes (.yes (.br (.auto 3 (.yes (.yes (.yes (.yes (.yes (.yes (.yes (.yes (.yes .done)))))))))) (.auto 3 (.no (.yes (.yes .done)))))))))))))) (.yes (.auto 0 (.yes (.br (.auto 3 (.yes (.yes (.yes (.yes (.yes (.yes (.yes (.yes .done))))))))) (.auto 3 (.no (.yes .done)))))))))) (let e1 := (int (13 : Int)); let e2 := (@Value.string (@ByteArray.mk (@Array.mk _ []))); let e3 := (@AV.lit e2); let e4 := (int (20 : Int)); let e5 := (@AV.agg [(int lo), (int ln), (int ld)]); let e6 := (Int.ofNat 2); let e7 := (1 + ((@valT e6 ln ld)).length); let e8 := ((e7 + 1) + ((@opT lo)).length); let e9 := (@isSo (@And ((@HAppend.hAppend _ _ _ _ (@HAppend.hAppend _ _ _ _ ([] : List AV) ([] : List AV)) []) = []) True)); let e10 := (int (1 : Int)); let e11 := (@AV.lit (@Value.string (@ByteArray.mk (@Array.mk _ [(104 : UInt8), (101 : UInt8), (105 : UInt8), (103 : UInt8), (104 : UInt8), (116 : UInt8)])))); let e12 := (@isSo (@And ((@HAppend.hAppend _ _ _ _ (@HAppend.hAppend _ _ _ _ [] [e10, e11]) []) = [e10, e11]) True)); let e13 := ((e8 + 1) + 1); let e14 := (!(leI ho (0 : Int))); let e15 := (e13 + 1); let e16 := (Bool.true && ((@Nat.ble e13 e13) && ((@Nat.ble (e15 * 32) 140737488355328) && (@Nat.ble e15 17592186044416)))); let e17 := (@isSo (@And ((@HAppend.hAppend _ _ _ _ (@HAppend.hAppend _ _ _ _ [] [(int ho)]) []) = [(int ho)]) (@And ((1 : Int) ≤ ho) (ho ≤ (5 : Int))))); let e18 := (e15 + ((@opT ho)).length); let e19 := (e18 + 1); let e20 := (@AV.agg [(int ho), (int hn), (int hd)]); let e21 := (@isSo (@And ((@HAppend.hAppend _ _ _ _ (@HAppend.hAppend _ _ _ _ [] [(int (2 : Int)), e20]) []) = [(int e6), e20]) (e6 ≤ (5 : Int)))); let e22 := (e19 + ((@valT e6 hn hd)).length); let e23 := (int (14 : Int)); let e24 := (@isSo (@And ((@HAppend.hAppend _ _ _ _ (@HAppend.hAppend _ _ _ _ [] [e23, e3]) []) = [e23, e3]) True)); let e25 := ((((((0 + 1) + 1) + 1) + 1) + 1) + 1); let e26 := ((((((e25 + 1) + 1) + 1) + 1) + 1) + 1); let e27 := ((((((e26 + 1) + 1) + 1) + 1) + 1) + 1); let e28 := (int (0 : Int)); let e29 := (@Value.int IntKind.i64 (0 : Int)); let e30 := (@Array.toList _ (@Array.mk _ [e29, e2, e29])); let e31 := (@List.map _ _ AV.lit (@Array.toList _ (@Array.mk _ [(@List.get _ e30 (@Fin.mk _ 0 (@Nat.le_of_ble_eq_true _ _ (@Eq.refl _ true)))), (@List.get _ e30 (@Fin.mk _ 1 (@Nat.le_of_ble_eq_true _ _ (@Eq.refl _ true)))), (@List.get _ e30 (@Fin.mk _ 2 (@Nat.le_of_ble_eq_true _ _ (@Eq.refl _ true))))]))); let e32 := (e1 :: e3 :: e28 :: (@List.drop _ (0 + ([e1, e3, e28]).length) e31)); let e33 := (@Value.tuple (@Array.mk _ [])); let e34 := (e4 :: e3 :: e28 :: (@List.drop _ (0 + ([e4, e3, e28]).length) e31)); let e35 := (fun y0 => (fun y1 => (@getA (@List.take _ 3 e34) ((y0 * 3) + y1)))); let e36 := (e10 :: e11 :: e28 :: (@List.drop _ (0 + ([e10, e11, e28]).length) e31)); let e37 := (@appc (e8 + 1) (@appc e8 (@appc (e7 + 1) (@appc e7 (@appc 1 (fun y0 => (fun y1 => (@getA e32 ((y0 * 3) + y1)))) (fun y0 => (fun y1 => (@AV.lit ([(@Value.int IntKind.i64 (((@valT e6 ln ld).getD y0 tok0)).kind), (@Value.string (((@valT e6 ln ld).getD y0 tok0)).text), (@Value.int IntKind.i64 (((@valT e6 ln ld).getD y0 tok0)).n)].getD y1 e33))))) e35) (fun y0 => (fun y1 => (@AV.lit ([(@Value.int IntKind.i64 (((@opT lo).getD y0 tok0)).kind), (@Value.string (((@opT lo).getD y0 tok0)).text), (@Value.int IntKind.i64 (((@opT lo).getD y0 tok0)).n)].getD y1 e33))))) e35) (fun y0 => (fun y1 => (@getA (@List.take _ 3 e36) ((y0 * 3) + y1))))); let e38 := (fun y0 => (fun y1 => (@AV.lit ([(@Value.int IntKind.i64 (((@opT ho).getD y0 tok0)).kind), (@Value.string (((@opT ho).getD y0 tok0)).text), (@Value.int IntKind.i64 (((@opT ho).getD y0 tok0)).n)].getD y1 e33)))); let e39 := (fun y0 => (fun y1 => (@AV.lit ([(@Value.int IntKind.i64 (((@valT e6 hn hd).getD y0 tok0)).kind), (@Value.string (((@valT e6 hn hd).getD y0 tok0)).text), (@Value.int IntKind.i64 (((@valT e6 hn hd).getD y0 tok0)).n)].getD y1 e33)))); let e40 := (e23 :: e3 :: e28 :: (@List.drop _ (0 + ([e23, e3, e28]).length) e31)); let e41 := (fun y0 => (fun y1 => (@getA (@List.take _ 3 e40) ((y0 * 3) + y1)))); let e42 := (some (@Blk.mk e40 40 none)); let e43 := (some (@Blk.mk e34 40 none)); let e44 := (some (@Blk.mk e36 40 none)); let e45 := (some (@Blk.mk (e4 :: e3 :: e28 :: (@List.drop _ (0 + ([e4, e3, e28]).length) [e28, e3, e28])) 40 none)); let e46 := (some (@Blk.mk [(int (4 : Int)), e28, (int (2 : Int)), (int lo), (int ln), (int ld), (int ho), (int hn), (int hd)] 45 none)); let e47 := (3 + ((@opT ho)).length); let e48 := (e47 + 1); let e49 := (e48 + ((@valT e6 hn hd)).length); (.need (@isSo (@And ((@HAppend.hAppend _ _ _ _ (@HAppend.hAppend _ _ _ _ [] [e1, e3]) []) = [e1, e3]) True)) (.need (@isSo (@And ((@HAppend.hAppend _ _ _ _ (@HAppend.hAppend _ _ _ _ [] [e4, e3]) []) = [e4, e3]) True)) (.fork (!(leI lo (0 : Int))) (.need (@isSo (@And ((@HAppend.hAppend _ _ _ _ (@HAppend.hAppend _ _ _ _ [] [(int (2 : Int)), e5]) []) = [(int e6), e5]) (e6 ≤ (5 : Int)))) (.need (@isSo (@And ((@HAppend.hAppend _ _ _ _ (@HAppend.hAppend _ _ _ _ [] [(int lo)]) []) = [(int lo)]) (@And ((1 : Int) ≤ lo) (lo ≤ (5 : Int))))) (.need (Bool.true && ((@Nat.ble (e7 + 1) (e7 + 1)) && ((@Nat.ble (e8 * 32) 140737488355328) && (@Nat.ble e8 17592186044416)))) (.need (Bool.true && ((@Nat.ble e8 e8) && ((@Nat.ble ((e8 + 1) * 32) 140737488355328) && (@Nat.ble (e8 + 1) 17592186044416)))) (.need e9 (.need e12 (.need (Bool.true && ((@Nat.ble (e8 + 1) (e8 + 1)) && ((@Nat.ble (e13 * 32) 140737488355328) && (@Nat.ble e13 17592186044416)))) (.fork e14 (.need e14 (.need e16 (.need e17 (.need (Bool.true && ((@Nat.ble e15 e15) && ((@Nat.ble (e18 * 32) 140737488355328) && (@Nat.ble e18 17592186044416)))) (.need (Bool.true && ((@Nat.ble e18 e18) && ((@Nat.ble (e19 * 32) 140737488355328) && (@Nat.ble e19 17592186044416)))) (.need e21 (.need (Bool.true && ((@Nat.ble e19 e19) && ((@Nat.ble (e22 * 32) 140737488355328) && (@Nat.ble e22 17592186044416)))) (.need e24 (.need (Bool.true && ((@Nat.ble e22 e22) && ((@Nat.ble ((e22 + 1) * 32) 140737488355328) && (@Nat.ble (e22 + 1) 17592186044416)))) (.leaf ((@AV.own e27 (e22 + 1) 3), (@Mem.mk (e27 + 1) e26 ((some (@Blk.mk [] 40 (some (@Rw.mk (e22 + 1) 3 (@appc e22 (@appc e19 (@appc e18 (@appc e15 (@appc e13 e37 e35) e38) e35) e39) e41))))) :: (e42 :: none :: (none :: (e43 :: none :: (none :: (e43 :: none :: (e44 :: none :: (e43 :: none :: (none :: (e43 :: none :: [e45, none, e46])))))))))))))))))))))) (.need (!e14) (.need e24 (.need e16 (.leaf ((@AV.own e26 e15 3), (@Mem.mk (e26 + 1) ((e25 + 1) + 1) ((some (@Blk.mk [] 40 (some (@Rw.mk e15 3 (@appc e13 e37 e41))))) :: (e42 :: none :: (e44 :: none :: (e43 :: none :: (none :: (e43 :: none :: [e45, none, e46])))))))))))))))))))) (.need e9 (.need e12 (.fork e14 (.need e14 (.need e17 (.need (Bool.true && ((@Nat.ble 3 (2 + 1)) && ((@Nat.ble (e47 * 32) 140737488355328) && (@Nat.ble e47 17592186044416)))) (.need (Bool.true && ((@Nat.ble e47 e47) && ((@Nat.ble (e48 * 32) 140737488355328) && (@Nat.ble e48 17592186044416)))) (.need e21 (.need (Bool.true && ((@Nat.ble e48 e48) && ((@Nat.ble (e49 * 32) 140737488355328) && (@Nat.ble e49 17592186044416)))) (.need e24 (.need (Bool.true && ((@Nat.ble e49 e49) && ((@Nat.ble ((e49 + 1) * 32) 140737488355328) && (@Nat.ble (e49 + 1) 17592186044416)))) (.leaf ((@AV.own e26 (e49 + 1) 3), (@Mem.mk (e26 + 1) (e25 + 1) ((some (@Blk.mk [] 40 (some (@Rw.mk (e49 + 1) 3 (@appc e49 (@appc e48 (@appc e47 (@appc 3 (fun y0 => (fun y1 => (@getA (e1 :: e3 :: e28 :: (e10 :: e11 :: e28 :: (@List.take _ 3 e34))) ((y0 * 3) + y1)))) e38) e35) e39) e41))))) :: (e42 :: none :: (none :: (e43 :: none :: (none :: (e43 :: none :: e44 :: [e45, (some (@Blk.mk e32 40 none)), e46]))))))))))))))))) (.need (!e14) (.need e24 (.leaf ((@AV.sl e25 0 3 none 3), (@Mem.mk (e25 + 1) ((0 + 1) + 1) ((some (@Blk.mk (@HAppend.hAppend _ _ _ _ (@List.take _ 6 (e1 :: e3 :: e28 :: (@List.take _ 3 e36))) (@List.take _ 3 e40)) 40 none)) :: (e42 :: none :: e44 :: [e45, (some (@Blk.mk e32 40 none)), e46])))))))))))))) (by kernel_rfl) (by
    have v1 := valT_len (Int.ofNat 2) ln ld
    have v2 := valT_len (Int.ofNat 2) hn hd
    have o1 := opT_len lo
    have o2 := opT_len ho
    cases cl : leI lo 0 with
    | false =>
      have hlo : 1 ≤ lo := by rw [leI_f] at cl; omega
      have hlo5 : lo ≤ 5 := hl (by omega)
      have el : loT ⟨4, 0, 2, lo, ln, ld, ho, hn, hd⟩ = valT 2 ln ld ++ ([spT] ++ (opT lo ++ [spT])) := by unfold loT; rw [if_neg (by rw [cl]; simp)]
      cases ch : leI ho 0 with
      | false =>
        have hho : 1 ≤ ho := by rw [leI_f] at ch; omega
        have hho5 : ho ≤ 5 := (hh (by omega)).2
        have eh : hiT ⟨4, 0, 2, lo, ln, ld, ho, hn, hd⟩ = [spT] ++ (opT ho ++ ([spT] ++ valT 2 hn hd)) := by unfold hiT; rw [if_neg (by show ¬ ho = 0; omega), if_neg (by show ¬ (2 : Int) = 6; decide)]
        (repeat' (first
          | (refine need_so ?_ ?_; (focus (first | exact ⟨rfl, trivial⟩ | exact ⟨rfl, hlo, hlo5⟩ | exact ⟨rfl, hho, hho5⟩ | exact ⟨rfl, Int.le_of_lt_add_one (by decide)⟩)))
          | (refine need_t ?_ ?_; (focus (first | assumption | (simp only [*, Bool.not_true, Bool.not_false]; done) | (simp only [Bool.true_and, Bool.and_eq_true, Nat.ble_eq]; omega))))
          | (refine fork_t ?_ ?_; (focus (simp only [*, Bool.not_true, Bool.not_false]; done)))
          | (refine fork_f ?_ ?_; (focus (simp only [*, Bool.not_true, Bool.not_false]; done)))))
        exact tview_frz 0 _ (Nat.zero_le _) rfl (CellIs.cast (CellIs.app ((CellIs.app2 ((CellIs.app ((CellIs.app2 ((CellIs.app ((CellIs.app ((CellIs.app ((CellIs.app2 ((CellIs.app ((CellIs.app2 ((show CellIs 1 _ [opnT] from ⟨rfl, (fun i j hi hj => by
        rcases i with _ | i
        · rcases j with _ | _ | _ | j
          · exact rfl
          · exact rfl
          · exact rfl
          · omega
        · omega)⟩)) rfl)) (CellIs.one 20 ⟨#[]⟩ 0 (fun j hj => by
              rcases j with _ | _ | _ | j
              · exact rfl
              · exact rfl
              · exact rfl
              · omega)))) rfl)) (CellIs.one 20 ⟨#[]⟩ 0 (fun j hj => by
              rcases j with _ | _ | _ | j
              · exact rfl
              · exact rfl
              · exact rfl
              · omega)))) (CellIs.one 1 _ 0 (fun j hj => by
              rcases j with _ | _ | _ | j
              · exact rfl
              · exact rfl
              · exact rfl
              · omega)))) (CellIs.one 20 ⟨#[]⟩ 0 (fun j hj => by
              rcases j with _ | _ | _ | j
              · exact rfl
              · exact rfl
              · exact rfl
              · omega)))) rfl)) (CellIs.one 20 ⟨#[]⟩ 0 (fun j hj => by
              rcases j with _ | _ | _ | j
              · exact rfl
              · exact rfl
              · exact rfl
              · omega)))) rfl)) (CellIs.one 14 ⟨#[]⟩ 0 (fun j hj => by
              rcases j with _ | _ | _ | j
              · exact rfl
              · exact rfl
              · exact rfl
              · omega))) (by unfold feaT; rw [el, eh]; simp [List.append_assoc]; rfl))
      | true =>
        have eh : hiT ⟨4, 0, 2, lo, ln, ld, ho, hn, hd⟩ = [] := by
          unfold hiT
          rw [leI_t] at ch
          rw [if_pos (show ho = 0 by by_cases e : ho = 0; exact e; exact absurd (hh e).1 (by omega))]
        (repeat' (first
          | (refine need_so ?_ ?_; (focus (first | exact ⟨rfl, trivial⟩ | exact ⟨rfl, hlo, hlo5⟩ | exact ⟨rfl, hho, hho5⟩ | exact ⟨rfl, Int.le_of_lt_add_one (by decide)⟩)))
          | (refine need_t ?_ ?_; (focus (first | assumption | (simp only [*, Bool.not_true, Bool.not_false]; done) | (simp only [Bool.true_and, Bool.and_eq_true, Nat.ble_eq]; omega))))
          | (refine fork_t ?_ ?_; (focus (simp only [*, Bool.not_true, Bool.not_false]; done)))
          | (refine fork_f ?_ ?_; (focus (simp only [*, Bool.not_true, Bool.not_false]; done)))))
        exact tview_frz 0 _ (Nat.zero_le _) rfl (CellIs.cast (CellIs.app ((CellIs.app ((CellIs.app ((CellIs.app2 ((CellIs.app ((CellIs.app2 ((show CellIs 1 _ [opnT] from ⟨rfl, (fun i j hi hj => by
        rcases i with _ | i
        · rcases j with _ | _ | _ | j
          · exact rfl
          · exact rfl
          · exact rfl
          · omega
        · omega)⟩)) rfl)) (CellIs.one 20 ⟨#[]⟩ 0 (fun j hj => by
              rcases j with _ | _ | _ | j
              · exact rfl
              · exact rfl
              · exact rfl
              · omega)))) rfl)) (CellIs.one 20 ⟨#[]⟩ 0 (fun j hj => by
              rcases j with _ | _ | _ | j
              · exact rfl
              · exact rfl
              · exact rfl
              · omega)))) (CellIs.one 1 _ 0 (fun j hj => by
              rcases j with _ | _ | _ | j
              · exact rfl
              · exact rfl
              · exact rfl
              · omega)))) (CellIs.one 14 ⟨#[]⟩ 0 (fun j hj => by
              rcases j with _ | _ | _ | j
              · exact rfl
              · exact rfl
              · exact rfl
              · omega))) (by unfold feaT; rw [el, eh]; simp [List.append_assoc]; rfl))
    | true =>
      have el : loT ⟨4, 0, 2, lo, ln, ld, ho, hn, hd⟩ = [] := by unfold loT; rw [if_pos cl]
      cases ch : leI ho 0 with
      | false =>
        have hho : 1 ≤ ho := by rw [leI_f] at ch; omega
        have hho5 : ho ≤ 5 := (hh (by omega)).2
        have eh : hiT ⟨4, 0, 2, lo, ln, ld, ho, hn, hd⟩ = [spT] ++ (opT ho ++ ([spT] ++ valT 2 hn hd)) := by unfold hiT; rw [if_neg (by show ¬ ho = 0; omega), if_neg (by show ¬ (2 : Int) = 6; decide)]
        (repeat' (first
          | (refine need_so ?_ ?_; (focus (first | exact ⟨rfl, trivial⟩ | exact ⟨rfl, hlo, hlo5⟩ | exact ⟨rfl, hho, hho5⟩ | exact ⟨rfl, Int.le_of_lt_add_one (by decide)⟩)))
          | (refine need_t ?_ ?_; (focus (first | assumption | (simp only [*, Bool.not_true, Bool.not_false]; done) | (simp only [Bool.true_and, Bool.and_eq_true, Nat.ble_eq]; omega))))
          | (refine fork_t ?_ ?_; (focus (simp only [*, Bool.not_true, Bool.not_false]; done)))
          | (refine fork_f ?_ ?_; (focus (simp only [*, Bool.not_true, Bool.not_false]; done)))))
        exact tview_frz 0 _ (Nat.zero_le _) rfl (CellIs.cast (CellIs.app ((CellIs.app2 ((CellIs.app ((CellIs.app2 ((show CellIs 3 _ [opnT, idT ⟨#[104, 101, 105, 103, 104, 116]⟩, spT] from ⟨rfl, (fun i j hi hj => by
        rcases i with _ | _ | _ | i
        · rcases j with _ | _ | _ | j
          · exact rfl
          · exact rfl
          · exact rfl
          · omega
        · rcases j with _ | _ | _ | j
          · exact rfl
          · exact rfl
          · exact rfl
          · omega
        · rcases j with _ | _ | _ | j
          · exact rfl
          · exact rfl
          · exact rfl
          · omega
        · omega)⟩)) rfl)) (CellIs.one 20 ⟨#[]⟩ 0 (fun j hj => by
              rcases j with _ | _ | _ | j
              · exact rfl
              · exact rfl
              · exact rfl
              · omega)))) rfl)) (CellIs.one 14 ⟨#[]⟩ 0 (fun j hj => by
              rcases j with _ | _ | _ | j
              · exact rfl
              · exact rfl
              · exact rfl
              · omega))) (by unfold feaT; rw [el, eh]; simp [List.append_assoc]; rfl))
      | true =>
        have eh : hiT ⟨4, 0, 2, lo, ln, ld, ho, hn, hd⟩ = [] := by
          unfold hiT
          rw [leI_t] at ch
          rw [if_pos (show ho = 0 by by_cases e : ho = 0; exact e; exact absurd (hh e).1 (by omega))]
        (repeat' (first
          | (refine need_so ?_ ?_; (focus (first | exact ⟨rfl, trivial⟩ | exact ⟨rfl, hlo, hlo5⟩ | exact ⟨rfl, hho, hho5⟩ | exact ⟨rfl, Int.le_of_lt_add_one (by decide)⟩)))
          | (refine need_t ?_ ?_; (focus (first | assumption | (simp only [*, Bool.not_true, Bool.not_false]; done) | (simp only [Bool.true_and, Bool.and_eq_true, Nat.ble_eq]; omega))))
          | (refine fork_t ?_ ?_; (focus (simp only [*, Bool.not_true, Bool.not_false]; done)))
          | (refine fork_f ?_ ?_; (focus (simp only [*, Bool.not_true, Bool.not_false]; done)))))
        have e : feaT ⟨4, 0, 2, lo, ln, ld, ho, hn, hd⟩ = [opnT, idT ⟨#[104, 101, 105, 103, 104, 116]⟩, cloT] := by unfold feaT; rw [el, eh]; rfl
        rw [e]
        exact Frz.sl (b := 6) (by decide) rfl (fun i j hi hj => by
          rcases i with _ | _ | _ | i
          · rcases j with _ | _ | _ | j
            · exact ⟨_, rfl, Frz.lit _ _ _ _, rfl⟩
            · exact ⟨_, rfl, Frz.lit _ _ _ _, rfl⟩
            · exact ⟨_, rfl, Frz.lit _ _ _ _, rfl⟩
            · omega
          · rcases j with _ | _ | _ | j
            · exact ⟨_, rfl, Frz.lit _ _ _ _, rfl⟩
            · exact ⟨_, rfl, Frz.lit _ _ _ _, rfl⟩
            · exact ⟨_, rfl, Frz.lit _ _ _ _, rfl⟩
            · omega
          · rcases j with _ | _ | _ | j
            · exact ⟨_, rfl, Frz.lit _ _ _ _, rfl⟩
            · exact ⟨_, rfl, Frz.lit _ _ _ _, rfl⟩
            · exact ⟨_, rfl, Frz.lit _ _ _ _, rfl⟩
            · omega
          · omega))) ⟨⟨trivial, trivial, trivial, trivial, trivial, trivial, trivial, trivial, trivial, trivial⟩, trivial⟩ (kv_free _)
theorem Sy.rfea_3 (lo ln ld ho hn hd : Int) (hl : 0 < lo → lo ≤ 5) (hh : ho ≠ 0 → 1 ≤ ho ∧ ho ≤ 5) : CallTo Try.prog 47 [qa 4 0 3 lo ln ld ho hn hd] M0 fun v _ => v = kv (feaT ⟨4, 0, 3, lo, ln, ld, ho, hn, hd⟩) :=
  CallTo.frz0 (to (G := fun r => Frz true 0 r.2 r.1 (kv (feaT ⟨4, 0, 3, lo, ln, ld, ho, hn, hd⟩))) [cTok, cRop, cRval, cRwd] [] 400 30 (.yes (.yes (.br (.yes (.auto 1 (.yes (.yes (.yes (.yes (.auto 0 (.yes (.yes (.br (.auto 3 (.yes (.yes (.yes (.yes (.yes (.yes (.yes (.yes (.yes .done)))))))))) (.auto 3 (.no (.yes (.yes .done)))))))))))))) (.yes (.auto 0 (.yes (.br (.auto 3 (.yes (.yes (.yes (.yes (.yes (.yes (.yes (.yes .done))))))))) (.auto 3 (.no (.yes .done)))))))))) (let e1 := (int (13 : Int)); let e2 := (@Value.string (@ByteArray.mk (@Array.mk _ []))); let e3 := (@AV.lit e2); let e4 := (int (20 : Int)); let e5 := (@AV.agg [(int lo), (int ln), (int ld)]); let e6 := (Int.ofNat 3); let e7 := (1 + ((@valT e6 ln ld)).length); let e8 := ((e7 + 1) + ((@opT lo)).length); let e9 := (@isSo (@And ((@HAppend.hAppend _ _ _ _ (@HAppend.hAppend _ _ _ _ ([] : List AV) ([] : List AV)) []) = []) True)); let e10 := (int (1 : Int)); let e11 := (@AV.lit (@Value.string (@ByteArray.mk (@Array.mk _ [(105 : UInt8), (110 : UInt8), (108 : UInt8), (105 : UInt8), (110 : UInt8), (101 : UInt8), (45 : UInt8), (115 : UInt8), (105 : UInt8), (122 : UInt8), (101 : UInt8)])))); let e12 := (@isSo (@And ((@HAppend.hAppend _ _ _ _ (@HAppend.hAppend _ _ _ _ [] [e10, e11]) []) = [e10, e11]) True)); let e13 := ((e8 + 1) + 1); let e14 := (!(leI ho (0 : Int))); let e15 := (e13 + 1); let e16 := (Bool.true && ((@Nat.ble e13 e13) && ((@Nat.ble (e15 * 32) 140737488355328) && (@Nat.ble e15 17592186044416)))); let e17 := (@isSo (@And ((@HAppend.hAppend _ _ _ _ (@HAppend.hAppend _ _ _ _ [] [(int ho)]) []) = [(int ho)]) (@And ((1 : Int) ≤ ho) (ho ≤ (5 : Int))))); let e18 := (e15 + ((@opT ho)).length); let e19 := (e18 + 1); let e20 := (@AV.agg [(int ho), (int hn), (int hd)]); let e21 := (@isSo (@And ((@HAppend.hAppend _ _ _ _ (@HAppend.hAppend _ _ _ _ [] [(int (3 : Int)), e20]) []) = [(int e6), e20]) (e6 ≤ (5 : Int)))); let e22 := (e19 + ((@valT e6 hn hd)).length); let e23 := (int (14 : Int)); let e24 := (@isSo (@And ((@HAppend.hAppend _ _ _ _ (@HAppend.hAppend _ _ _ _ [] [e23, e3]) []) = [e23, e3]) True)); let e25 := ((((((0 + 1) + 1) + 1) + 1) + 1) + 1); let e26 := ((((((e25 + 1) + 1) + 1) + 1) + 1) + 1); let e27 := ((((((e26 + 1) + 1) + 1) + 1) + 1) + 1); let e28 := (int (0 : Int)); let e29 := (@Value.int IntKind.i64 (0 : Int)); let e30 := (@Array.toList _ (@Array.mk _ [e29, e2, e29])); let e31 := (@List.map _ _ AV.lit (@Array.toList _ (@Array.mk _ [(@List.get _ e30 (@Fin.mk _ 0 (@Nat.le_of_ble_eq_true _ _ (@Eq.refl _ true)))), (@List.get _ e30 (@Fin.mk _ 1 (@Nat.le_of_ble_eq_true _ _ (@Eq.refl _ true)))), (@List.get _ e30 (@Fin.mk _ 2 (@Nat.le_of_ble_eq_true _ _ (@Eq.refl _ true))))]))); let e32 := (e1 :: e3 :: e28 :: (@List.drop _ (0 + ([e1, e3, e28]).length) e31)); let e33 := (@Value.tuple (@Array.mk _ [])); let e34 := (e4 :: e3 :: e28 :: (@List.drop _ (0 + ([e4, e3, e28]).length) e31)); let e35 := (fun y0 => (fun y1 => (@getA (@List.take _ 3 e34) ((y0 * 3) + y1)))); let e36 := (e10 :: e11 :: e28 :: (@List.drop _ (0 + ([e10, e11, e28]).length) e31)); let e37 := (@appc (e8 + 1) (@appc e8 (@appc (e7 + 1) (@appc e7 (@appc 1 (fun y0 => (fun y1 => (@getA e32 ((y0 * 3) + y1)))) (fun y0 => (fun y1 => (@AV.lit ([(@Value.int IntKind.i64 (((@valT e6 ln ld).getD y0 tok0)).kind), (@Value.string (((@valT e6 ln ld).getD y0 tok0)).text), (@Value.int IntKind.i64 (((@valT e6 ln ld).getD y0 tok0)).n)].getD y1 e33))))) e35) (fun y0 => (fun y1 => (@AV.lit ([(@Value.int IntKind.i64 (((@opT lo).getD y0 tok0)).kind), (@Value.string (((@opT lo).getD y0 tok0)).text), (@Value.int IntKind.i64 (((@opT lo).getD y0 tok0)).n)].getD y1 e33))))) e35) (fun y0 => (fun y1 => (@getA (@List.take _ 3 e36) ((y0 * 3) + y1))))); let e38 := (fun y0 => (fun y1 => (@AV.lit ([(@Value.int IntKind.i64 (((@opT ho).getD y0 tok0)).kind), (@Value.string (((@opT ho).getD y0 tok0)).text), (@Value.int IntKind.i64 (((@opT ho).getD y0 tok0)).n)].getD y1 e33)))); let e39 := (fun y0 => (fun y1 => (@AV.lit ([(@Value.int IntKind.i64 (((@valT e6 hn hd).getD y0 tok0)).kind), (@Value.string (((@valT e6 hn hd).getD y0 tok0)).text), (@Value.int IntKind.i64 (((@valT e6 hn hd).getD y0 tok0)).n)].getD y1 e33)))); let e40 := (e23 :: e3 :: e28 :: (@List.drop _ (0 + ([e23, e3, e28]).length) e31)); let e41 := (fun y0 => (fun y1 => (@getA (@List.take _ 3 e40) ((y0 * 3) + y1)))); let e42 := (some (@Blk.mk e40 40 none)); let e43 := (some (@Blk.mk e34 40 none)); let e44 := (some (@Blk.mk e36 40 none)); let e45 := (some (@Blk.mk (e4 :: e3 :: e28 :: (@List.drop _ (0 + ([e4, e3, e28]).length) [e28, e3, e28])) 40 none)); let e46 := (some (@Blk.mk [(int (4 : Int)), e28, (int (3 : Int)), (int lo), (int ln), (int ld), (int ho), (int hn), (int hd)] 45 none)); let e47 := (3 + ((@opT ho)).length); let e48 := (e47 + 1); let e49 := (e48 + ((@valT e6 hn hd)).length); (.need (@isSo (@And ((@HAppend.hAppend _ _ _ _ (@HAppend.hAppend _ _ _ _ [] [e1, e3]) []) = [e1, e3]) True)) (.need (@isSo (@And ((@HAppend.hAppend _ _ _ _ (@HAppend.hAppend _ _ _ _ [] [e4, e3]) []) = [e4, e3]) True)) (.fork (!(leI lo (0 : Int))) (.need (@isSo (@And ((@HAppend.hAppend _ _ _ _ (@HAppend.hAppend _ _ _ _ [] [(int (3 : Int)), e5]) []) = [(int e6), e5]) (e6 ≤ (5 : Int)))) (.need (@isSo (@And ((@HAppend.hAppend _ _ _ _ (@HAppend.hAppend _ _ _ _ [] [(int lo)]) []) = [(int lo)]) (@And ((1 : Int) ≤ lo) (lo ≤ (5 : Int))))) (.need (Bool.true && ((@Nat.ble (e7 + 1) (e7 + 1)) && ((@Nat.ble (e8 * 32) 140737488355328) && (@Nat.ble e8 17592186044416)))) (.need (Bool.true && ((@Nat.ble e8 e8) && ((@Nat.ble ((e8 + 1) * 32) 140737488355328) && (@Nat.ble (e8 + 1) 17592186044416)))) (.need e9 (.need e12 (.need (Bool.true && ((@Nat.ble (e8 + 1) (e8 + 1)) && ((@Nat.ble (e13 * 32) 140737488355328) && (@Nat.ble e13 17592186044416)))) (.fork e14 (.need e14 (.need e16 (.need e17 (.need (Bool.true && ((@Nat.ble e15 e15) && ((@Nat.ble (e18 * 32) 140737488355328) && (@Nat.ble e18 17592186044416)))) (.need (Bool.true && ((@Nat.ble e18 e18) && ((@Nat.ble (e19 * 32) 140737488355328) && (@Nat.ble e19 17592186044416)))) (.need e21 (.need (Bool.true && ((@Nat.ble e19 e19) && ((@Nat.ble (e22 * 32) 140737488355328) && (@Nat.ble e22 17592186044416)))) (.need e24 (.need (Bool.true && ((@Nat.ble e22 e22) && ((@Nat.ble ((e22 + 1) * 32) 140737488355328) && (@Nat.ble (e22 + 1) 17592186044416)))) (.leaf ((@AV.own e27 (e22 + 1) 3), (@Mem.mk (e27 + 1) e26 ((some (@Blk.mk [] 40 (some (@Rw.mk (e22 + 1) 3 (@appc e22 (@appc e19 (@appc e18 (@appc e15 (@appc e13 e37 e35) e38) e35) e39) e41))))) :: (e42 :: none :: (none :: (e43 :: none :: (none :: (e43 :: none :: (e44 :: none :: (e43 :: none :: (none :: (e43 :: none :: [e45, none, e46])))))))))))))))))))))) (.need (!e14) (.need e24 (.need e16 (.leaf ((@AV.own e26 e15 3), (@Mem.mk (e26 + 1) ((e25 + 1) + 1) ((some (@Blk.mk [] 40 (some (@Rw.mk e15 3 (@appc e13 e37 e41))))) :: (e42 :: none :: (e44 :: none :: (e43 :: none :: (none :: (e43 :: none :: [e45, none, e46])))))))))))))))))))) (.need e9 (.need e12 (.fork e14 (.need e14 (.need e17 (.need (Bool.true && ((@Nat.ble 3 (2 + 1)) && ((@Nat.ble (e47 * 32) 140737488355328) && (@Nat.ble e47 17592186044416)))) (.need (Bool.true && ((@Nat.ble e47 e47) && ((@Nat.ble (e48 * 32) 140737488355328) && (@Nat.ble e48 17592186044416)))) (.need e21 (.need (Bool.true && ((@Nat.ble e48 e48) && ((@Nat.ble (e49 * 32) 140737488355328) && (@Nat.ble e49 17592186044416)))) (.need e24 (.need (Bool.true && ((@Nat.ble e49 e49) && ((@Nat.ble ((e49 + 1) * 32) 140737488355328) && (@Nat.ble (e49 + 1) 17592186044416)))) (.leaf ((@AV.own e26 (e49 + 1) 3), (@Mem.mk (e26 + 1) (e25 + 1) ((some (@Blk.mk [] 40 (some (@Rw.mk (e49 + 1) 3 (@appc e49 (@appc e48 (@appc e47 (@appc 3 (fun y0 => (fun y1 => (@getA (e1 :: e3 :: e28 :: (e10 :: e11 :: e28 :: (@List.take _ 3 e34))) ((y0 * 3) + y1)))) e38) e35) e39) e41))))) :: (e42 :: none :: (none :: (e43 :: none :: (none :: (e43 :: none :: e44 :: [e45, (some (@Blk.mk e32 40 none)), e46]))))))))))))))))) (.need (!e14) (.need e24 (.leaf ((@AV.sl e25 0 3 none 3), (@Mem.mk (e25 + 1) ((0 + 1) + 1) ((some (@Blk.mk (@HAppend.hAppend _ _ _ _ (@List.take _ 6 (e1 :: e3 :: e28 :: (@List.take _ 3 e36))) (@List.take _ 3 e40)) 40 none)) :: (e42 :: none :: e44 :: [e45, (some (@Blk.mk e32 40 none)), e46])))))))))))))) (by kernel_rfl) (by
    have v1 := valT_len (Int.ofNat 3) ln ld
    have v2 := valT_len (Int.ofNat 3) hn hd
    have o1 := opT_len lo
    have o2 := opT_len ho
    cases cl : leI lo 0 with
    | false =>
      have hlo : 1 ≤ lo := by rw [leI_f] at cl; omega
      have hlo5 : lo ≤ 5 := hl (by omega)
      have el : loT ⟨4, 0, 3, lo, ln, ld, ho, hn, hd⟩ = valT 3 ln ld ++ ([spT] ++ (opT lo ++ [spT])) := by unfold loT; rw [if_neg (by rw [cl]; simp)]
      cases ch : leI ho 0 with
      | false =>
        have hho : 1 ≤ ho := by rw [leI_f] at ch; omega
        have hho5 : ho ≤ 5 := (hh (by omega)).2
        have eh : hiT ⟨4, 0, 3, lo, ln, ld, ho, hn, hd⟩ = [spT] ++ (opT ho ++ ([spT] ++ valT 3 hn hd)) := by unfold hiT; rw [if_neg (by show ¬ ho = 0; omega), if_neg (by show ¬ (3 : Int) = 6; decide)]
        (repeat' (first
          | (refine need_so ?_ ?_; (focus (first | exact ⟨rfl, trivial⟩ | exact ⟨rfl, hlo, hlo5⟩ | exact ⟨rfl, hho, hho5⟩ | exact ⟨rfl, Int.le_of_lt_add_one (by decide)⟩)))
          | (refine need_t ?_ ?_; (focus (first | assumption | (simp only [*, Bool.not_true, Bool.not_false]; done) | (simp only [Bool.true_and, Bool.and_eq_true, Nat.ble_eq]; omega))))
          | (refine fork_t ?_ ?_; (focus (simp only [*, Bool.not_true, Bool.not_false]; done)))
          | (refine fork_f ?_ ?_; (focus (simp only [*, Bool.not_true, Bool.not_false]; done)))))
        exact tview_frz 0 _ (Nat.zero_le _) rfl (CellIs.cast (CellIs.app ((CellIs.app2 ((CellIs.app ((CellIs.app2 ((CellIs.app ((CellIs.app ((CellIs.app ((CellIs.app2 ((CellIs.app ((CellIs.app2 ((show CellIs 1 _ [opnT] from ⟨rfl, (fun i j hi hj => by
        rcases i with _ | i
        · rcases j with _ | _ | _ | j
          · exact rfl
          · exact rfl
          · exact rfl
          · omega
        · omega)⟩)) rfl)) (CellIs.one 20 ⟨#[]⟩ 0 (fun j hj => by
              rcases j with _ | _ | _ | j
              · exact rfl
              · exact rfl
              · exact rfl
              · omega)))) rfl)) (CellIs.one 20 ⟨#[]⟩ 0 (fun j hj => by
              rcases j with _ | _ | _ | j
              · exact rfl
              · exact rfl
              · exact rfl
              · omega)))) (CellIs.one 1 _ 0 (fun j hj => by
              rcases j with _ | _ | _ | j
              · exact rfl
              · exact rfl
              · exact rfl
              · omega)))) (CellIs.one 20 ⟨#[]⟩ 0 (fun j hj => by
              rcases j with _ | _ | _ | j
              · exact rfl
              · exact rfl
              · exact rfl
              · omega)))) rfl)) (CellIs.one 20 ⟨#[]⟩ 0 (fun j hj => by
              rcases j with _ | _ | _ | j
              · exact rfl
              · exact rfl
              · exact rfl
              · omega)))) rfl)) (CellIs.one 14 ⟨#[]⟩ 0 (fun j hj => by
              rcases j with _ | _ | _ | j
              · exact rfl
              · exact rfl
              · exact rfl
              · omega))) (by unfold feaT; rw [el, eh]; simp [List.append_assoc]; rfl))
      | true =>
        have eh : hiT ⟨4, 0, 3, lo, ln, ld, ho, hn, hd⟩ = [] := by
          unfold hiT
          rw [leI_t] at ch
          rw [if_pos (show ho = 0 by by_cases e : ho = 0; exact e; exact absurd (hh e).1 (by omega))]
        (repeat' (first
          | (refine need_so ?_ ?_; (focus (first | exact ⟨rfl, trivial⟩ | exact ⟨rfl, hlo, hlo5⟩ | exact ⟨rfl, hho, hho5⟩ | exact ⟨rfl, Int.le_of_lt_add_one (by decide)⟩)))
          | (refine need_t ?_ ?_; (focus (first | assumption | (simp only [*, Bool.not_true, Bool.not_false]; done) | (simp only [Bool.true_and, Bool.and_eq_true, Nat.ble_eq]; omega))))
          | (refine fork_t ?_ ?_; (focus (simp only [*, Bool.not_true, Bool.not_false]; done)))
          | (refine fork_f ?_ ?_; (focus (simp only [*, Bool.not_true, Bool.not_false]; done)))))
        exact tview_frz 0 _ (Nat.zero_le _) rfl (CellIs.cast (CellIs.app ((CellIs.app ((CellIs.app ((CellIs.app2 ((CellIs.app ((CellIs.app2 ((show CellIs 1 _ [opnT] from ⟨rfl, (fun i j hi hj => by
        rcases i with _ | i
        · rcases j with _ | _ | _ | j
          · exact rfl
          · exact rfl
          · exact rfl
          · omega
        · omega)⟩)) rfl)) (CellIs.one 20 ⟨#[]⟩ 0 (fun j hj => by
              rcases j with _ | _ | _ | j
              · exact rfl
              · exact rfl
              · exact rfl
              · omega)))) rfl)) (CellIs.one 20 ⟨#[]⟩ 0 (fun j hj => by
              rcases j with _ | _ | _ | j
              · exact rfl
              · exact rfl
              · exact rfl
              · omega)))) (CellIs.one 1 _ 0 (fun j hj => by
              rcases j with _ | _ | _ | j
              · exact rfl
              · exact rfl
              · exact rfl
              · omega)))) (CellIs.one 14 ⟨#[]⟩ 0 (fun j hj => by
              rcases j with _ | _ | _ | j
              · exact rfl
              · exact rfl
              · exact rfl
              · omega))) (by unfold feaT; rw [el, eh]; simp [List.append_assoc]; rfl))
    | true =>
      have el : loT ⟨4, 0, 3, lo, ln, ld, ho, hn, hd⟩ = [] := by unfold loT; rw [if_pos cl]
      cases ch : leI ho 0 with
      | false =>
        have hho : 1 ≤ ho := by rw [leI_f] at ch; omega
        have hho5 : ho ≤ 5 := (hh (by omega)).2
        have eh : hiT ⟨4, 0, 3, lo, ln, ld, ho, hn, hd⟩ = [spT] ++ (opT ho ++ ([spT] ++ valT 3 hn hd)) := by unfold hiT; rw [if_neg (by show ¬ ho = 0; omega), if_neg (by show ¬ (3 : Int) = 6; decide)]
        (repeat' (first
          | (refine need_so ?_ ?_; (focus (first | exact ⟨rfl, trivial⟩ | exact ⟨rfl, hlo, hlo5⟩ | exact ⟨rfl, hho, hho5⟩ | exact ⟨rfl, Int.le_of_lt_add_one (by decide)⟩)))
          | (refine need_t ?_ ?_; (focus (first | assumption | (simp only [*, Bool.not_true, Bool.not_false]; done) | (simp only [Bool.true_and, Bool.and_eq_true, Nat.ble_eq]; omega))))
          | (refine fork_t ?_ ?_; (focus (simp only [*, Bool.not_true, Bool.not_false]; done)))
          | (refine fork_f ?_ ?_; (focus (simp only [*, Bool.not_true, Bool.not_false]; done)))))
        exact tview_frz 0 _ (Nat.zero_le _) rfl (CellIs.cast (CellIs.app ((CellIs.app2 ((CellIs.app ((CellIs.app2 ((show CellIs 3 _ [opnT, idT ⟨#[105, 110, 108, 105, 110, 101, 45, 115, 105, 122, 101]⟩, spT] from ⟨rfl, (fun i j hi hj => by
        rcases i with _ | _ | _ | i
        · rcases j with _ | _ | _ | j
          · exact rfl
          · exact rfl
          · exact rfl
          · omega
        · rcases j with _ | _ | _ | j
          · exact rfl
          · exact rfl
          · exact rfl
          · omega
        · rcases j with _ | _ | _ | j
          · exact rfl
          · exact rfl
          · exact rfl
          · omega
        · omega)⟩)) rfl)) (CellIs.one 20 ⟨#[]⟩ 0 (fun j hj => by
              rcases j with _ | _ | _ | j
              · exact rfl
              · exact rfl
              · exact rfl
              · omega)))) rfl)) (CellIs.one 14 ⟨#[]⟩ 0 (fun j hj => by
              rcases j with _ | _ | _ | j
              · exact rfl
              · exact rfl
              · exact rfl
              · omega))) (by unfold feaT; rw [el, eh]; simp [List.append_assoc]; rfl))
      | true =>
        have eh : hiT ⟨4, 0, 3, lo, ln, ld, ho, hn, hd⟩ = [] := by
          unfold hiT
          rw [leI_t] at ch
          rw [if_pos (show ho = 0 by by_cases e : ho = 0; exact e; exact absurd (hh e).1 (by omega))]
        (repeat' (first
          | (refine need_so ?_ ?_; (focus (first | exact ⟨rfl, trivial⟩ | exact ⟨rfl, hlo, hlo5⟩ | exact ⟨rfl, hho, hho5⟩ | exact ⟨rfl, Int.le_of_lt_add_one (by decide)⟩)))
          | (refine need_t ?_ ?_; (focus (first | assumption | (simp only [*, Bool.not_true, Bool.not_false]; done) | (simp only [Bool.true_and, Bool.and_eq_true, Nat.ble_eq]; omega))))
          | (refine fork_t ?_ ?_; (focus (simp only [*, Bool.not_true, Bool.not_false]; done)))
          | (refine fork_f ?_ ?_; (focus (simp only [*, Bool.not_true, Bool.not_false]; done)))))
        have e : feaT ⟨4, 0, 3, lo, ln, ld, ho, hn, hd⟩ = [opnT, idT ⟨#[105, 110, 108, 105, 110, 101, 45, 115, 105, 122, 101]⟩, cloT] := by unfold feaT; rw [el, eh]; rfl
        rw [e]
        exact Frz.sl (b := 6) (by decide) rfl (fun i j hi hj => by
          rcases i with _ | _ | _ | i
          · rcases j with _ | _ | _ | j
            · exact ⟨_, rfl, Frz.lit _ _ _ _, rfl⟩
            · exact ⟨_, rfl, Frz.lit _ _ _ _, rfl⟩
            · exact ⟨_, rfl, Frz.lit _ _ _ _, rfl⟩
            · omega
          · rcases j with _ | _ | _ | j
            · exact ⟨_, rfl, Frz.lit _ _ _ _, rfl⟩
            · exact ⟨_, rfl, Frz.lit _ _ _ _, rfl⟩
            · exact ⟨_, rfl, Frz.lit _ _ _ _, rfl⟩
            · omega
          · rcases j with _ | _ | _ | j
            · exact ⟨_, rfl, Frz.lit _ _ _ _, rfl⟩
            · exact ⟨_, rfl, Frz.lit _ _ _ _, rfl⟩
            · exact ⟨_, rfl, Frz.lit _ _ _ _, rfl⟩
            · omega
          · omega))) ⟨⟨trivial, trivial, trivial, trivial, trivial, trivial, trivial, trivial, trivial, trivial⟩, trivial⟩ (kv_free _)
theorem Sy.rfea_4 (lo ln ld ho hn hd : Int) (hl : 0 < lo → lo ≤ 5) (hh : ho ≠ 0 → 1 ≤ ho ∧ ho ≤ 5) : CallTo Try.prog 47 [qa 4 0 4 lo ln ld ho hn hd] M0 fun v _ => v = kv (feaT ⟨4, 0, 4, lo, ln, ld, ho, hn, hd⟩) :=
  CallTo.frz0 (to (G := fun r => Frz true 0 r.2 r.1 (kv (feaT ⟨4, 0, 4, lo, ln, ld, ho, hn, hd⟩))) [cTok, cRop, cRval, cRwd] [] 400 30 (.yes (.yes (.br (.yes (.auto 1 (.yes (.yes (.yes (.yes (.auto 0 (.yes (.yes (.br (.auto 3 (.yes (.yes (.yes (.yes (.yes (.yes (.yes (.yes (.yes .done)))))))))) (.auto 3 (.no (.yes (.yes .done)))))))))))))) (.yes (.auto 0 (.yes (.br (.auto 3 (.yes (.yes (.yes (.yes (.yes (.yes (.yes (.yes .done))))))))) (.auto 3 (.no (.yes .done)))))))))) (let e1 := (int (13 : Int)); let e2 := (@Value.string (@ByteArray.mk (@Array.mk _ []))); let e3 := (@AV.lit e2); let e4 := (int (20 : Int)); let e5 := (int (4 : Int)); let e6 := (@AV.agg [(int lo), (int ln), (int ld)]); let e7 := (Int.ofNat 4); let e8 := (1 + ((@valT e7 ln ld)).length); let e9 := ((e8 + 1) + ((@opT lo)).length); let e10 := (@isSo (@And ((@HAppend.hAppend _ _ _ _ (@HAppend.hAppend _ _ _ _ ([] : List AV) ([] : List AV)) []) = []) True)); let e11 := (int (1 : Int)); let e12 := (@AV.lit (@Value.string (@ByteArray.mk (@Array.mk _ [(98 : UInt8), (108 : UInt8), (111 : UInt8), (99 : UInt8), (107 : UInt8), (45 : UInt8), (115 : UInt8), (105 : UInt8), (122 : UInt8), (101 : UInt8)])))); let e13 := (@isSo (@And ((@HAppend.hAppend _ _ _ _ (@HAppend.hAppend _ _ _ _ [] [e11, e12]) []) = [e11, e12]) True)); let e14 := ((e9 + 1) + 1); let e15 := (!(leI ho (0 : Int))); let e16 := (e14 + 1); let e17 := (Bool.true && ((@Nat.ble e14 e14) && ((@Nat.ble (e16 * 32) 140737488355328) && (@Nat.ble e16 17592186044416)))); let e18 := (@isSo (@And ((@HAppend.hAppend _ _ _ _ (@HAppend.hAppend _ _ _ _ [] [(int ho)]) []) = [(int ho)]) (@And ((1 : Int) ≤ ho) (ho ≤ (5 : Int))))); let e19 := (e16 + ((@opT ho)).length); let e20 := (e19 + 1); let e21 := (@AV.agg [(int ho), (int hn), (int hd)]); let e22 := (@isSo (@And ((@HAppend.hAppend _ _ _ _ (@HAppend.hAppend _ _ _ _ [] [e5, e21]) []) = [(int e7), e21]) (e7 ≤ (5 : Int)))); let e23 := (e20 + ((@valT e7 hn hd)).length); let e24 := (int (14 : Int)); let e25 := (@isSo (@And ((@HAppend.hAppend _ _ _ _ (@HAppend.hAppend _ _ _ _ [] [e24, e3]) []) = [e24, e3]) True)); let e26 := ((((((0 + 1) + 1) + 1) + 1) + 1) + 1); let e27 := ((((((e26 + 1) + 1) + 1) + 1) + 1) + 1); let e28 := ((((((e27 + 1) + 1) + 1) + 1) + 1) + 1); let e29 := (int (0 : Int)); let e30 := (@Value.int IntKind.i64 (0 : Int)); let e31 := (@Array.toList _ (@Array.mk _ [e30, e2, e30])); let e32 := (@List.map _ _ AV.lit (@Array.toList _ (@Array.mk _ [(@List.get _ e31 (@Fin.mk _ 0 (@Nat.le_of_ble_eq_true _ _ (@Eq.refl _ true)))), (@List.get _ e31 (@Fin.mk _ 1 (@Nat.le_of_ble_eq_true _ _ (@Eq.refl _ true)))), (@List.get _ e31 (@Fin.mk _ 2 (@Nat.le_of_ble_eq_true _ _ (@Eq.refl _ true))))]))); let e33 := (e1 :: e3 :: e29 :: (@List.drop _ (0 + ([e1, e3, e29]).length) e32)); let e34 := (@Value.tuple (@Array.mk _ [])); let e35 := (e4 :: e3 :: e29 :: (@List.drop _ (0 + ([e4, e3, e29]).length) e32)); let e36 := (fun y0 => (fun y1 => (@getA (@List.take _ 3 e35) ((y0 * 3) + y1)))); let e37 := (e11 :: e12 :: e29 :: (@List.drop _ (0 + ([e11, e12, e29]).length) e32)); let e38 := (@appc (e9 + 1) (@appc e9 (@appc (e8 + 1) (@appc e8 (@appc 1 (fun y0 => (fun y1 => (@getA e33 ((y0 * 3) + y1)))) (fun y0 => (fun y1 => (@AV.lit ([(@Value.int IntKind.i64 (((@valT e7 ln ld).getD y0 tok0)).kind), (@Value.string (((@valT e7 ln ld).getD y0 tok0)).text), (@Value.int IntKind.i64 (((@valT e7 ln ld).getD y0 tok0)).n)].getD y1 e34))))) e36) (fun y0 => (fun y1 => (@AV.lit ([(@Value.int IntKind.i64 (((@opT lo).getD y0 tok0)).kind), (@Value.string (((@opT lo).getD y0 tok0)).text), (@Value.int IntKind.i64 (((@opT lo).getD y0 tok0)).n)].getD y1 e34))))) e36) (fun y0 => (fun y1 => (@getA (@List.take _ 3 e37) ((y0 * 3) + y1))))); let e39 := (fun y0 => (fun y1 => (@AV.lit ([(@Value.int IntKind.i64 (((@opT ho).getD y0 tok0)).kind), (@Value.string (((@opT ho).getD y0 tok0)).text), (@Value.int IntKind.i64 (((@opT ho).getD y0 tok0)).n)].getD y1 e34)))); let e40 := (fun y0 => (fun y1 => (@AV.lit ([(@Value.int IntKind.i64 (((@valT e7 hn hd).getD y0 tok0)).kind), (@Value.string (((@valT e7 hn hd).getD y0 tok0)).text), (@Value.int IntKind.i64 (((@valT e7 hn hd).getD y0 tok0)).n)].getD y1 e34)))); let e41 := (e24 :: e3 :: e29 :: (@List.drop _ (0 + ([e24, e3, e29]).length) e32)); let e42 := (fun y0 => (fun y1 => (@getA (@List.take _ 3 e41) ((y0 * 3) + y1)))); let e43 := (some (@Blk.mk e41 40 none)); let e44 := (some (@Blk.mk e35 40 none)); let e45 := (some (@Blk.mk e37 40 none)); let e46 := (some (@Blk.mk (e4 :: e3 :: e29 :: (@List.drop _ (0 + ([e4, e3, e29]).length) [e29, e3, e29])) 40 none)); let e47 := (some (@Blk.mk [e5, e29, e5, (int lo), (int ln), (int ld), (int ho), (int hn), (int hd)] 45 none)); let e48 := (3 + ((@opT ho)).length); let e49 := (e48 + 1); let e50 := (e49 + ((@valT e7 hn hd)).length); (.need (@isSo (@And ((@HAppend.hAppend _ _ _ _ (@HAppend.hAppend _ _ _ _ [] [e1, e3]) []) = [e1, e3]) True)) (.need (@isSo (@And ((@HAppend.hAppend _ _ _ _ (@HAppend.hAppend _ _ _ _ [] [e4, e3]) []) = [e4, e3]) True)) (.fork (!(leI lo (0 : Int))) (.need (@isSo (@And ((@HAppend.hAppend _ _ _ _ (@HAppend.hAppend _ _ _ _ [] [e5, e6]) []) = [(int e7), e6]) (e7 ≤ (5 : Int)))) (.need (@isSo (@And ((@HAppend.hAppend _ _ _ _ (@HAppend.hAppend _ _ _ _ [] [(int lo)]) []) = [(int lo)]) (@And ((1 : Int) ≤ lo) (lo ≤ (5 : Int))))) (.need (Bool.true && ((@Nat.ble (e8 + 1) (e8 + 1)) && ((@Nat.ble (e9 * 32) 140737488355328) && (@Nat.ble e9 17592186044416)))) (.need (Bool.true && ((@Nat.ble e9 e9) && ((@Nat.ble ((e9 + 1) * 32) 140737488355328) && (@Nat.ble (e9 + 1) 17592186044416)))) (.need e10 (.need e13 (.need (Bool.true && ((@Nat.ble (e9 + 1) (e9 + 1)) && ((@Nat.ble (e14 * 32) 140737488355328) && (@Nat.ble e14 17592186044416)))) (.fork e15 (.need e15 (.need e17 (.need e18 (.need (Bool.true && ((@Nat.ble e16 e16) && ((@Nat.ble (e19 * 32) 140737488355328) && (@Nat.ble e19 17592186044416)))) (.need (Bool.true && ((@Nat.ble e19 e19) && ((@Nat.ble (e20 * 32) 140737488355328) && (@Nat.ble e20 17592186044416)))) (.need e22 (.need (Bool.true && ((@Nat.ble e20 e20) && ((@Nat.ble (e23 * 32) 140737488355328) && (@Nat.ble e23 17592186044416)))) (.need e25 (.need (Bool.true && ((@Nat.ble e23 e23) && ((@Nat.ble ((e23 + 1) * 32) 140737488355328) && (@Nat.ble (e23 + 1) 17592186044416)))) (.leaf ((@AV.own e28 (e23 + 1) 3), (@Mem.mk (e28 + 1) e27 ((some (@Blk.mk [] 40 (some (@Rw.mk (e23 + 1) 3 (@appc e23 (@appc e20 (@appc e19 (@appc e16 (@appc e14 e38 e36) e39) e36) e40) e42))))) :: (e43 :: none :: (none :: (e44 :: none :: (none :: (e44 :: none :: (e45 :: none :: (e44 :: none :: (none :: (e44 :: none :: [e46, none, e47])))))))))))))))))))))) (.need (!e15) (.need e25 (.need e17 (.leaf ((@AV.own e27 e16 3), (@Mem.mk (e27 + 1) ((e26 + 1) + 1) ((some (@Blk.mk [] 40 (some (@Rw.mk e16 3 (@appc e14 e38 e42))))) :: (e43 :: none :: (e45 :: none :: (e44 :: none :: (none :: (e44 :: none :: [e46, none, e47])))))))))))))))))))) (.need e10 (.need e13 (.fork e15 (.need e15 (.need e18 (.need (Bool.true && ((@Nat.ble 3 (2 + 1)) && ((@Nat.ble (e48 * 32) 140737488355328) && (@Nat.ble e48 17592186044416)))) (.need (Bool.true && ((@Nat.ble e48 e48) && ((@Nat.ble (e49 * 32) 140737488355328) && (@Nat.ble e49 17592186044416)))) (.need e22 (.need (Bool.true && ((@Nat.ble e49 e49) && ((@Nat.ble (e50 * 32) 140737488355328) && (@Nat.ble e50 17592186044416)))) (.need e25 (.need (Bool.true && ((@Nat.ble e50 e50) && ((@Nat.ble ((e50 + 1) * 32) 140737488355328) && (@Nat.ble (e50 + 1) 17592186044416)))) (.leaf ((@AV.own e27 (e50 + 1) 3), (@Mem.mk (e27 + 1) (e26 + 1) ((some (@Blk.mk [] 40 (some (@Rw.mk (e50 + 1) 3 (@appc e50 (@appc e49 (@appc e48 (@appc 3 (fun y0 => (fun y1 => (@getA (e1 :: e3 :: e29 :: (e11 :: e12 :: e29 :: (@List.take _ 3 e35))) ((y0 * 3) + y1)))) e39) e36) e40) e42))))) :: (e43 :: none :: (none :: (e44 :: none :: (none :: (e44 :: none :: e45 :: [e46, (some (@Blk.mk e33 40 none)), e47]))))))))))))))))) (.need (!e15) (.need e25 (.leaf ((@AV.sl e26 0 3 none 3), (@Mem.mk (e26 + 1) ((0 + 1) + 1) ((some (@Blk.mk (@HAppend.hAppend _ _ _ _ (@List.take _ 6 (e1 :: e3 :: e29 :: (@List.take _ 3 e37))) (@List.take _ 3 e41)) 40 none)) :: (e43 :: none :: e45 :: [e46, (some (@Blk.mk e33 40 none)), e47])))))))))))))) (by kernel_rfl) (by
    have v1 := valT_len (Int.ofNat 4) ln ld
    have v2 := valT_len (Int.ofNat 4) hn hd
    have o1 := opT_len lo
    have o2 := opT_len ho
    cases cl : leI lo 0 with
    | false =>
      have hlo : 1 ≤ lo := by rw [leI_f] at cl; omega
      have hlo5 : lo ≤ 5 := hl (by omega)
      have el : loT ⟨4, 0, 4, lo, ln, ld, ho, hn, hd⟩ = valT 4 ln ld ++ ([spT] ++ (opT lo ++ [spT])) := by unfold loT; rw [if_neg (by rw [cl]; simp)]
      cases ch : leI ho 0 with
      | false =>
        have hho : 1 ≤ ho := by rw [leI_f] at ch; omega
        have hho5 : ho ≤ 5 := (hh (by omega)).2
        have eh : hiT ⟨4, 0, 4, lo, ln, ld, ho, hn, hd⟩ = [spT] ++ (opT ho ++ ([spT] ++ valT 4 hn hd)) := by unfold hiT; rw [if_neg (by show ¬ ho = 0; omega), if_neg (by show ¬ (4 : Int) = 6; decide)]
        (repeat' (first
          | (refine need_so ?_ ?_; (focus (first | exact ⟨rfl, trivial⟩ | exact ⟨rfl, hlo, hlo5⟩ | exact ⟨rfl, hho, hho5⟩ | exact ⟨rfl, Int.le_of_lt_add_one (by decide)⟩)))
          | (refine need_t ?_ ?_; (focus (first | assumption | (simp only [*, Bool.not_true, Bool.not_false]; done) | (simp only [Bool.true_and, Bool.and_eq_true, Nat.ble_eq]; omega))))
          | (refine fork_t ?_ ?_; (focus (simp only [*, Bool.not_true, Bool.not_false]; done)))
          | (refine fork_f ?_ ?_; (focus (simp only [*, Bool.not_true, Bool.not_false]; done)))))
        exact tview_frz 0 _ (Nat.zero_le _) rfl (CellIs.cast (CellIs.app ((CellIs.app2 ((CellIs.app ((CellIs.app2 ((CellIs.app ((CellIs.app ((CellIs.app ((CellIs.app2 ((CellIs.app ((CellIs.app2 ((show CellIs 1 _ [opnT] from ⟨rfl, (fun i j hi hj => by
        rcases i with _ | i
        · rcases j with _ | _ | _ | j
          · exact rfl
          · exact rfl
          · exact rfl
          · omega
        · omega)⟩)) rfl)) (CellIs.one 20 ⟨#[]⟩ 0 (fun j hj => by
              rcases j with _ | _ | _ | j
              · exact rfl
              · exact rfl
              · exact rfl
              · omega)))) rfl)) (CellIs.one 20 ⟨#[]⟩ 0 (fun j hj => by
              rcases j with _ | _ | _ | j
              · exact rfl
              · exact rfl
              · exact rfl
              · omega)))) (CellIs.one 1 _ 0 (fun j hj => by
              rcases j with _ | _ | _ | j
              · exact rfl
              · exact rfl
              · exact rfl
              · omega)))) (CellIs.one 20 ⟨#[]⟩ 0 (fun j hj => by
              rcases j with _ | _ | _ | j
              · exact rfl
              · exact rfl
              · exact rfl
              · omega)))) rfl)) (CellIs.one 20 ⟨#[]⟩ 0 (fun j hj => by
              rcases j with _ | _ | _ | j
              · exact rfl
              · exact rfl
              · exact rfl
              · omega)))) rfl)) (CellIs.one 14 ⟨#[]⟩ 0 (fun j hj => by
              rcases j with _ | _ | _ | j
              · exact rfl
              · exact rfl
              · exact rfl
              · omega))) (by unfold feaT; rw [el, eh]; simp [List.append_assoc]; rfl))
      | true =>
        have eh : hiT ⟨4, 0, 4, lo, ln, ld, ho, hn, hd⟩ = [] := by
          unfold hiT
          rw [leI_t] at ch
          rw [if_pos (show ho = 0 by by_cases e : ho = 0; exact e; exact absurd (hh e).1 (by omega))]
        (repeat' (first
          | (refine need_so ?_ ?_; (focus (first | exact ⟨rfl, trivial⟩ | exact ⟨rfl, hlo, hlo5⟩ | exact ⟨rfl, hho, hho5⟩ | exact ⟨rfl, Int.le_of_lt_add_one (by decide)⟩)))
          | (refine need_t ?_ ?_; (focus (first | assumption | (simp only [*, Bool.not_true, Bool.not_false]; done) | (simp only [Bool.true_and, Bool.and_eq_true, Nat.ble_eq]; omega))))
          | (refine fork_t ?_ ?_; (focus (simp only [*, Bool.not_true, Bool.not_false]; done)))
          | (refine fork_f ?_ ?_; (focus (simp only [*, Bool.not_true, Bool.not_false]; done)))))
        exact tview_frz 0 _ (Nat.zero_le _) rfl (CellIs.cast (CellIs.app ((CellIs.app ((CellIs.app ((CellIs.app2 ((CellIs.app ((CellIs.app2 ((show CellIs 1 _ [opnT] from ⟨rfl, (fun i j hi hj => by
        rcases i with _ | i
        · rcases j with _ | _ | _ | j
          · exact rfl
          · exact rfl
          · exact rfl
          · omega
        · omega)⟩)) rfl)) (CellIs.one 20 ⟨#[]⟩ 0 (fun j hj => by
              rcases j with _ | _ | _ | j
              · exact rfl
              · exact rfl
              · exact rfl
              · omega)))) rfl)) (CellIs.one 20 ⟨#[]⟩ 0 (fun j hj => by
              rcases j with _ | _ | _ | j
              · exact rfl
              · exact rfl
              · exact rfl
              · omega)))) (CellIs.one 1 _ 0 (fun j hj => by
              rcases j with _ | _ | _ | j
              · exact rfl
              · exact rfl
              · exact rfl
              · omega)))) (CellIs.one 14 ⟨#[]⟩ 0 (fun j hj => by
              rcases j with _ | _ | _ | j
              · exact rfl
              · exact rfl
              · exact rfl
              · omega))) (by unfold feaT; rw [el, eh]; simp [List.append_assoc]; rfl))
    | true =>
      have el : loT ⟨4, 0, 4, lo, ln, ld, ho, hn, hd⟩ = [] := by unfold loT; rw [if_pos cl]
      cases ch : leI ho 0 with
      | false =>
        have hho : 1 ≤ ho := by rw [leI_f] at ch; omega
        have hho5 : ho ≤ 5 := (hh (by omega)).2
        have eh : hiT ⟨4, 0, 4, lo, ln, ld, ho, hn, hd⟩ = [spT] ++ (opT ho ++ ([spT] ++ valT 4 hn hd)) := by unfold hiT; rw [if_neg (by show ¬ ho = 0; omega), if_neg (by show ¬ (4 : Int) = 6; decide)]
        (repeat' (first
          | (refine need_so ?_ ?_; (focus (first | exact ⟨rfl, trivial⟩ | exact ⟨rfl, hlo, hlo5⟩ | exact ⟨rfl, hho, hho5⟩ | exact ⟨rfl, Int.le_of_lt_add_one (by decide)⟩)))
          | (refine need_t ?_ ?_; (focus (first | assumption | (simp only [*, Bool.not_true, Bool.not_false]; done) | (simp only [Bool.true_and, Bool.and_eq_true, Nat.ble_eq]; omega))))
          | (refine fork_t ?_ ?_; (focus (simp only [*, Bool.not_true, Bool.not_false]; done)))
          | (refine fork_f ?_ ?_; (focus (simp only [*, Bool.not_true, Bool.not_false]; done)))))
        exact tview_frz 0 _ (Nat.zero_le _) rfl (CellIs.cast (CellIs.app ((CellIs.app2 ((CellIs.app ((CellIs.app2 ((show CellIs 3 _ [opnT, idT ⟨#[98, 108, 111, 99, 107, 45, 115, 105, 122, 101]⟩, spT] from ⟨rfl, (fun i j hi hj => by
        rcases i with _ | _ | _ | i
        · rcases j with _ | _ | _ | j
          · exact rfl
          · exact rfl
          · exact rfl
          · omega
        · rcases j with _ | _ | _ | j
          · exact rfl
          · exact rfl
          · exact rfl
          · omega
        · rcases j with _ | _ | _ | j
          · exact rfl
          · exact rfl
          · exact rfl
          · omega
        · omega)⟩)) rfl)) (CellIs.one 20 ⟨#[]⟩ 0 (fun j hj => by
              rcases j with _ | _ | _ | j
              · exact rfl
              · exact rfl
              · exact rfl
              · omega)))) rfl)) (CellIs.one 14 ⟨#[]⟩ 0 (fun j hj => by
              rcases j with _ | _ | _ | j
              · exact rfl
              · exact rfl
              · exact rfl
              · omega))) (by unfold feaT; rw [el, eh]; simp [List.append_assoc]; rfl))
      | true =>
        have eh : hiT ⟨4, 0, 4, lo, ln, ld, ho, hn, hd⟩ = [] := by
          unfold hiT
          rw [leI_t] at ch
          rw [if_pos (show ho = 0 by by_cases e : ho = 0; exact e; exact absurd (hh e).1 (by omega))]
        (repeat' (first
          | (refine need_so ?_ ?_; (focus (first | exact ⟨rfl, trivial⟩ | exact ⟨rfl, hlo, hlo5⟩ | exact ⟨rfl, hho, hho5⟩ | exact ⟨rfl, Int.le_of_lt_add_one (by decide)⟩)))
          | (refine need_t ?_ ?_; (focus (first | assumption | (simp only [*, Bool.not_true, Bool.not_false]; done) | (simp only [Bool.true_and, Bool.and_eq_true, Nat.ble_eq]; omega))))
          | (refine fork_t ?_ ?_; (focus (simp only [*, Bool.not_true, Bool.not_false]; done)))
          | (refine fork_f ?_ ?_; (focus (simp only [*, Bool.not_true, Bool.not_false]; done)))))
        have e : feaT ⟨4, 0, 4, lo, ln, ld, ho, hn, hd⟩ = [opnT, idT ⟨#[98, 108, 111, 99, 107, 45, 115, 105, 122, 101]⟩, cloT] := by unfold feaT; rw [el, eh]; rfl
        rw [e]
        exact Frz.sl (b := 6) (by decide) rfl (fun i j hi hj => by
          rcases i with _ | _ | _ | i
          · rcases j with _ | _ | _ | j
            · exact ⟨_, rfl, Frz.lit _ _ _ _, rfl⟩
            · exact ⟨_, rfl, Frz.lit _ _ _ _, rfl⟩
            · exact ⟨_, rfl, Frz.lit _ _ _ _, rfl⟩
            · omega
          · rcases j with _ | _ | _ | j
            · exact ⟨_, rfl, Frz.lit _ _ _ _, rfl⟩
            · exact ⟨_, rfl, Frz.lit _ _ _ _, rfl⟩
            · exact ⟨_, rfl, Frz.lit _ _ _ _, rfl⟩
            · omega
          · rcases j with _ | _ | _ | j
            · exact ⟨_, rfl, Frz.lit _ _ _ _, rfl⟩
            · exact ⟨_, rfl, Frz.lit _ _ _ _, rfl⟩
            · exact ⟨_, rfl, Frz.lit _ _ _ _, rfl⟩
            · omega
          · omega))) ⟨⟨trivial, trivial, trivial, trivial, trivial, trivial, trivial, trivial, trivial, trivial⟩, trivial⟩ (kv_free _)
theorem Sy.rfea_5 (lo ln ld ho hn hd : Int) (hl : 0 < lo → lo ≤ 5) (hh : ho ≠ 0 → 1 ≤ ho ∧ ho ≤ 5) : CallTo Try.prog 47 [qa 4 0 5 lo ln ld ho hn hd] M0 fun v _ => v = kv (feaT ⟨4, 0, 5, lo, ln, ld, ho, hn, hd⟩) :=
  CallTo.frz0 (to (G := fun r => Frz true 0 r.2 r.1 (kv (feaT ⟨4, 0, 5, lo, ln, ld, ho, hn, hd⟩))) [cTok, cRop, cRval, cRwd] [] 400 30 (.yes (.yes (.br (.yes (.auto 1 (.yes (.yes (.yes (.yes (.auto 0 (.yes (.yes (.br (.auto 3 (.yes (.yes (.yes (.yes (.yes (.yes (.yes (.yes (.yes .done)))))))))) (.auto 3 (.no (.yes (.yes .done)))))))))))))) (.yes (.auto 0 (.yes (.br (.auto 3 (.yes (.yes (.yes (.yes (.yes (.yes (.yes (.yes .done))))))))) (.auto 3 (.no (.yes .done)))))))))) (let e1 := (int (13 : Int)); let e2 := (@Value.string (@ByteArray.mk (@Array.mk _ []))); let e3 := (@AV.lit e2); let e4 := (int (20 : Int)); let e5 := (@AV.agg [(int lo), (int ln), (int ld)]); let e6 := (Int.ofNat 5); let e7 := (1 + ((@valT e6 ln ld)).length); let e8 := ((e7 + 1) + ((@opT lo)).length); let e9 := (@isSo (@And ((@HAppend.hAppend _ _ _ _ (@HAppend.hAppend _ _ _ _ ([] : List AV) ([] : List AV)) []) = []) True)); let e10 := (int (1 : Int)); let e11 := (@AV.lit (@Value.string (@ByteArray.mk (@Array.mk _ [(97 : UInt8), (115 : UInt8), (112 : UInt8), (101 : UInt8), (99 : UInt8), (116 : UInt8), (45 : UInt8), (114 : UInt8), (97 : UInt8), (116 : UInt8), (105 : UInt8), (111 : UInt8)])))); let e12 := (@isSo (@And ((@HAppend.hAppend _ _ _ _ (@HAppend.hAppend _ _ _ _ [] [e10, e11]) []) = [e10, e11]) True)); let e13 := ((e8 + 1) + 1); let e14 := (!(leI ho (0 : Int))); let e15 := (e13 + 1); let e16 := (Bool.true && ((@Nat.ble e13 e13) && ((@Nat.ble (e15 * 32) 140737488355328) && (@Nat.ble e15 17592186044416)))); let e17 := (@isSo (@And ((@HAppend.hAppend _ _ _ _ (@HAppend.hAppend _ _ _ _ [] [(int ho)]) []) = [(int ho)]) (@And ((1 : Int) ≤ ho) (ho ≤ (5 : Int))))); let e18 := (e15 + ((@opT ho)).length); let e19 := (e18 + 1); let e20 := (@AV.agg [(int ho), (int hn), (int hd)]); let e21 := (@isSo (@And ((@HAppend.hAppend _ _ _ _ (@HAppend.hAppend _ _ _ _ [] [(int (5 : Int)), e20]) []) = [(int e6), e20]) (e6 ≤ (5 : Int)))); let e22 := (e19 + ((@valT e6 hn hd)).length); let e23 := (int (14 : Int)); let e24 := (@isSo (@And ((@HAppend.hAppend _ _ _ _ (@HAppend.hAppend _ _ _ _ [] [e23, e3]) []) = [e23, e3]) True)); let e25 := ((((((0 + 1) + 1) + 1) + 1) + 1) + 1); let e26 := ((((((e25 + 1) + 1) + 1) + 1) + 1) + 1); let e27 := ((((((e26 + 1) + 1) + 1) + 1) + 1) + 1); let e28 := (int (0 : Int)); let e29 := (@Value.int IntKind.i64 (0 : Int)); let e30 := (@Array.toList _ (@Array.mk _ [e29, e2, e29])); let e31 := (@List.map _ _ AV.lit (@Array.toList _ (@Array.mk _ [(@List.get _ e30 (@Fin.mk _ 0 (@Nat.le_of_ble_eq_true _ _ (@Eq.refl _ true)))), (@List.get _ e30 (@Fin.mk _ 1 (@Nat.le_of_ble_eq_true _ _ (@Eq.refl _ true)))), (@List.get _ e30 (@Fin.mk _ 2 (@Nat.le_of_ble_eq_true _ _ (@Eq.refl _ true))))]))); let e32 := (e1 :: e3 :: e28 :: (@List.drop _ (0 + ([e1, e3, e28]).length) e31)); let e33 := (@Value.tuple (@Array.mk _ [])); let e34 := (e4 :: e3 :: e28 :: (@List.drop _ (0 + ([e4, e3, e28]).length) e31)); let e35 := (fun y0 => (fun y1 => (@getA (@List.take _ 3 e34) ((y0 * 3) + y1)))); let e36 := (e10 :: e11 :: e28 :: (@List.drop _ (0 + ([e10, e11, e28]).length) e31)); let e37 := (@appc (e8 + 1) (@appc e8 (@appc (e7 + 1) (@appc e7 (@appc 1 (fun y0 => (fun y1 => (@getA e32 ((y0 * 3) + y1)))) (fun y0 => (fun y1 => (@AV.lit ([(@Value.int IntKind.i64 (((@valT e6 ln ld).getD y0 tok0)).kind), (@Value.string (((@valT e6 ln ld).getD y0 tok0)).text), (@Value.int IntKind.i64 (((@valT e6 ln ld).getD y0 tok0)).n)].getD y1 e33))))) e35) (fun y0 => (fun y1 => (@AV.lit ([(@Value.int IntKind.i64 (((@opT lo).getD y0 tok0)).kind), (@Value.string (((@opT lo).getD y0 tok0)).text), (@Value.int IntKind.i64 (((@opT lo).getD y0 tok0)).n)].getD y1 e33))))) e35) (fun y0 => (fun y1 => (@getA (@List.take _ 3 e36) ((y0 * 3) + y1))))); let e38 := (fun y0 => (fun y1 => (@AV.lit ([(@Value.int IntKind.i64 (((@opT ho).getD y0 tok0)).kind), (@Value.string (((@opT ho).getD y0 tok0)).text), (@Value.int IntKind.i64 (((@opT ho).getD y0 tok0)).n)].getD y1 e33)))); let e39 := (fun y0 => (fun y1 => (@AV.lit ([(@Value.int IntKind.i64 (((@valT e6 hn hd).getD y0 tok0)).kind), (@Value.string (((@valT e6 hn hd).getD y0 tok0)).text), (@Value.int IntKind.i64 (((@valT e6 hn hd).getD y0 tok0)).n)].getD y1 e33)))); let e40 := (e23 :: e3 :: e28 :: (@List.drop _ (0 + ([e23, e3, e28]).length) e31)); let e41 := (fun y0 => (fun y1 => (@getA (@List.take _ 3 e40) ((y0 * 3) + y1)))); let e42 := (some (@Blk.mk e40 40 none)); let e43 := (some (@Blk.mk e34 40 none)); let e44 := (some (@Blk.mk e36 40 none)); let e45 := (some (@Blk.mk (e4 :: e3 :: e28 :: (@List.drop _ (0 + ([e4, e3, e28]).length) [e28, e3, e28])) 40 none)); let e46 := (some (@Blk.mk [(int (4 : Int)), e28, (int (5 : Int)), (int lo), (int ln), (int ld), (int ho), (int hn), (int hd)] 45 none)); let e47 := (3 + ((@opT ho)).length); let e48 := (e47 + 1); let e49 := (e48 + ((@valT e6 hn hd)).length); (.need (@isSo (@And ((@HAppend.hAppend _ _ _ _ (@HAppend.hAppend _ _ _ _ [] [e1, e3]) []) = [e1, e3]) True)) (.need (@isSo (@And ((@HAppend.hAppend _ _ _ _ (@HAppend.hAppend _ _ _ _ [] [e4, e3]) []) = [e4, e3]) True)) (.fork (!(leI lo (0 : Int))) (.need (@isSo (@And ((@HAppend.hAppend _ _ _ _ (@HAppend.hAppend _ _ _ _ [] [(int (5 : Int)), e5]) []) = [(int e6), e5]) (e6 ≤ (5 : Int)))) (.need (@isSo (@And ((@HAppend.hAppend _ _ _ _ (@HAppend.hAppend _ _ _ _ [] [(int lo)]) []) = [(int lo)]) (@And ((1 : Int) ≤ lo) (lo ≤ (5 : Int))))) (.need (Bool.true && ((@Nat.ble (e7 + 1) (e7 + 1)) && ((@Nat.ble (e8 * 32) 140737488355328) && (@Nat.ble e8 17592186044416)))) (.need (Bool.true && ((@Nat.ble e8 e8) && ((@Nat.ble ((e8 + 1) * 32) 140737488355328) && (@Nat.ble (e8 + 1) 17592186044416)))) (.need e9 (.need e12 (.need (Bool.true && ((@Nat.ble (e8 + 1) (e8 + 1)) && ((@Nat.ble (e13 * 32) 140737488355328) && (@Nat.ble e13 17592186044416)))) (.fork e14 (.need e14 (.need e16 (.need e17 (.need (Bool.true && ((@Nat.ble e15 e15) && ((@Nat.ble (e18 * 32) 140737488355328) && (@Nat.ble e18 17592186044416)))) (.need (Bool.true && ((@Nat.ble e18 e18) && ((@Nat.ble (e19 * 32) 140737488355328) && (@Nat.ble e19 17592186044416)))) (.need e21 (.need (Bool.true && ((@Nat.ble e19 e19) && ((@Nat.ble (e22 * 32) 140737488355328) && (@Nat.ble e22 17592186044416)))) (.need e24 (.need (Bool.true && ((@Nat.ble e22 e22) && ((@Nat.ble ((e22 + 1) * 32) 140737488355328) && (@Nat.ble (e22 + 1) 17592186044416)))) (.leaf ((@AV.own e27 (e22 + 1) 3), (@Mem.mk (e27 + 1) e26 ((some (@Blk.mk [] 40 (some (@Rw.mk (e22 + 1) 3 (@appc e22 (@appc e19 (@appc e18 (@appc e15 (@appc e13 e37 e35) e38) e35) e39) e41))))) :: (e42 :: none :: (none :: (e43 :: none :: (none :: (e43 :: none :: (e44 :: none :: (e43 :: none :: (none :: (e43 :: none :: [e45, none, e46])))))))))))))))))))))) (.need (!e14) (.need e24 (.need e16 (.leaf ((@AV.own e26 e15 3), (@Mem.mk (e26 + 1) ((e25 + 1) + 1) ((some (@Blk.mk [] 40 (some (@Rw.mk e15 3 (@appc e13 e37 e41))))) :: (e42 :: none :: (e44 :: none :: (e43 :: none :: (none :: (e43 :: none :: [e45, none, e46])))))))))))))))))))) (.need e9 (.need e12 (.fork e14 (.need e14 (.need e17 (.need (Bool.true && ((@Nat.ble 3 (2 + 1)) && ((@Nat.ble (e47 * 32) 140737488355328) && (@Nat.ble e47 17592186044416)))) (.need (Bool.true && ((@Nat.ble e47 e47) && ((@Nat.ble (e48 * 32) 140737488355328) && (@Nat.ble e48 17592186044416)))) (.need e21 (.need (Bool.true && ((@Nat.ble e48 e48) && ((@Nat.ble (e49 * 32) 140737488355328) && (@Nat.ble e49 17592186044416)))) (.need e24 (.need (Bool.true && ((@Nat.ble e49 e49) && ((@Nat.ble ((e49 + 1) * 32) 140737488355328) && (@Nat.ble (e49 + 1) 17592186044416)))) (.leaf ((@AV.own e26 (e49 + 1) 3), (@Mem.mk (e26 + 1) (e25 + 1) ((some (@Blk.mk [] 40 (some (@Rw.mk (e49 + 1) 3 (@appc e49 (@appc e48 (@appc e47 (@appc 3 (fun y0 => (fun y1 => (@getA (e1 :: e3 :: e28 :: (e10 :: e11 :: e28 :: (@List.take _ 3 e34))) ((y0 * 3) + y1)))) e38) e35) e39) e41))))) :: (e42 :: none :: (none :: (e43 :: none :: (none :: (e43 :: none :: e44 :: [e45, (some (@Blk.mk e32 40 none)), e46]))))))))))))))))) (.need (!e14) (.need e24 (.leaf ((@AV.sl e25 0 3 none 3), (@Mem.mk (e25 + 1) ((0 + 1) + 1) ((some (@Blk.mk (@HAppend.hAppend _ _ _ _ (@List.take _ 6 (e1 :: e3 :: e28 :: (@List.take _ 3 e36))) (@List.take _ 3 e40)) 40 none)) :: (e42 :: none :: e44 :: [e45, (some (@Blk.mk e32 40 none)), e46])))))))))))))) (by kernel_rfl) (by
    have v1 := valT_len (Int.ofNat 5) ln ld
    have v2 := valT_len (Int.ofNat 5) hn hd
    have o1 := opT_len lo
    have o2 := opT_len ho
    cases cl : leI lo 0 with
    | false =>
      have hlo : 1 ≤ lo := by rw [leI_f] at cl; omega
      have hlo5 : lo ≤ 5 := hl (by omega)
      have el : loT ⟨4, 0, 5, lo, ln, ld, ho, hn, hd⟩ = valT 5 ln ld ++ ([spT] ++ (opT lo ++ [spT])) := by unfold loT; rw [if_neg (by rw [cl]; simp)]
      cases ch : leI ho 0 with
      | false =>
        have hho : 1 ≤ ho := by rw [leI_f] at ch; omega
        have hho5 : ho ≤ 5 := (hh (by omega)).2
        have eh : hiT ⟨4, 0, 5, lo, ln, ld, ho, hn, hd⟩ = [spT] ++ (opT ho ++ ([spT] ++ valT 5 hn hd)) := by unfold hiT; rw [if_neg (by show ¬ ho = 0; omega), if_neg (by show ¬ (5 : Int) = 6; decide)]
        (repeat' (first
          | (refine need_so ?_ ?_; (focus (first | exact ⟨rfl, trivial⟩ | exact ⟨rfl, hlo, hlo5⟩ | exact ⟨rfl, hho, hho5⟩ | exact ⟨rfl, Int.le_of_lt_add_one (by decide)⟩)))
          | (refine need_t ?_ ?_; (focus (first | assumption | (simp only [*, Bool.not_true, Bool.not_false]; done) | (simp only [Bool.true_and, Bool.and_eq_true, Nat.ble_eq]; omega))))
          | (refine fork_t ?_ ?_; (focus (simp only [*, Bool.not_true, Bool.not_false]; done)))
          | (refine fork_f ?_ ?_; (focus (simp only [*, Bool.not_true, Bool.not_false]; done)))))
        exact tview_frz 0 _ (Nat.zero_le _) rfl (CellIs.cast (CellIs.app ((CellIs.app2 ((CellIs.app ((CellIs.app2 ((CellIs.app ((CellIs.app ((CellIs.app ((CellIs.app2 ((CellIs.app ((CellIs.app2 ((show CellIs 1 _ [opnT] from ⟨rfl, (fun i j hi hj => by
        rcases i with _ | i
        · rcases j with _ | _ | _ | j
          · exact rfl
          · exact rfl
          · exact rfl
          · omega
        · omega)⟩)) rfl)) (CellIs.one 20 ⟨#[]⟩ 0 (fun j hj => by
              rcases j with _ | _ | _ | j
              · exact rfl
              · exact rfl
              · exact rfl
              · omega)))) rfl)) (CellIs.one 20 ⟨#[]⟩ 0 (fun j hj => by
              rcases j with _ | _ | _ | j
              · exact rfl
              · exact rfl
              · exact rfl
              · omega)))) (CellIs.one 1 _ 0 (fun j hj => by
              rcases j with _ | _ | _ | j
              · exact rfl
              · exact rfl
              · exact rfl
              · omega)))) (CellIs.one 20 ⟨#[]⟩ 0 (fun j hj => by
              rcases j with _ | _ | _ | j
              · exact rfl
              · exact rfl
              · exact rfl
              · omega)))) rfl)) (CellIs.one 20 ⟨#[]⟩ 0 (fun j hj => by
              rcases j with _ | _ | _ | j
              · exact rfl
              · exact rfl
              · exact rfl
              · omega)))) rfl)) (CellIs.one 14 ⟨#[]⟩ 0 (fun j hj => by
              rcases j with _ | _ | _ | j
              · exact rfl
              · exact rfl
              · exact rfl
              · omega))) (by unfold feaT; rw [el, eh]; simp [List.append_assoc]; rfl))
      | true =>
        have eh : hiT ⟨4, 0, 5, lo, ln, ld, ho, hn, hd⟩ = [] := by
          unfold hiT
          rw [leI_t] at ch
          rw [if_pos (show ho = 0 by by_cases e : ho = 0; exact e; exact absurd (hh e).1 (by omega))]
        (repeat' (first
          | (refine need_so ?_ ?_; (focus (first | exact ⟨rfl, trivial⟩ | exact ⟨rfl, hlo, hlo5⟩ | exact ⟨rfl, hho, hho5⟩ | exact ⟨rfl, Int.le_of_lt_add_one (by decide)⟩)))
          | (refine need_t ?_ ?_; (focus (first | assumption | (simp only [*, Bool.not_true, Bool.not_false]; done) | (simp only [Bool.true_and, Bool.and_eq_true, Nat.ble_eq]; omega))))
          | (refine fork_t ?_ ?_; (focus (simp only [*, Bool.not_true, Bool.not_false]; done)))
          | (refine fork_f ?_ ?_; (focus (simp only [*, Bool.not_true, Bool.not_false]; done)))))
        exact tview_frz 0 _ (Nat.zero_le _) rfl (CellIs.cast (CellIs.app ((CellIs.app ((CellIs.app ((CellIs.app2 ((CellIs.app ((CellIs.app2 ((show CellIs 1 _ [opnT] from ⟨rfl, (fun i j hi hj => by
        rcases i with _ | i
        · rcases j with _ | _ | _ | j
          · exact rfl
          · exact rfl
          · exact rfl
          · omega
        · omega)⟩)) rfl)) (CellIs.one 20 ⟨#[]⟩ 0 (fun j hj => by
              rcases j with _ | _ | _ | j
              · exact rfl
              · exact rfl
              · exact rfl
              · omega)))) rfl)) (CellIs.one 20 ⟨#[]⟩ 0 (fun j hj => by
              rcases j with _ | _ | _ | j
              · exact rfl
              · exact rfl
              · exact rfl
              · omega)))) (CellIs.one 1 _ 0 (fun j hj => by
              rcases j with _ | _ | _ | j
              · exact rfl
              · exact rfl
              · exact rfl
              · omega)))) (CellIs.one 14 ⟨#[]⟩ 0 (fun j hj => by
              rcases j with _ | _ | _ | j
              · exact rfl
              · exact rfl
              · exact rfl
              · omega))) (by unfold feaT; rw [el, eh]; simp [List.append_assoc]; rfl))
    | true =>
      have el : loT ⟨4, 0, 5, lo, ln, ld, ho, hn, hd⟩ = [] := by unfold loT; rw [if_pos cl]
      cases ch : leI ho 0 with
      | false =>
        have hho : 1 ≤ ho := by rw [leI_f] at ch; omega
        have hho5 : ho ≤ 5 := (hh (by omega)).2
        have eh : hiT ⟨4, 0, 5, lo, ln, ld, ho, hn, hd⟩ = [spT] ++ (opT ho ++ ([spT] ++ valT 5 hn hd)) := by unfold hiT; rw [if_neg (by show ¬ ho = 0; omega), if_neg (by show ¬ (5 : Int) = 6; decide)]
        (repeat' (first
          | (refine need_so ?_ ?_; (focus (first | exact ⟨rfl, trivial⟩ | exact ⟨rfl, hlo, hlo5⟩ | exact ⟨rfl, hho, hho5⟩ | exact ⟨rfl, Int.le_of_lt_add_one (by decide)⟩)))
          | (refine need_t ?_ ?_; (focus (first | assumption | (simp only [*, Bool.not_true, Bool.not_false]; done) | (simp only [Bool.true_and, Bool.and_eq_true, Nat.ble_eq]; omega))))
          | (refine fork_t ?_ ?_; (focus (simp only [*, Bool.not_true, Bool.not_false]; done)))
          | (refine fork_f ?_ ?_; (focus (simp only [*, Bool.not_true, Bool.not_false]; done)))))
        exact tview_frz 0 _ (Nat.zero_le _) rfl (CellIs.cast (CellIs.app ((CellIs.app2 ((CellIs.app ((CellIs.app2 ((show CellIs 3 _ [opnT, idT ⟨#[97, 115, 112, 101, 99, 116, 45, 114, 97, 116, 105, 111]⟩, spT] from ⟨rfl, (fun i j hi hj => by
        rcases i with _ | _ | _ | i
        · rcases j with _ | _ | _ | j
          · exact rfl
          · exact rfl
          · exact rfl
          · omega
        · rcases j with _ | _ | _ | j
          · exact rfl
          · exact rfl
          · exact rfl
          · omega
        · rcases j with _ | _ | _ | j
          · exact rfl
          · exact rfl
          · exact rfl
          · omega
        · omega)⟩)) rfl)) (CellIs.one 20 ⟨#[]⟩ 0 (fun j hj => by
              rcases j with _ | _ | _ | j
              · exact rfl
              · exact rfl
              · exact rfl
              · omega)))) rfl)) (CellIs.one 14 ⟨#[]⟩ 0 (fun j hj => by
              rcases j with _ | _ | _ | j
              · exact rfl
              · exact rfl
              · exact rfl
              · omega))) (by unfold feaT; rw [el, eh]; simp [List.append_assoc]; rfl))
      | true =>
        have eh : hiT ⟨4, 0, 5, lo, ln, ld, ho, hn, hd⟩ = [] := by
          unfold hiT
          rw [leI_t] at ch
          rw [if_pos (show ho = 0 by by_cases e : ho = 0; exact e; exact absurd (hh e).1 (by omega))]
        (repeat' (first
          | (refine need_so ?_ ?_; (focus (first | exact ⟨rfl, trivial⟩ | exact ⟨rfl, hlo, hlo5⟩ | exact ⟨rfl, hho, hho5⟩ | exact ⟨rfl, Int.le_of_lt_add_one (by decide)⟩)))
          | (refine need_t ?_ ?_; (focus (first | assumption | (simp only [*, Bool.not_true, Bool.not_false]; done) | (simp only [Bool.true_and, Bool.and_eq_true, Nat.ble_eq]; omega))))
          | (refine fork_t ?_ ?_; (focus (simp only [*, Bool.not_true, Bool.not_false]; done)))
          | (refine fork_f ?_ ?_; (focus (simp only [*, Bool.not_true, Bool.not_false]; done)))))
        have e : feaT ⟨4, 0, 5, lo, ln, ld, ho, hn, hd⟩ = [opnT, idT ⟨#[97, 115, 112, 101, 99, 116, 45, 114, 97, 116, 105, 111]⟩, cloT] := by unfold feaT; rw [el, eh]; rfl
        rw [e]
        exact Frz.sl (b := 6) (by decide) rfl (fun i j hi hj => by
          rcases i with _ | _ | _ | i
          · rcases j with _ | _ | _ | j
            · exact ⟨_, rfl, Frz.lit _ _ _ _, rfl⟩
            · exact ⟨_, rfl, Frz.lit _ _ _ _, rfl⟩
            · exact ⟨_, rfl, Frz.lit _ _ _ _, rfl⟩
            · omega
          · rcases j with _ | _ | _ | j
            · exact ⟨_, rfl, Frz.lit _ _ _ _, rfl⟩
            · exact ⟨_, rfl, Frz.lit _ _ _ _, rfl⟩
            · exact ⟨_, rfl, Frz.lit _ _ _ _, rfl⟩
            · omega
          · rcases j with _ | _ | _ | j
            · exact ⟨_, rfl, Frz.lit _ _ _ _, rfl⟩
            · exact ⟨_, rfl, Frz.lit _ _ _ _, rfl⟩
            · exact ⟨_, rfl, Frz.lit _ _ _ _, rfl⟩
            · omega
          · omega))) ⟨⟨trivial, trivial, trivial, trivial, trivial, trivial, trivial, trivial, trivial, trivial⟩, trivial⟩ (kv_free _)
theorem Sy.rfea_6a : CallTo Try.prog 47 [qa 4 0 6 0 0 0 0 0 0] M0 fun v _ => v = kv (feaT ⟨4, 0, 6, 0, 0, 0, 0, 0, 0⟩) :=
  CallTo.frz0 (to (G := fun r => Frz true 0 r.2 r.1 (kv (feaT ⟨4, 0, 6, 0, 0, 0, 0, 0, 0⟩))) [cTok, cRop, cRval, cRwd] [] 400 30 (.yes (.yes (.auto 0 (.yes (.auto 0 (.yes (.auto 5 (.yes .done)))))))) (let e1 := (int (13 : Int)); let e2 := (@Value.string (@ByteArray.mk (@Array.mk _ []))); let e3 := (@AV.lit e2); let e4 := (@AV.lit (@Value.string (@ByteArray.mk (@Array.mk _ [(111 : UInt8), (114 : UInt8), (105 : UInt8), (101 : UInt8), (110 : UInt8), (116 : UInt8), (97 : UInt8), (116 : UInt8), (105 : UInt8), (111 : UInt8), (110 : UInt8)])))); let e5 := (int (0 : Int)); let e6 := (@Value.int IntKind.i64 (0 : Int)); let e7 := (@Array.toList _ (@Array.mk _ [e6, e2, e6])); let e8 := (@List.drop _ 3 (@List.map _ _ AV.lit (@Array.toList _ (@Array.mk _ [(@List.get _ e7 (@Fin.mk _ 0 (@Nat.le_of_ble_eq_true _ _ (@Eq.refl _ true)))), (@List.get _ e7 (@Fin.mk _ 1 (@Nat.le_of_ble_eq_true _ _ (@Eq.refl _ true)))), (@List.get _ e7 (@Fin.mk _ 2 (@Nat.le_of_ble_eq_true _ _ (@Eq.refl _ true))))])))); let e9 := ((int (1 : Int)) :: e4 :: e5 :: e8); let e10 := ((int (14 : Int)) :: e3 :: e5 :: e8); (.need (@isSo (@And ((@HAppend.hAppend _ _ _ _ (@HAppend.hAppend _ _ _ _ [] [e1, e3]) []) = [e1, e3]) True)) (.need (@isSo (@And ((@HAppend.hAppend _ _ _ _ (@HAppend.hAppend _ _ _ _ [] [(int (20 : Int)), e3]) []) = [(int (20 : Int)), e3]) True)) (.need (@isSo (@And ((@HAppend.hAppend _ _ _ _ (@HAppend.hAppend _ _ _ _ ([] : List AV) ([] : List AV)) []) = []) True)) (.need (@isSo (@And ((@HAppend.hAppend _ _ _ _ (@HAppend.hAppend _ _ _ _ [] [(int (1 : Int)), e4]) []) = [(int (1 : Int)), e4]) True)) (.need (@isSo (@And ((@HAppend.hAppend _ _ _ _ (@HAppend.hAppend _ _ _ _ [] [(int (14 : Int)), e3]) []) = [(int (14 : Int)), e3]) True)) (.leaf ((@AV.sl 6 0 3 none 3), (@Mem.mk 7 2 [(some (@Blk.mk (@HAppend.hAppend _ _ _ _ (@List.take _ 6 (e1 :: e3 :: e5 :: (@List.take _ 3 e9))) (@List.take _ 3 e10)) 40 none)), (some (@Blk.mk e10 40 none)), none, (some (@Blk.mk e9 40 none)), (some (@Blk.mk ((int (20 : Int)) :: e3 :: e5 :: (@List.drop _ 3 [e5, e3, e5])) 40 none)), (some (@Blk.mk (e1 :: e3 :: e5 :: e8) 40 none)), (some (@Blk.mk [(int (4 : Int)), e5, (int (6 : Int)), e5, e5, e5, e5, e5, e5] 45 none))]))))))))) (by kernel_rfl) (by
    have e : feaT ⟨4, 0, 6, 0, 0, 0, 0, 0, 0⟩ = [opnT, idT ⟨#[111, 114, 105, 101, 110, 116, 97, 116, 105, 111, 110]⟩, cloT] := rfl
    rw [e]
    (repeat' (refine need_so ⟨rfl, trivial⟩ ?_))
    exact Frz.sl (b := 6) (by decide) rfl (fun i j hi hj => by
          rcases i with _ | _ | _ | i
          · rcases j with _ | _ | _ | j
            · exact ⟨_, rfl, Frz.lit _ _ _ _, rfl⟩
            · exact ⟨_, rfl, Frz.lit _ _ _ _, rfl⟩
            · exact ⟨_, rfl, Frz.lit _ _ _ _, rfl⟩
            · omega
          · rcases j with _ | _ | _ | j
            · exact ⟨_, rfl, Frz.lit _ _ _ _, rfl⟩
            · exact ⟨_, rfl, Frz.lit _ _ _ _, rfl⟩
            · exact ⟨_, rfl, Frz.lit _ _ _ _, rfl⟩
            · omega
          · rcases j with _ | _ | _ | j
            · exact ⟨_, rfl, Frz.lit _ _ _ _, rfl⟩
            · exact ⟨_, rfl, Frz.lit _ _ _ _, rfl⟩
            · exact ⟨_, rfl, Frz.lit _ _ _ _, rfl⟩
            · omega
          · omega))) ⟨⟨trivial, trivial, trivial, trivial, trivial, trivial, trivial, trivial, trivial, trivial⟩, trivial⟩ (kv_free _)
theorem Sy.rfea_6b : CallTo Try.prog 47 [qa 4 0 6 0 0 0 3 1 0] M0 fun v _ => v = kv (feaT ⟨4, 0, 6, 0, 0, 0, 3, 1, 0⟩) :=
  CallTo.frz0 (to (G := fun r => Frz true 0 r.2 r.1 (kv (feaT ⟨4, 0, 6, 0, 0, 0, 3, 1, 0⟩))) [cTok, cRop, cRval, cRwd] [] 400 30 (.yes (.yes (.auto 0 (.yes (.auto 0 (.yes (.auto 4 (.yes (.yes (.yes .done)))))))))) (let e1 := (int (13 : Int)); let e2 := (@Value.string (@ByteArray.mk (@Array.mk _ []))); let e3 := (@AV.lit e2); let e4 := (int (20 : Int)); let e5 := (int (1 : Int)); let e6 := (116 : UInt8); let e7 := (@AV.lit (@Value.string (@ByteArray.mk (@Array.mk _ [(111 : UInt8), (114 : UInt8), (105 : UInt8), (101 : UInt8), (110 : UInt8), e6, (97 : UInt8), e6, (105 : UInt8), (111 : UInt8), (110 : UInt8)])))); let e8 := (int (10 : Int)); let e9 := (@AV.lit (@Value.string (@ByteArray.mk (@Array.mk _ [(112 : UInt8), (111 : UInt8), (114 : UInt8), e6, (114 : UInt8), (97 : UInt8), (105 : UInt8), e6])))); let e10 := (int (0 : Int)); let e11 := (@Value.int IntKind.i64 (0 : Int)); let e12 := (@Array.toList _ (@Array.mk _ [e11, e2, e11])); let e13 := (e8 :: e3 :: e10 :: e4 :: e3 :: e10 :: e5 :: e9 :: e10 :: (@List.drop _ 9 (e8 :: e3 :: e10 :: e4 :: e3 :: e10 :: (@List.drop _ 6 (e8 :: e3 :: e10 :: (@List.drop _ 3 (@List.map _ _ AV.lit (@Array.toList _ (@Array.mk _ [(@List.get _ e12 (@Fin.mk _ 0 (@Nat.le_of_ble_eq_true _ _ (@Eq.refl _ true)))), (@List.get _ e12 (@Fin.mk _ 1 (@Nat.le_of_ble_eq_true _ _ (@Eq.refl _ true)))), (@List.get _ e12 (@Fin.mk _ 2 (@Nat.le_of_ble_eq_true _ _ (@Eq.refl _ true)))), (@List.get _ e12 (@Fin.mk _ 0 (@Nat.le_of_ble_eq_true _ _ (@Eq.refl _ true)))), (@List.get _ e12 (@Fin.mk _ 1 (@Nat.le_of_ble_eq_true _ _ (@Eq.refl _ true)))), (@List.get _ e12 (@Fin.mk _ 2 (@Nat.le_of_ble_eq_true _ _ (@Eq.refl _ true)))), (@List.get _ e12 (@Fin.mk _ 0 (@Nat.le_of_ble_eq_true _ _ (@Eq.refl _ true)))), (@List.get _ e12 (@Fin.mk _ 1 (@Nat.le_of_ble_eq_true _ _ (@Eq.refl _ true)))), (@List.get _ e12 (@Fin.mk _ 2 (@Nat.le_of_ble_eq_true _ _ (@Eq.refl _ true))))]))))))))); let e14 := (@List.drop _ 3 (@List.map _ _ AV.lit (@Array.toList _ (@Array.mk _ [(@List.get _ e12 (@Fin.mk _ 0 (@Nat.le_of_ble_eq_true _ _ (@Eq.refl _ true)))), (@List.get _ e12 (@Fin.mk _ 1 (@Nat.le_of_ble_eq_true _ _ (@Eq.refl _ true)))), (@List.get _ e12 (@Fin.mk _ 2 (@Nat.le_of_ble_eq_true _ _ (@Eq.refl _ true))))])))); let e15 := ((int (14 : Int)) :: e3 :: e10 :: e14); (.need (@isSo (@And ((@HAppend.hAppend _ _ _ _ (@HAppend.hAppend _ _ _ _ [] [e1, e3]) []) = [e1, e3]) True)) (.need (@isSo (@And ((@HAppend.hAppend _ _ _ _ (@HAppend.hAppend _ _ _ _ [] [e4, e3]) []) = [e4, e3]) True)) (.need (@isSo (@And ((@HAppend.hAppend _ _ _ _ (@HAppend.hAppend _ _ _ _ ([] : List AV) ([] : List AV)) []) = []) True)) (.need (@isSo (@And ((@HAppend.hAppend _ _ _ _ (@HAppend.hAppend _ _ _ _ [] [e5, e7]) []) = [e5, e7]) True)) (.need (@isSo (@And ((@HAppend.hAppend _ _ _ _ (@HAppend.hAppend _ _ _ _ [] [e8, e3]) []) = [e8, e3]) True)) (.need (@isSo (@And ((@HAppend.hAppend _ _ _ _ (@HAppend.hAppend _ _ _ _ [] [e5, e9]) []) = [e5, e9]) True)) (.need (@isSo (@And ((@HAppend.hAppend _ _ _ _ (@HAppend.hAppend _ _ _ _ [] [(int (14 : Int)), e3]) []) = [(int (14 : Int)), e3]) True)) (.leaf ((@AV.sl 9 0 6 none 3), (@Mem.mk 10 3 [(some (@Blk.mk (@HAppend.hAppend _ _ _ _ (@List.take _ 15 (e1 :: e3 :: e10 :: e5 :: e7 :: e10 :: (@List.take _ 9 e13))) (@List.take _ 3 e15)) 40 none)), (some (@Blk.mk e15 40 none)), none, (some (@Blk.mk e13 40 none)), (some (@Blk.mk (e3 :: e9 :: (@AV.lit (@Value.string (@ByteArray.mk (@Array.mk _ [(108 : UInt8), (97 : UInt8), (110 : UInt8), (100 : UInt8), (115 : UInt8), (99 : UInt8), (97 : UInt8), (112 : UInt8), (101 : UInt8)])))) :: (@List.drop _ 3 (e3 :: e9 :: (@List.drop _ 2 (e3 :: (@List.drop _ 1 (@List.map _ _ AV.lit (@Array.toList _ (@Array.mk _ [(@List.get _ (@Array.toList _ (@Array.mk _ [e2])) (@Fin.mk _ 0 (@Nat.le_of_ble_eq_true _ _ (@Eq.refl _ true)))), (@List.get _ (@Array.toList _ (@Array.mk _ [e2])) (@Fin.mk _ 0 (@Nat.le_of_ble_eq_true _ _ (@Eq.refl _ true)))), (@List.get _ (@Array.toList _ (@Array.mk _ [e2])) (@Fin.mk _ 0 (@Nat.le_of_ble_eq_true _ _ (@Eq.refl _ true))))]))))))))) 9 none)), none, (some (@Blk.mk (e5 :: e7 :: e10 :: e14) 40 none)), (some (@Blk.mk (e4 :: e3 :: e10 :: (@List.drop _ 3 [e10, e3, e10])) 40 none)), (some (@Blk.mk (e1 :: e3 :: e10 :: e14) 40 none)), (some (@Blk.mk [(int (4 : Int)), e10, (int (6 : Int)), e10, e10, e10, (int (3 : Int)), e5, e10] 45 none))]))))))))))) (by kernel_rfl) (by
    have e : feaT ⟨4, 0, 6, 0, 0, 0, 3, 1, 0⟩ = [opnT, idT ⟨#[111, 114, 105, 101, 110, 116, 97, 116, 105, 111, 110]⟩, ⟨10, ⟨#[]⟩, 0⟩, spT, idT ⟨#[112, 111, 114, 116, 114, 97, 105, 116]⟩, cloT] := rfl
    rw [e]
    (repeat' (refine need_so ⟨rfl, trivial⟩ ?_))
    exact Frz.sl (b := 9) (by decide) rfl (fun i j hi hj => by
          rcases i with _ | _ | _ | _ | _ | _ | i
          · rcases j with _ | _ | _ | j
            · exact ⟨_, rfl, Frz.lit _ _ _ _, rfl⟩
            · exact ⟨_, rfl, Frz.lit _ _ _ _, rfl⟩
            · exact ⟨_, rfl, Frz.lit _ _ _ _, rfl⟩
            · omega
          · rcases j with _ | _ | _ | j
            · exact ⟨_, rfl, Frz.lit _ _ _ _, rfl⟩
            · exact ⟨_, rfl, Frz.lit _ _ _ _, rfl⟩
            · exact ⟨_, rfl, Frz.lit _ _ _ _, rfl⟩
            · omega
          · rcases j with _ | _ | _ | j
            · exact ⟨_, rfl, Frz.lit _ _ _ _, rfl⟩
            · exact ⟨_, rfl, Frz.lit _ _ _ _, rfl⟩
            · exact ⟨_, rfl, Frz.lit _ _ _ _, rfl⟩
            · omega
          · rcases j with _ | _ | _ | j
            · exact ⟨_, rfl, Frz.lit _ _ _ _, rfl⟩
            · exact ⟨_, rfl, Frz.lit _ _ _ _, rfl⟩
            · exact ⟨_, rfl, Frz.lit _ _ _ _, rfl⟩
            · omega
          · rcases j with _ | _ | _ | j
            · exact ⟨_, rfl, Frz.lit _ _ _ _, rfl⟩
            · exact ⟨_, rfl, Frz.lit _ _ _ _, rfl⟩
            · exact ⟨_, rfl, Frz.lit _ _ _ _, rfl⟩
            · omega
          · rcases j with _ | _ | _ | j
            · exact ⟨_, rfl, Frz.lit _ _ _ _, rfl⟩
            · exact ⟨_, rfl, Frz.lit _ _ _ _, rfl⟩
            · exact ⟨_, rfl, Frz.lit _ _ _ _, rfl⟩
            · omega
          · omega))) ⟨⟨trivial, trivial, trivial, trivial, trivial, trivial, trivial, trivial, trivial, trivial⟩, trivial⟩ (kv_free _)
theorem Sy.rfea_6c : CallTo Try.prog 47 [qa 4 0 6 0 0 0 3 2 0] M0 fun v _ => v = kv (feaT ⟨4, 0, 6, 0, 0, 0, 3, 2, 0⟩) :=
  CallTo.frz0 (to (G := fun r => Frz true 0 r.2 r.1 (kv (feaT ⟨4, 0, 6, 0, 0, 0, 3, 2, 0⟩))) [cTok, cRop, cRval, cRwd] [] 400 30 (.yes (.yes (.auto 0 (.yes (.auto 0 (.yes (.auto 4 (.yes (.yes (.yes .done)))))))))) (let e1 := (int (13 : Int)); let e2 := (@Value.string (@ByteArray.mk (@Array.mk _ []))); let e3 := (@AV.lit e2); let e4 := (int (20 : Int)); let e5 := (int (1 : Int)); let e6 := (116 : UInt8); let e7 := (@AV.lit (@Value.string (@ByteArray.mk (@Array.mk _ [(111 : UInt8), (114 : UInt8), (105 : UInt8), (101 : UInt8), (110 : UInt8), e6, (97 : UInt8), e6, (105 : UInt8), (111 : UInt8), (110 : UInt8)])))); let e8 := (int (10 : Int)); let e9 := (@AV.lit (@Value.string (@ByteArray.mk (@Array.mk _ [(108 : UInt8), (97 : UInt8), (110 : UInt8), (100 : UInt8), (115 : UInt8), (99 : UInt8), (97 : UInt8), (112 : UInt8), (101 : UInt8)])))); let e10 := (int (0 : Int)); let e11 := (@Value.int IntKind.i64 (0 : Int)); let e12 := (@Array.toList _ (@Array.mk _ [e11, e2, e11])); let e13 := (e8 :: e3 :: e10 :: e4 :: e3 :: e10 :: e5 :: e9 :: e10 :: (@List.drop _ 9 (e8 :: e3 :: e10 :: e4 :: e3 :: e10 :: (@List.drop _ 6 (e8 :: e3 :: e10 :: (@List.drop _ 3 (@List.map _ _ AV.lit (@Array.toList _ (@Array.mk _ [(@List.get _ e12 (@Fin.mk _ 0 (@Nat.le_of_ble_eq_true _ _ (@Eq.refl _ true)))), (@List.get _ e12 (@Fin.mk _ 1 (@Nat.le_of_ble_eq_true _ _ (@Eq.refl _ true)))), (@List.get _ e12 (@Fin.mk _ 2 (@Nat.le_of_ble_eq_true _ _ (@Eq.refl _ true)))), (@List.get _ e12 (@Fin.mk _ 0 (@Nat.le_of_ble_eq_true _ _ (@Eq.refl _ true)))), (@List.get _ e12 (@Fin.mk _ 1 (@Nat.le_of_ble_eq_true _ _ (@Eq.refl _ true)))), (@List.get _ e12 (@Fin.mk _ 2 (@Nat.le_of_ble_eq_true _ _ (@Eq.refl _ true)))), (@List.get _ e12 (@Fin.mk _ 0 (@Nat.le_of_ble_eq_true _ _ (@Eq.refl _ true)))), (@List.get _ e12 (@Fin.mk _ 1 (@Nat.le_of_ble_eq_true _ _ (@Eq.refl _ true)))), (@List.get _ e12 (@Fin.mk _ 2 (@Nat.le_of_ble_eq_true _ _ (@Eq.refl _ true))))]))))))))); let e14 := (@List.drop _ 3 (@List.map _ _ AV.lit (@Array.toList _ (@Array.mk _ [(@List.get _ e12 (@Fin.mk _ 0 (@Nat.le_of_ble_eq_true _ _ (@Eq.refl _ true)))), (@List.get _ e12 (@Fin.mk _ 1 (@Nat.le_of_ble_eq_true _ _ (@Eq.refl _ true)))), (@List.get _ e12 (@Fin.mk _ 2 (@Nat.le_of_ble_eq_true _ _ (@Eq.refl _ true))))])))); let e15 := ((int (14 : Int)) :: e3 :: e10 :: e14); let e16 := (@AV.lit (@Value.string (@ByteArray.mk (@Array.mk _ [(112 : UInt8), (111 : UInt8), (114 : UInt8), e6, (114 : UInt8), (97 : UInt8), (105 : UInt8), e6])))); (.need (@isSo (@And ((@HAppend.hAppend _ _ _ _ (@HAppend.hAppend _ _ _ _ [] [e1, e3]) []) = [e1, e3]) True)) (.need (@isSo (@And ((@HAppend.hAppend _ _ _ _ (@HAppend.hAppend _ _ _ _ [] [e4, e3]) []) = [e4, e3]) True)) (.need (@isSo (@And ((@HAppend.hAppend _ _ _ _ (@HAppend.hAppend _ _ _ _ ([] : List AV) ([] : List AV)) []) = []) True)) (.need (@isSo (@And ((@HAppend.hAppend _ _ _ _ (@HAppend.hAppend _ _ _ _ [] [e5, e7]) []) = [e5, e7]) True)) (.need (@isSo (@And ((@HAppend.hAppend _ _ _ _ (@HAppend.hAppend _ _ _ _ [] [e8, e3]) []) = [e8, e3]) True)) (.need (@isSo (@And ((@HAppend.hAppend _ _ _ _ (@HAppend.hAppend _ _ _ _ [] [e5, e9]) []) = [e5, e9]) True)) (.need (@isSo (@And ((@HAppend.hAppend _ _ _ _ (@HAppend.hAppend _ _ _ _ [] [(int (14 : Int)), e3]) []) = [(int (14 : Int)), e3]) True)) (.leaf ((@AV.sl 9 0 6 none 3), (@Mem.mk 10 3 [(some (@Blk.mk (@HAppend.hAppend _ _ _ _ (@List.take _ 15 (e1 :: e3 :: e10 :: e5 :: e7 :: e10 :: (@List.take _ 9 e13))) (@List.take _ 3 e15)) 40 none)), (some (@Blk.mk e15 40 none)), none, (some (@Blk.mk e13 40 none)), (some (@Blk.mk (e3 :: e16 :: e9 :: (@List.drop _ 3 (e3 :: e16 :: (@List.drop _ 2 (e3 :: (@List.drop _ 1 (@List.map _ _ AV.lit (@Array.toList _ (@Array.mk _ [(@List.get _ (@Array.toList _ (@Array.mk _ [e2])) (@Fin.mk _ 0 (@Nat.le_of_ble_eq_true _ _ (@Eq.refl _ true)))), (@List.get _ (@Array.toList _ (@Array.mk _ [e2])) (@Fin.mk _ 0 (@Nat.le_of_ble_eq_true _ _ (@Eq.refl _ true)))), (@List.get _ (@Array.toList _ (@Array.mk _ [e2])) (@Fin.mk _ 0 (@Nat.le_of_ble_eq_true _ _ (@Eq.refl _ true))))]))))))))) 9 none)), none, (some (@Blk.mk (e5 :: e7 :: e10 :: e14) 40 none)), (some (@Blk.mk (e4 :: e3 :: e10 :: (@List.drop _ 3 [e10, e3, e10])) 40 none)), (some (@Blk.mk (e1 :: e3 :: e10 :: e14) 40 none)), (some (@Blk.mk [(int (4 : Int)), e10, (int (6 : Int)), e10, e10, e10, (int (3 : Int)), (int (2 : Int)), e10] 45 none))]))))))))))) (by kernel_rfl) (by
    have e : feaT ⟨4, 0, 6, 0, 0, 0, 3, 2, 0⟩ = [opnT, idT ⟨#[111, 114, 105, 101, 110, 116, 97, 116, 105, 111, 110]⟩, ⟨10, ⟨#[]⟩, 0⟩, spT, idT ⟨#[108, 97, 110, 100, 115, 99, 97, 112, 101]⟩, cloT] := rfl
    rw [e]
    (repeat' (refine need_so ⟨rfl, trivial⟩ ?_))
    exact Frz.sl (b := 9) (by decide) rfl (fun i j hi hj => by
          rcases i with _ | _ | _ | _ | _ | _ | i
          · rcases j with _ | _ | _ | j
            · exact ⟨_, rfl, Frz.lit _ _ _ _, rfl⟩
            · exact ⟨_, rfl, Frz.lit _ _ _ _, rfl⟩
            · exact ⟨_, rfl, Frz.lit _ _ _ _, rfl⟩
            · omega
          · rcases j with _ | _ | _ | j
            · exact ⟨_, rfl, Frz.lit _ _ _ _, rfl⟩
            · exact ⟨_, rfl, Frz.lit _ _ _ _, rfl⟩
            · exact ⟨_, rfl, Frz.lit _ _ _ _, rfl⟩
            · omega
          · rcases j with _ | _ | _ | j
            · exact ⟨_, rfl, Frz.lit _ _ _ _, rfl⟩
            · exact ⟨_, rfl, Frz.lit _ _ _ _, rfl⟩
            · exact ⟨_, rfl, Frz.lit _ _ _ _, rfl⟩
            · omega
          · rcases j with _ | _ | _ | j
            · exact ⟨_, rfl, Frz.lit _ _ _ _, rfl⟩
            · exact ⟨_, rfl, Frz.lit _ _ _ _, rfl⟩
            · exact ⟨_, rfl, Frz.lit _ _ _ _, rfl⟩
            · omega
          · rcases j with _ | _ | _ | j
            · exact ⟨_, rfl, Frz.lit _ _ _ _, rfl⟩
            · exact ⟨_, rfl, Frz.lit _ _ _ _, rfl⟩
            · exact ⟨_, rfl, Frz.lit _ _ _ _, rfl⟩
            · omega
          · rcases j with _ | _ | _ | j
            · exact ⟨_, rfl, Frz.lit _ _ _ _, rfl⟩
            · exact ⟨_, rfl, Frz.lit _ _ _ _, rfl⟩
            · exact ⟨_, rfl, Frz.lit _ _ _ _, rfl⟩
            · omega
          · omega))) ⟨⟨trivial, trivial, trivial, trivial, trivial, trivial, trivial, trivial, trivial, trivial⟩, trivial⟩ (kv_free _)
def FeaOk (q : QNodeV) : Prop := (q.kind = 4 ∧ q.count = 0 ∧ 1 ≤ q.feat ∧ q.feat ≤ 6) ∧ OpsIn q ∧ (q.feat = 6 → (q.lo = 0 ∧ q.ln = 0 ∧ q.ld = 0 ∧ q.hd = 0) ∧ ((q.ho = 0 ∧ q.hn = 0) ∨ (q.ho = 3 ∧ (q.hn = 1 ∨ q.hn = 2))))
theorem Sy.rfea_t (q : QNodeV) (h : FeaOk q) : CallTo Try.prog 47 [qG q] M0 fun v _ => v = kv (feaT q) := by
  obtain ⟨k, c, f, lo, ln, ld, ho, hn, hd⟩ := q
  obtain ⟨⟨h1, h2, h3, h4⟩, ⟨h5, h6⟩, h7⟩ := h
  simp only at h1 h2 h3 h4 h5 h6 h7
  subst h1 h2
  have hc : f = 1 ∨ f = 2 ∨ f = 3 ∨ f = 4 ∨ f = 5 ∨ f = 6 := by omega
  rcases hc with rfl | rfl | rfl | rfl | rfl | rfl
  · exact Sy.rfea_1 lo ln ld ho hn hd h5 h6
  · exact Sy.rfea_2 lo ln ld ho hn hd h5 h6
  · exact Sy.rfea_3 lo ln ld ho hn hd h5 h6
  · exact Sy.rfea_4 lo ln ld ho hn hd h5 h6
  · exact Sy.rfea_5 lo ln ld ho hn hd h5 h6
  · obtain ⟨⟨rfl, rfl, rfl, rfl⟩, h8⟩ := h7 rfl
    rcases h8 with ⟨rfl, rfl⟩ | ⟨rfl, rfl | rfl⟩
    · exact Sy.rfea_6a
    · exact Sy.rfea_6b
    · exact Sy.rfea_6c
noncomputable abbrev Sy.cRfea : Con Try.prog := atX 47 (fun args => match args with | [.agg [.lit (.int .i64 k), .lit (.int .i64 c), .lit (.int .i64 f), .lit (.int .i64 lo), .lit (.int .i64 ln), .lit (.int .i64 ld), .lit (.int .i64 ho), .lit (.int .i64 hn), .lit (.int .i64 hd)]] => some (QNodeV.mk k c f lo ln ld ho hn hd) | _ => none) (fun q => [qG q]) (fun q => kv (feaT q)) FeaOk fun q h => ⟨⟨⟨⟨trivial, trivial, trivial, trivial, trivial, trivial, trivial, trivial, trivial, trivial⟩, trivial⟩, kv_free _⟩, rfea_t q h⟩
structure RdK where
  T : Int → List TokV
  C : Int → Prop
structure RdK.Ok (K : RdK) (s : ByteArray) (xs : List QNodeV) : Prop where
  call : ∀ i, K.C i → CallTo Try.prog 28 [query s xs, int i] M0 fun v _ => v = kv (K.T i)
noncomputable abbrev Sy.cRnd (s : ByteArray) (xs : List QNodeV) (K : RdK) (hK : K.Ok s xs) : Con Try.prog := atX 28 (fun args => match args with | [_, .lit (.int .i64 i)] => some i | _ => none) (fun i => [query s xs, int i]) (fun i => kv (K.T i)) (fun i => K.C i) fun i h => ⟨⟨⟨qv_free s xs, trivial, trivial⟩, kv_free _⟩, hK.call i h⟩
end Go.Proofs.Ytlmanlpgknhfpaa
namespace Go.Proofs.Ytlmanlpgknhfpaa
open Go Go.RowKit Pl Sy
namespace Sy
abbrev spB : Blk := ⟨[int 20, .lit (.string ⟨#[]⟩), int 0], 40, none⟩
abbrev wdB : Blk := ⟨[.lit (.string ⟨#[]⟩), .lit (.string ⟨#[97, 110, 100]⟩), .lit (.string ⟨#[111, 114]⟩), .lit (.string ⟨#[110, 111, 116]⟩)], 9, none⟩
abbrev rnM (s : ByteArray) (xs : List QNodeV) (q : QNodeV) (L : List TokV) : Mem := ⟨5, 0, [some (rowB L.length (kcell L)), some wdB, some spB, some (ndN q), some (ndQ s xs)]⟩
abbrev rnG (x n : Nat) (i k : Int) : Fr := (none :: none :: some ((@AV.ptr 0 0)) :: none :: none :: some (.ptr 1 0) :: some (.ptr 2 0) :: some (.sl 3 0 4 (some 4) 1) :: some (.own x n 3) :: some (int i) :: some (int k) :: (nn21 (nn48 [])))
end Sy
abbrev kdQ (κ : Int) (q : QNodeV) : QNodeV := ⟨κ, q.count, q.feat, q.lo, q.ln, q.ld, q.ho, q.hn, q.hd⟩
namespace Sy
theorem rnG_ren {x n n' : Nat} {i i' k k' : Int} (hn : n = n') (hi : i = i') (hk : k = k') : RenF (nm [0, 1, 2, 3, x]) (rnG x n i k) (rnG 4 n' i' k') := by
  subst hn hi hk
  simp only [RenF, and_true]
  exact ⟨⟨rfl, rfl⟩, ⟨rfl, rfl⟩, ⟨rfl, rfl⟩, ⟨rfl, rfl, rfl, rfl, rfl⟩, ⟨rfl, rfl, rfl⟩, rfl, rfl⟩
theorem rnM_ren {M : Mem} {s : ByteArray} {xs : List QNodeV} {q : QNodeV} {L : List TokV} {x n : Nat} {cell : Nat → Nat → AV} (hd : [0, 1, 2, 3, x].Nodup) (h0 : M.get 0 = some (ndQ s xs)) (h1 : M.get 1 = some (ndN q)) (h2 : M.get 2 = some spB) (h3 : M.get 3 = some wdB) (hx : M.get x = some (rowB n cell)) (hc : CellIs n cell L) : RenM (nm [0, 1, 2, 3, x]) M (rnM s xs q L) :=
  .of rfl rfl hd ⟨⟨x, _, rfl, hx, rfl, trivial, hc.1.symm, rfl, fun i j hi hj => hc.free _ (by have hi : i < L.length := hi; have := hc.1; omega) hj⟩, ⟨3, _, rfl, h3, rfl, ⟨rfl, rfl, rfl, rfl, trivial⟩, trivial⟩, ⟨2, _, rfl, h2, rfl, ⟨rfl, rfl, rfl, trivial⟩, trivial⟩, ⟨1, _, rfl, h1, rfl, ⟨rfl, rfl, rfl, rfl, rfl, rfl, rfl, rfl, rfl, trivial⟩, trivial⟩, ⟨0, _, rfl, h0, rfl, ⟨rfl, RenV.free _ (viewOf_free _ _ _ _), trivial⟩, trivial⟩, trivial⟩
end Sy
def SpansR (K : RdK) (xs : List QNodeV) : Nat → Int → Prop
  | 0, _ => True
  | m + 1, i => (inR i xs.length = true ∧ K.C i) ∧ SpansR K xs m (spanI xs i)
theorem Sy.rnd_step1 (s : ByteArray) (xs : List QNodeV) (hx : xs.length ≤ 17592186044416) (K : RdK) (hK : K.Ok s xs) (q : QNodeV) (L : List TokV) (i k : Int) (m : Nat) (G : Ex → Fr → Mem → Prop) (hk0 : 0 ≤ k) (hkc : k ≤ 1000000) (h5 : k < q.count → inR i xs.length = true ∧ K.C i)
    (hl : k < q.count → limT (L.length + 3 + (tmT xs K.T i).length))
    (c1 : k < q.count → LoopToT 4 Try.prog (theBody Try.prog 28 12) m (rnG 4 (L ++ ((if 0 < k then [spT, idT ⟨#[97, 110, 100]⟩, spT] else []) ++ tmT xs K.T i)).length (spanI xs i) (k + 1)) (rnM s xs (kdQ 1 q) (L ++ ((if 0 < k then [spT, idT ⟨#[97, 110, 100]⟩, spT] else []) ++ tmT xs K.T i))) G)
    (c2 : ¬ k < q.count → G (.exit 0) (rnG 4 L.length i k) (rnM s xs (kdQ 1 q) L)) :
    LoopToT 4 Try.prog (theBody Try.prog 28 12) (m + 1) (rnG 4 L.length i k) (rnM s xs (kdQ 1 q) L) G := by
  refine roundT plain mixed 4 [cTok, cRnd s xs K hK, cSpanRef s xs] [] 400 30 28 12 Try.func28 rfl (by kernel_rfl) (false :: false :: true :: false :: false :: true :: true :: true :: true :: true :: true :: (ff21 (ff48 []))) (.br (.br (.yes (.yes (.yes (.yes (.br (.yes (.yes (.yes (.yes (.yes (.yes .done)))))) (.yes (.yes .done))))))) (.yes (.yes (.br (.yes (.yes (.yes (.yes (.yes (.yes .done)))))) (.yes (.yes .done)))))) .done) (let e1 := (int (1 : Int)); let e2 := (@AV.lit (@Value.string (@ByteArray.mk (@Array.mk _ [(97 : UInt8), (110 : UInt8), (100 : UInt8)])))); let e3 := (@Nat.ble (L).length (L).length); let e4 := ((L).length + 3); let e5 := ((@HAppend.hAppend _ _ _ _ (@HAppend.hAppend _ _ _ _ [] [(@AV.agg [(@AV.lit (@Value.string s)), (@qview xs)]), (int i)]) []) = [(@query s xs), (int i)]); let e6 := (!(eqI ((xs.getD (i).toNat QNodeV.zero)).kind (4 : Int))); let e7 := (int (13 : Int)); let e8 := (@Value.string (@ByteArray.mk (@Array.mk _ []))); let e9 := (@AV.lit e8); let e10 := (@isSo (@And ((@HAppend.hAppend _ _ _ _ (@HAppend.hAppend _ _ _ _ [] [e7, e9]) []) = [e7, e9]) True)); let e11 := ((e4 + 1) + (((K).T i)).length); let e12 := (int (14 : Int)); let e13 := (@isSo (@And ((@HAppend.hAppend _ _ _ _ (@HAppend.hAppend _ _ _ _ [] [e12, e9]) []) = [e12, e9]) True)); let e14 := (@isSo (@And e5 ((xs).length ≤ 17592186044416))); let e15 := (some (@AV.ptr 0 0)); let e16 := (some (@AV.ptr 1 0)); let e17 := (some (@AV.ptr 2 0)); let e18 := (some (@AV.sl 3 0 4 (some 4) 1)); let e19 := (((((5 + 1) + 1) + 1) + 1) + 1); let e20 := (some (int (@spanI xs i))); let e21 := (some (int (w64 (k + (1 : Int))))); let e22 := (int (20 : Int)); let e23 := (int (0 : Int)); let e24 := (@Value.int IntKind.i64 (0 : Int)); let e25 := (@Array.toList _ (@Array.mk _ [e24, e8, e24])); let e26 := (e22 :: e9 :: e23 :: e1 :: e2 :: e23 :: e22 :: e9 :: e23 :: (@List.drop _ (6 + ([e22, e9, e23]).length) (e22 :: e9 :: e23 :: e1 :: e2 :: e23 :: (@List.drop _ (3 + ([e1, e2, e23]).length) (e22 :: e9 :: e23 :: (@List.drop _ (0 + ([e22, e9, e23]).length) (@List.map _ _ AV.lit (@Array.toList _ (@Array.mk _ [(@List.get _ e25 (@Fin.mk _ 0 (@Nat.le_of_ble_eq_true _ _ (@Eq.refl _ true)))), (@List.get _ e25 (@Fin.mk _ 1 (@Nat.le_of_ble_eq_true _ _ (@Eq.refl _ true)))), (@List.get _ e25 (@Fin.mk _ 2 (@Nat.le_of_ble_eq_true _ _ (@Eq.refl _ true)))), (@List.get _ e25 (@Fin.mk _ 0 (@Nat.le_of_ble_eq_true _ _ (@Eq.refl _ true)))), (@List.get _ e25 (@Fin.mk _ 1 (@Nat.le_of_ble_eq_true _ _ (@Eq.refl _ true)))), (@List.get _ e25 (@Fin.mk _ 2 (@Nat.le_of_ble_eq_true _ _ (@Eq.refl _ true)))), (@List.get _ e25 (@Fin.mk _ 0 (@Nat.le_of_ble_eq_true _ _ (@Eq.refl _ true)))), (@List.get _ e25 (@Fin.mk _ 1 (@Nat.le_of_ble_eq_true _ _ (@Eq.refl _ true)))), (@List.get _ e25 (@Fin.mk _ 2 (@Nat.le_of_ble_eq_true _ _ (@Eq.refl _ true))))]))))))))); let e27 := (@appc (L).length (@kcell L) (fun y0 => (fun y1 => (@getA (@List.take _ 9 e26) ((y0 * 3) + y1))))); let e28 := (@List.map _ _ AV.lit (@Array.toList _ (@Array.mk _ [(@List.get _ e25 (@Fin.mk _ 0 (@Nat.le_of_ble_eq_true _ _ (@Eq.refl _ true)))), (@List.get _ e25 (@Fin.mk _ 1 (@Nat.le_of_ble_eq_true _ _ (@Eq.refl _ true)))), (@List.get _ e25 (@Fin.mk _ 2 (@Nat.le_of_ble_eq_true _ _ (@Eq.refl _ true))))]))); let e29 := (e7 :: e9 :: e23 :: (@List.drop _ (0 + ([e7, e9, e23]).length) e28)); let e30 := (fun y0 => (fun y1 => (@getA (@List.take _ 3 e29) ((y0 * 3) + y1)))); let e31 := (fun y0 => (fun y1 => (@AV.lit ([(@Value.int IntKind.i64 ((((K).T i).getD y0 tok0)).kind), (@Value.string ((((K).T i).getD y0 tok0)).text), (@Value.int IntKind.i64 ((((K).T i).getD y0 tok0)).n)].getD y1 (@Value.tuple (@Array.mk _ [])))))); let e32 := (e12 :: e9 :: e23 :: (@List.drop _ (0 + ([e12, e9, e23]).length) e28)); let e33 := (fun y0 => (fun y1 => (@getA (@List.take _ 3 e32) ((y0 * 3) + y1)))); let e34 := (some (@Blk.mk [(int ((@kdQ (1 : Int) q)).kind), (int ((@kdQ (1 : Int) q)).count), (int ((@kdQ (1 : Int) q)).feat), (int ((@kdQ (1 : Int) q)).lo), (int ((@kdQ (1 : Int) q)).ln), (int ((@kdQ (1 : Int) q)).ld), (int ((@kdQ (1 : Int) q)).ho), (int ((@kdQ (1 : Int) q)).hn), (int ((@kdQ (1 : Int) q)).hd)] 45 none)); let e35 := (some (@Blk.mk [(@AV.lit (@Value.string s)), (@qview xs)] 24 none)); let e36 := (e4 + (((K).T i)).length); let e37 := ((L).length + 1); let e38 := (e37 + (((K).T i)).length); let e39 := ((L).length + (((K).T i)).length); (.fork (!(leI ((@kdQ (1 : Int) q)).count k)) (.fork (!(leI k (0 : Int))) (.need (@isSo (@And ((@HAppend.hAppend _ _ _ _ (@HAppend.hAppend _ _ _ _ [] [e1, e2]) []) = [e1, e2]) True)) (.need (Bool.true && (e3 && ((@Nat.ble (e4 * 32) 140737488355328) && (@Nat.ble e4 17592186044416)))) (.need (@isSo (@And e5 ((K).C i))) (.need (@inR i (xs).length) (.fork e6 (.need e10 (.need (Bool.true && ((@Nat.ble e4 e4) && ((@Nat.ble ((e4 + 1) * 32) 140737488355328) && (@Nat.ble (e4 + 1) 17592186044416)))) (.need (Bool.true && ((@Nat.ble (e4 + 1) (e4 + 1)) && ((@Nat.ble (e11 * 32) 140737488355328) && (@Nat.ble e11 17592186044416)))) (.need e13 (.need (Bool.true && ((@Nat.ble e11 e11) && ((@Nat.ble ((e11 + 1) * 32) 140737488355328) && (@Nat.ble (e11 + 1) 17592186044416)))) (.need e14 (.leaf (Ex.norm, ((none :: none :: e15 :: none :: none :: e16 :: e17 :: e18 :: (some (@AV.own (e19 + 1) (e11 + 1) 3)) :: e20 :: e21 :: (nn21 (nn48 []))), (@Mem.mk ((e19 + 1) + 1) ((((0 + 1) + 1) + 1) + 1) ((some (@Blk.mk [] 40 (some (@Rw.mk (e11 + 1) 3 (@appc e11 (@appc (e4 + 1) (@appc e4 e27 e30) e31) e33))))) :: ((some (@Blk.mk e32 40 none)) :: none :: (none :: ((some (@Blk.mk e29 40 none)) :: none :: [(some (@Blk.mk e26 40 none)), none, (some wdB), (some spB), e34, e35])))))))))))))) (.need (Bool.true && ((@Nat.ble e4 e4) && ((@Nat.ble (e36 * 32) 140737488355328) && (@Nat.ble e36 17592186044416)))) (.need e14 (.leaf (Ex.norm, ((none :: none :: e15 :: none :: none :: e16 :: e17 :: e18 :: (some (@AV.own ((5 + 1) + 1) e36 3)) :: e20 :: e21 :: (nn21 (nn48 []))), (@Mem.mk (((5 + 1) + 1) + 1) ((0 + 1) + 1) ((some (@Blk.mk [] 40 (some (@Rw.mk e36 3 (@appc e4 e27 e31))))) :: (none :: [(some (@Blk.mk e26 40 none)), none, (some wdB), (some spB), e34, e35]))))))))))))) (.need (@isSo (@And e5 ((K).C i))) (.need (@inR i (xs).length) (.fork e6 (.need e10 (.need (Bool.true && (e3 && ((@Nat.ble (e37 * 32) 140737488355328) && (@Nat.ble e37 17592186044416)))) (.need (Bool.true && ((@Nat.ble e37 e37) && ((@Nat.ble (e38 * 32) 140737488355328) && (@Nat.ble e38 17592186044416)))) (.need e13 (.need (Bool.true && ((@Nat.ble e38 e38) && ((@Nat.ble ((e38 + 1) * 32) 140737488355328) && (@Nat.ble (e38 + 1) 17592186044416)))) (.need e14 (.leaf (Ex.norm, ((none :: none :: e15 :: none :: none :: e16 :: e17 :: e18 :: (some (@AV.own ((((5 + 1) + 1) + 1) + 1) (e38 + 1) 3)) :: e20 :: e21 :: (nn21 (nn48 []))), (@Mem.mk e19 (((0 + 1) + 1) + 1) ((some (@Blk.mk [] 40 (some (@Rw.mk (e38 + 1) 3 (@appc e38 (@appc e37 (@appc (L).length (@kcell L) e30) e31) e33))))) :: ((some (@Blk.mk e32 40 none)) :: none :: (none :: [(some (@Blk.mk e29 40 none)), none, (some wdB), (some spB), e34, e35]))))))))))))) (.need (Bool.true && (e3 && ((@Nat.ble (e39 * 32) 140737488355328) && (@Nat.ble e39 17592186044416)))) (.need e14 (.leaf (Ex.norm, ((none :: none :: e15 :: none :: none :: e16 :: e17 :: e18 :: (some (@AV.own 5 e39 3)) :: e20 :: e21 :: (nn21 (nn48 []))), (@Mem.mk (5 + 1) (0 + 1) ((some (@Blk.mk [] 40 (some (@Rw.mk e39 3 (@appc (L).length (@kcell L) e31))))) :: [none, (some wdB), (some spB), e34, e35]))))))))))) (.leaf ((@Ex.exit 0), ((none :: none :: e15 :: none :: none :: e16 :: e17 :: e18 :: (some (@AV.own 4 (L).length 3)) :: (some (int i)) :: (some (int k)) :: (nn21 (nn48 []))), (@Mem.mk 5 0 [(some (@Blk.mk [] 40 (some (@Rw.mk (L).length 3 (@kcell L))))), (some wdB), (some spB), e34, e35])))))) (by kernel_rfl) ?_
  refine fork_ok (fun a1 => ?_) (fun a1 => ?_)
  · simp only [Bool.not_eq_true', Bool.not_eq_false', leI_t, leI_f, eqI_t, eqI_f, inR_t, inR_f, isSo_t, isSo_f] at a1
    have a1 : k < q.count := by have : ¬ q.count ≤ k := a1; omega
    have c1 := c1 a1
    have hl := hl a1
    unfold limT tmT at hl
    have h5 := h5 a1
    have e1 : w64 (k + 1) = k + 1 := w64_in (by omega)
    unfold tmT at c1
    refine fork_ok (fun a2 => ?_) (fun a2 => ?_)
    · simp only [Bool.not_eq_true', Bool.not_eq_false', leI_t, leI_f, eqI_t, eqI_f, inR_t, inR_f, isSo_t, isSo_f] at a2
      rw [if_pos (show 0 < k by omega)] at c1
      by_cases hk4 : (nodeN xs i).kind = 4
      · rw [if_pos hk4] at c1 hl
        have b4 : (!eqI (xs.getD i.toNat QNodeV.zero).kind 4) = false := by rw [Bool.not_eq_false', eqI_t]; exact hk4
        (repeat' (first
        | (refine need_so ?_ ?_; (focus (first | exact ⟨rfl, trivial⟩ | exact ⟨rfl, h5.2⟩ | exact ⟨rfl, hx⟩)))
        | (refine need_t ?_ ?_; (focus (first | exact h5.1 | (simp only [Bool.true_and, Bool.and_eq_true, Nat.ble_eq]; omega))))))
        refine fork_f b4 ?_
        (repeat' (first
        | (refine need_so ?_ ?_; (focus (first | exact ⟨rfl, trivial⟩ | exact ⟨rfl, h5.2⟩ | exact ⟨rfl, hx⟩)))
        | (refine need_t ?_ ?_; (focus (first | exact h5.1 | (simp only [Bool.true_and, Bool.and_eq_true, Nat.ble_eq]; omega))))))
        exact LoopToT.ren [0, 1, 2, 3, 7] rfl (rnG_ren (by simp only [List.length_append, List.length_cons, List.length_nil]; omega) rfl e1) (rnM_ren (by decide) rfl rfl rfl rfl rfl (CellIs.cast (CellIs.app2 ((CellIs.app (CellIs.kc L) (show CellIs 3 _ [spT, idT ⟨#[97, 110, 100]⟩, spT] from ⟨rfl, (fun i j hi hj => by
        rcases i with _ | _ | _ | i
        · rcases j with _ | _ | _ | j
          · exact rfl
          · exact rfl
          · exact rfl
          · omega
        · rcases j with _ | _ | _ | j
          · exact rfl
          · exact rfl
          · exact rfl
          · omega
        · rcases j with _ | _ | _ | j
          · exact rfl
          · exact rfl
          · exact rfl
          · omega
        · omega)⟩))) rfl) (by simp [List.append_assoc]))) c1
      · rw [if_neg hk4] at c1 hl
        simp only [List.length_append, List.length_cons, List.length_nil] at hl
        have b4 : (!eqI (xs.getD i.toNat QNodeV.zero).kind 4) = true := by rw [Bool.not_eq_true', eqI_f]; exact hk4
        (repeat' (first
        | (refine need_so ?_ ?_; (focus (first | exact ⟨rfl, trivial⟩ | exact ⟨rfl, h5.2⟩ | exact ⟨rfl, hx⟩)))
        | (refine need_t ?_ ?_; (focus (first | exact h5.1 | (simp only [Bool.true_and, Bool.and_eq_true, Nat.ble_eq]; omega))))))
        refine fork_t b4 ?_
        (repeat' (first
        | (refine need_so ?_ ?_; (focus (first | exact ⟨rfl, trivial⟩ | exact ⟨rfl, h5.2⟩ | exact ⟨rfl, hx⟩)))
        | (refine need_t ?_ ?_; (focus (first | exact h5.1 | (simp only [Bool.true_and, Bool.and_eq_true, Nat.ble_eq]; omega))))))
        exact LoopToT.ren [0, 1, 2, 3, 11] rfl (rnG_ren (by simp only [List.length_append, List.length_cons, List.length_nil]; omega) rfl e1) (rnM_ren (by decide) rfl rfl rfl rfl rfl (CellIs.cast (CellIs.app ((CellIs.app2 ((CellIs.app ((CellIs.app (CellIs.kc L) (show CellIs 3 _ [spT, idT ⟨#[97, 110, 100]⟩, spT] from ⟨rfl, (fun i j hi hj => by
        rcases i with _ | _ | _ | i
        · rcases j with _ | _ | _ | j
          · exact rfl
          · exact rfl
          · exact rfl
          · omega
        · rcases j with _ | _ | _ | j
          · exact rfl
          · exact rfl
          · exact rfl
          · omega
        · rcases j with _ | _ | _ | j
          · exact rfl
          · exact rfl
          · exact rfl
          · omega
        · omega)⟩))) (CellIs.one 13 ⟨#[]⟩ 0 (fun j hj => by
              rcases j with _ | _ | _ | j
              · exact rfl
              · exact rfl
              · exact rfl
              · omega)))) rfl)) (CellIs.one 14 ⟨#[]⟩ 0 (fun j hj => by
              rcases j with _ | _ | _ | j
              · exact rfl
              · exact rfl
              · exact rfl
              · omega))) (by simp [List.append_assoc]))) c1
    · simp only [Bool.not_eq_true', Bool.not_eq_false', leI_t, leI_f, eqI_t, eqI_f, inR_t, inR_f, isSo_t, isSo_f] at a2
      rw [if_neg (show ¬ 0 < k by omega)] at c1
      by_cases hk4 : (nodeN xs i).kind = 4
      · rw [if_pos hk4] at c1 hl
        have b4 : (!eqI (xs.getD i.toNat QNodeV.zero).kind 4) = false := by rw [Bool.not_eq_false', eqI_t]; exact hk4
        (repeat' (first
        | (refine need_so ?_ ?_; (focus (first | exact ⟨rfl, trivial⟩ | exact ⟨rfl, h5.2⟩ | exact ⟨rfl, hx⟩)))
        | (refine need_t ?_ ?_; (focus (first | exact h5.1 | (simp only [Bool.true_and, Bool.and_eq_true, Nat.ble_eq]; omega))))))
        refine fork_f b4 ?_
        (repeat' (first
        | (refine need_so ?_ ?_; (focus (first | exact ⟨rfl, trivial⟩ | exact ⟨rfl, h5.2⟩ | exact ⟨rfl, hx⟩)))
        | (refine need_t ?_ ?_; (focus (first | exact h5.1 | (simp only [Bool.true_and, Bool.and_eq_true, Nat.ble_eq]; omega))))))
        exact LoopToT.ren [0, 1, 2, 3, 5] rfl (rnG_ren (by simp only [List.length_append, List.length_cons, List.length_nil]; omega) rfl e1) (rnM_ren (by decide) rfl rfl rfl rfl rfl (CellIs.cast (CellIs.app2 (CellIs.kc L) rfl) (by simp [List.append_assoc]))) c1
      · rw [if_neg hk4] at c1 hl
        simp only [List.length_append, List.length_cons, List.length_nil] at hl
        have b4 : (!eqI (xs.getD i.toNat QNodeV.zero).kind 4) = true := by rw [Bool.not_eq_true', eqI_f]; exact hk4
        (repeat' (first
        | (refine need_so ?_ ?_; (focus (first | exact ⟨rfl, trivial⟩ | exact ⟨rfl, h5.2⟩ | exact ⟨rfl, hx⟩)))
        | (refine need_t ?_ ?_; (focus (first | exact h5.1 | (simp only [Bool.true_and, Bool.and_eq_true, Nat.ble_eq]; omega))))))
        refine fork_t b4 ?_
        (repeat' (first
        | (refine need_so ?_ ?_; (focus (first | exact ⟨rfl, trivial⟩ | exact ⟨rfl, h5.2⟩ | exact ⟨rfl, hx⟩)))
        | (refine need_t ?_ ?_; (focus (first | exact h5.1 | (simp only [Bool.true_and, Bool.and_eq_true, Nat.ble_eq]; omega))))))
        exact LoopToT.ren [0, 1, 2, 3, 9] rfl (rnG_ren (by simp only [List.length_append, List.length_cons, List.length_nil]; omega) rfl e1) (rnM_ren (by decide) rfl rfl rfl rfl rfl (CellIs.cast (CellIs.app ((CellIs.app2 ((CellIs.app (CellIs.kc L) (CellIs.one 13 ⟨#[]⟩ 0 (fun j hj => by
              rcases j with _ | _ | _ | j
              · exact rfl
              · exact rfl
              · exact rfl
              · omega)))) rfl)) (CellIs.one 14 ⟨#[]⟩ 0 (fun j hj => by
              rcases j with _ | _ | _ | j
              · exact rfl
              · exact rfl
              · exact rfl
              · omega))) (by simp [List.append_assoc]))) c1
  · simp only [Bool.not_eq_true', Bool.not_eq_false', leI_t, leI_f, eqI_t, eqI_f, inR_t, inR_f, isSo_t, isSo_f] at a1
    exact c2 (by have : q.count ≤ k := a1; omega)
theorem Sy.rnd_step2 (s : ByteArray) (xs : List QNodeV) (hx : xs.length ≤ 17592186044416) (K : RdK) (hK : K.Ok s xs) (q : QNodeV) (L : List TokV) (i k : Int) (m : Nat) (G : Ex → Fr → Mem → Prop) (hk0 : 0 ≤ k) (hkc : k ≤ 1000000) (h5 : k < q.count → inR i xs.length = true ∧ K.C i)
    (hl : k < q.count → limT (L.length + 3 + (tmT xs K.T i).length))
    (c1 : k < q.count → LoopToT 4 Try.prog (theBody Try.prog 28 12) m (rnG 4 (L ++ ((if 0 < k then [spT, idT ⟨#[111, 114]⟩, spT] else []) ++ tmT xs K.T i)).length (spanI xs i) (k + 1)) (rnM s xs (kdQ 2 q) (L ++ ((if 0 < k then [spT, idT ⟨#[111, 114]⟩, spT] else []) ++ tmT xs K.T i))) G)
    (c2 : ¬ k < q.count → G (.exit 0) (rnG 4 L.length i k) (rnM s xs (kdQ 2 q) L)) :
    LoopToT 4 Try.prog (theBody Try.prog 28 12) (m + 1) (rnG 4 L.length i k) (rnM s xs (kdQ 2 q) L) G := by
  refine roundT plain mixed 4 [cTok, cRnd s xs K hK, cSpanRef s xs] [] 400 30 28 12 Try.func28 rfl (by kernel_rfl) (false :: false :: true :: false :: false :: true :: true :: true :: true :: true :: true :: (ff21 (ff48 []))) (.br (.br (.yes (.yes (.yes (.yes (.br (.yes (.yes (.yes (.yes (.yes (.yes .done)))))) (.yes (.yes .done))))))) (.yes (.yes (.br (.yes (.yes (.yes (.yes (.yes (.yes .done)))))) (.yes (.yes .done)))))) .done) (let e1 := (int (1 : Int)); let e2 := (@AV.lit (@Value.string (@ByteArray.mk (@Array.mk _ [(111 : UInt8), (114 : UInt8)])))); let e3 := (@Nat.ble (L).length (L).length); let e4 := ((L).length + 3); let e5 := ((@HAppend.hAppend _ _ _ _ (@HAppend.hAppend _ _ _ _ [] [(@AV.agg [(@AV.lit (@Value.string s)), (@qview xs)]), (int i)]) []) = [(@query s xs), (int i)]); let e6 := (!(eqI ((xs.getD (i).toNat QNodeV.zero)).kind (4 : Int))); let e7 := (int (13 : Int)); let e8 := (@Value.string (@ByteArray.mk (@Array.mk _ []))); let e9 := (@AV.lit e8); let e10 := (@isSo (@And ((@HAppend.hAppend _ _ _ _ (@HAppend.hAppend _ _ _ _ [] [e7, e9]) []) = [e7, e9]) True)); let e11 := ((e4 + 1) + (((K).T i)).length); let e12 := (int (14 : Int)); let e13 := (@isSo (@And ((@HAppend.hAppend _ _ _ _ (@HAppend.hAppend _ _ _ _ [] [e12, e9]) []) = [e12, e9]) True)); let e14 := (@isSo (@And e5 ((xs).length ≤ 17592186044416))); let e15 := (some (@AV.ptr 0 0)); let e16 := (some (@AV.ptr 1 0)); let e17 := (some (@AV.ptr 2 0)); let e18 := (some (@AV.sl 3 0 4 (some 4) 1)); let e19 := (((((5 + 1) + 1) + 1) + 1) + 1); let e20 := (some (int (@spanI xs i))); let e21 := (some (int (w64 (k + (1 : Int))))); let e22 := (int (20 : Int)); let e23 := (int (0 : Int)); let e24 := (@Value.int IntKind.i64 (0 : Int)); let e25 := (@Array.toList _ (@Array.mk _ [e24, e8, e24])); let e26 := (e22 :: e9 :: e23 :: e1 :: e2 :: e23 :: e22 :: e9 :: e23 :: (@List.drop _ (6 + ([e22, e9, e23]).length) (e22 :: e9 :: e23 :: e1 :: e2 :: e23 :: (@List.drop _ (3 + ([e1, e2, e23]).length) (e22 :: e9 :: e23 :: (@List.drop _ (0 + ([e22, e9, e23]).length) (@List.map _ _ AV.lit (@Array.toList _ (@Array.mk _ [(@List.get _ e25 (@Fin.mk _ 0 (@Nat.le_of_ble_eq_true _ _ (@Eq.refl _ true)))), (@List.get _ e25 (@Fin.mk _ 1 (@Nat.le_of_ble_eq_true _ _ (@Eq.refl _ true)))), (@List.get _ e25 (@Fin.mk _ 2 (@Nat.le_of_ble_eq_true _ _ (@Eq.refl _ true)))), (@List.get _ e25 (@Fin.mk _ 0 (@Nat.le_of_ble_eq_true _ _ (@Eq.refl _ true)))), (@List.get _ e25 (@Fin.mk _ 1 (@Nat.le_of_ble_eq_true _ _ (@Eq.refl _ true)))), (@List.get _ e25 (@Fin.mk _ 2 (@Nat.le_of_ble_eq_true _ _ (@Eq.refl _ true)))), (@List.get _ e25 (@Fin.mk _ 0 (@Nat.le_of_ble_eq_true _ _ (@Eq.refl _ true)))), (@List.get _ e25 (@Fin.mk _ 1 (@Nat.le_of_ble_eq_true _ _ (@Eq.refl _ true)))), (@List.get _ e25 (@Fin.mk _ 2 (@Nat.le_of_ble_eq_true _ _ (@Eq.refl _ true))))]))))))))); let e27 := (@appc (L).length (@kcell L) (fun y0 => (fun y1 => (@getA (@List.take _ 9 e26) ((y0 * 3) + y1))))); let e28 := (@List.map _ _ AV.lit (@Array.toList _ (@Array.mk _ [(@List.get _ e25 (@Fin.mk _ 0 (@Nat.le_of_ble_eq_true _ _ (@Eq.refl _ true)))), (@List.get _ e25 (@Fin.mk _ 1 (@Nat.le_of_ble_eq_true _ _ (@Eq.refl _ true)))), (@List.get _ e25 (@Fin.mk _ 2 (@Nat.le_of_ble_eq_true _ _ (@Eq.refl _ true))))]))); let e29 := (e7 :: e9 :: e23 :: (@List.drop _ (0 + ([e7, e9, e23]).length) e28)); let e30 := (fun y0 => (fun y1 => (@getA (@List.take _ 3 e29) ((y0 * 3) + y1)))); let e31 := (fun y0 => (fun y1 => (@AV.lit ([(@Value.int IntKind.i64 ((((K).T i).getD y0 tok0)).kind), (@Value.string ((((K).T i).getD y0 tok0)).text), (@Value.int IntKind.i64 ((((K).T i).getD y0 tok0)).n)].getD y1 (@Value.tuple (@Array.mk _ [])))))); let e32 := (e12 :: e9 :: e23 :: (@List.drop _ (0 + ([e12, e9, e23]).length) e28)); let e33 := (fun y0 => (fun y1 => (@getA (@List.take _ 3 e32) ((y0 * 3) + y1)))); let e34 := (some (@Blk.mk [(int ((@kdQ (2 : Int) q)).kind), (int ((@kdQ (2 : Int) q)).count), (int ((@kdQ (2 : Int) q)).feat), (int ((@kdQ (2 : Int) q)).lo), (int ((@kdQ (2 : Int) q)).ln), (int ((@kdQ (2 : Int) q)).ld), (int ((@kdQ (2 : Int) q)).ho), (int ((@kdQ (2 : Int) q)).hn), (int ((@kdQ (2 : Int) q)).hd)] 45 none)); let e35 := (some (@Blk.mk [(@AV.lit (@Value.string s)), (@qview xs)] 24 none)); let e36 := (e4 + (((K).T i)).length); let e37 := ((L).length + 1); let e38 := (e37 + (((K).T i)).length); let e39 := ((L).length + (((K).T i)).length); (.fork (!(leI ((@kdQ (2 : Int) q)).count k)) (.fork (!(leI k (0 : Int))) (.need (@isSo (@And ((@HAppend.hAppend _ _ _ _ (@HAppend.hAppend _ _ _ _ [] [e1, e2]) []) = [e1, e2]) True)) (.need (Bool.true && (e3 && ((@Nat.ble (e4 * 32) 140737488355328) && (@Nat.ble e4 17592186044416)))) (.need (@isSo (@And e5 ((K).C i))) (.need (@inR i (xs).length) (.fork e6 (.need e10 (.need (Bool.true && ((@Nat.ble e4 e4) && ((@Nat.ble ((e4 + 1) * 32) 140737488355328) && (@Nat.ble (e4 + 1) 17592186044416)))) (.need (Bool.true && ((@Nat.ble (e4 + 1) (e4 + 1)) && ((@Nat.ble (e11 * 32) 140737488355328) && (@Nat.ble e11 17592186044416)))) (.need e13 (.need (Bool.true && ((@Nat.ble e11 e11) && ((@Nat.ble ((e11 + 1) * 32) 140737488355328) && (@Nat.ble (e11 + 1) 17592186044416)))) (.need e14 (.leaf (Ex.norm, ((none :: none :: e15 :: none :: none :: e16 :: e17 :: e18 :: (some (@AV.own (e19 + 1) (e11 + 1) 3)) :: e20 :: e21 :: (nn21 (nn48 []))), (@Mem.mk ((e19 + 1) + 1) ((((0 + 1) + 1) + 1) + 1) ((some (@Blk.mk [] 40 (some (@Rw.mk (e11 + 1) 3 (@appc e11 (@appc (e4 + 1) (@appc e4 e27 e30) e31) e33))))) :: ((some (@Blk.mk e32 40 none)) :: none :: (none :: ((some (@Blk.mk e29 40 none)) :: none :: [(some (@Blk.mk e26 40 none)), none, (some wdB), (some spB), e34, e35])))))))))))))) (.need (Bool.true && ((@Nat.ble e4 e4) && ((@Nat.ble (e36 * 32) 140737488355328) && (@Nat.ble e36 17592186044416)))) (.need e14 (.leaf (Ex.norm, ((none :: none :: e15 :: none :: none :: e16 :: e17 :: e18 :: (some (@AV.own ((5 + 1) + 1) e36 3)) :: e20 :: e21 :: (nn21 (nn48 []))), (@Mem.mk (((5 + 1) + 1) + 1) ((0 + 1) + 1) ((some (@Blk.mk [] 40 (some (@Rw.mk e36 3 (@appc e4 e27 e31))))) :: (none :: [(some (@Blk.mk e26 40 none)), none, (some wdB), (some spB), e34, e35]))))))))))))) (.need (@isSo (@And e5 ((K).C i))) (.need (@inR i (xs).length) (.fork e6 (.need e10 (.need (Bool.true && (e3 && ((@Nat.ble (e37 * 32) 140737488355328) && (@Nat.ble e37 17592186044416)))) (.need (Bool.true && ((@Nat.ble e37 e37) && ((@Nat.ble (e38 * 32) 140737488355328) && (@Nat.ble e38 17592186044416)))) (.need e13 (.need (Bool.true && ((@Nat.ble e38 e38) && ((@Nat.ble ((e38 + 1) * 32) 140737488355328) && (@Nat.ble (e38 + 1) 17592186044416)))) (.need e14 (.leaf (Ex.norm, ((none :: none :: e15 :: none :: none :: e16 :: e17 :: e18 :: (some (@AV.own ((((5 + 1) + 1) + 1) + 1) (e38 + 1) 3)) :: e20 :: e21 :: (nn21 (nn48 []))), (@Mem.mk e19 (((0 + 1) + 1) + 1) ((some (@Blk.mk [] 40 (some (@Rw.mk (e38 + 1) 3 (@appc e38 (@appc e37 (@appc (L).length (@kcell L) e30) e31) e33))))) :: ((some (@Blk.mk e32 40 none)) :: none :: (none :: [(some (@Blk.mk e29 40 none)), none, (some wdB), (some spB), e34, e35]))))))))))))) (.need (Bool.true && (e3 && ((@Nat.ble (e39 * 32) 140737488355328) && (@Nat.ble e39 17592186044416)))) (.need e14 (.leaf (Ex.norm, ((none :: none :: e15 :: none :: none :: e16 :: e17 :: e18 :: (some (@AV.own 5 e39 3)) :: e20 :: e21 :: (nn21 (nn48 []))), (@Mem.mk (5 + 1) (0 + 1) ((some (@Blk.mk [] 40 (some (@Rw.mk e39 3 (@appc (L).length (@kcell L) e31))))) :: [none, (some wdB), (some spB), e34, e35]))))))))))) (.leaf ((@Ex.exit 0), ((none :: none :: e15 :: none :: none :: e16 :: e17 :: e18 :: (some (@AV.own 4 (L).length 3)) :: (some (int i)) :: (some (int k)) :: (nn21 (nn48 []))), (@Mem.mk 5 0 [(some (@Blk.mk [] 40 (some (@Rw.mk (L).length 3 (@kcell L))))), (some wdB), (some spB), e34, e35])))))) (by kernel_rfl) ?_
  refine fork_ok (fun a1 => ?_) (fun a1 => ?_)
  · simp only [Bool.not_eq_true', Bool.not_eq_false', leI_t, leI_f, eqI_t, eqI_f, inR_t, inR_f, isSo_t, isSo_f] at a1
    have a1 : k < q.count := by have : ¬ q.count ≤ k := a1; omega
    have c1 := c1 a1
    have hl := hl a1
    unfold limT tmT at hl
    have h5 := h5 a1
    have e1 : w64 (k + 1) = k + 1 := w64_in (by omega)
    unfold tmT at c1
    refine fork_ok (fun a2 => ?_) (fun a2 => ?_)
    · simp only [Bool.not_eq_true', Bool.not_eq_false', leI_t, leI_f, eqI_t, eqI_f, inR_t, inR_f, isSo_t, isSo_f] at a2
      rw [if_pos (show 0 < k by omega)] at c1
      by_cases hk4 : (nodeN xs i).kind = 4
      · rw [if_pos hk4] at c1 hl
        have b4 : (!eqI (xs.getD i.toNat QNodeV.zero).kind 4) = false := by rw [Bool.not_eq_false', eqI_t]; exact hk4
        (repeat' (first
        | (refine need_so ?_ ?_; (focus (first | exact ⟨rfl, trivial⟩ | exact ⟨rfl, h5.2⟩ | exact ⟨rfl, hx⟩)))
        | (refine need_t ?_ ?_; (focus (first | exact h5.1 | (simp only [Bool.true_and, Bool.and_eq_true, Nat.ble_eq]; omega))))))
        refine fork_f b4 ?_
        (repeat' (first
        | (refine need_so ?_ ?_; (focus (first | exact ⟨rfl, trivial⟩ | exact ⟨rfl, h5.2⟩ | exact ⟨rfl, hx⟩)))
        | (refine need_t ?_ ?_; (focus (first | exact h5.1 | (simp only [Bool.true_and, Bool.and_eq_true, Nat.ble_eq]; omega))))))
        exact LoopToT.ren [0, 1, 2, 3, 7] rfl (rnG_ren (by simp only [List.length_append, List.length_cons, List.length_nil]; omega) rfl e1) (rnM_ren (by decide) rfl rfl rfl rfl rfl (CellIs.cast (CellIs.app2 ((CellIs.app (CellIs.kc L) (show CellIs 3 _ [spT, idT ⟨#[111, 114]⟩, spT] from ⟨rfl, (fun i j hi hj => by
        rcases i with _ | _ | _ | i
        · rcases j with _ | _ | _ | j
          · exact rfl
          · exact rfl
          · exact rfl
          · omega
        · rcases j with _ | _ | _ | j
          · exact rfl
          · exact rfl
          · exact rfl
          · omega
        · rcases j with _ | _ | _ | j
          · exact rfl
          · exact rfl
          · exact rfl
          · omega
        · omega)⟩))) rfl) (by simp [List.append_assoc]))) c1
      · rw [if_neg hk4] at c1 hl
        simp only [List.length_append, List.length_cons, List.length_nil] at hl
        have b4 : (!eqI (xs.getD i.toNat QNodeV.zero).kind 4) = true := by rw [Bool.not_eq_true', eqI_f]; exact hk4
        (repeat' (first
        | (refine need_so ?_ ?_; (focus (first | exact ⟨rfl, trivial⟩ | exact ⟨rfl, h5.2⟩ | exact ⟨rfl, hx⟩)))
        | (refine need_t ?_ ?_; (focus (first | exact h5.1 | (simp only [Bool.true_and, Bool.and_eq_true, Nat.ble_eq]; omega))))))
        refine fork_t b4 ?_
        (repeat' (first
        | (refine need_so ?_ ?_; (focus (first | exact ⟨rfl, trivial⟩ | exact ⟨rfl, h5.2⟩ | exact ⟨rfl, hx⟩)))
        | (refine need_t ?_ ?_; (focus (first | exact h5.1 | (simp only [Bool.true_and, Bool.and_eq_true, Nat.ble_eq]; omega))))))
        exact LoopToT.ren [0, 1, 2, 3, 11] rfl (rnG_ren (by simp only [List.length_append, List.length_cons, List.length_nil]; omega) rfl e1) (rnM_ren (by decide) rfl rfl rfl rfl rfl (CellIs.cast (CellIs.app ((CellIs.app2 ((CellIs.app ((CellIs.app (CellIs.kc L) (show CellIs 3 _ [spT, idT ⟨#[111, 114]⟩, spT] from ⟨rfl, (fun i j hi hj => by
        rcases i with _ | _ | _ | i
        · rcases j with _ | _ | _ | j
          · exact rfl
          · exact rfl
          · exact rfl
          · omega
        · rcases j with _ | _ | _ | j
          · exact rfl
          · exact rfl
          · exact rfl
          · omega
        · rcases j with _ | _ | _ | j
          · exact rfl
          · exact rfl
          · exact rfl
          · omega
        · omega)⟩))) (CellIs.one 13 ⟨#[]⟩ 0 (fun j hj => by
              rcases j with _ | _ | _ | j
              · exact rfl
              · exact rfl
              · exact rfl
              · omega)))) rfl)) (CellIs.one 14 ⟨#[]⟩ 0 (fun j hj => by
              rcases j with _ | _ | _ | j
              · exact rfl
              · exact rfl
              · exact rfl
              · omega))) (by simp [List.append_assoc]))) c1
    · simp only [Bool.not_eq_true', Bool.not_eq_false', leI_t, leI_f, eqI_t, eqI_f, inR_t, inR_f, isSo_t, isSo_f] at a2
      rw [if_neg (show ¬ 0 < k by omega)] at c1
      by_cases hk4 : (nodeN xs i).kind = 4
      · rw [if_pos hk4] at c1 hl
        have b4 : (!eqI (xs.getD i.toNat QNodeV.zero).kind 4) = false := by rw [Bool.not_eq_false', eqI_t]; exact hk4
        (repeat' (first
        | (refine need_so ?_ ?_; (focus (first | exact ⟨rfl, trivial⟩ | exact ⟨rfl, h5.2⟩ | exact ⟨rfl, hx⟩)))
        | (refine need_t ?_ ?_; (focus (first | exact h5.1 | (simp only [Bool.true_and, Bool.and_eq_true, Nat.ble_eq]; omega))))))
        refine fork_f b4 ?_
        (repeat' (first
        | (refine need_so ?_ ?_; (focus (first | exact ⟨rfl, trivial⟩ | exact ⟨rfl, h5.2⟩ | exact ⟨rfl, hx⟩)))
        | (refine need_t ?_ ?_; (focus (first | exact h5.1 | (simp only [Bool.true_and, Bool.and_eq_true, Nat.ble_eq]; omega))))))
        exact LoopToT.ren [0, 1, 2, 3, 5] rfl (rnG_ren (by simp only [List.length_append, List.length_cons, List.length_nil]; omega) rfl e1) (rnM_ren (by decide) rfl rfl rfl rfl rfl (CellIs.cast (CellIs.app2 (CellIs.kc L) rfl) (by simp [List.append_assoc]))) c1
      · rw [if_neg hk4] at c1 hl
        simp only [List.length_append, List.length_cons, List.length_nil] at hl
        have b4 : (!eqI (xs.getD i.toNat QNodeV.zero).kind 4) = true := by rw [Bool.not_eq_true', eqI_f]; exact hk4
        (repeat' (first
        | (refine need_so ?_ ?_; (focus (first | exact ⟨rfl, trivial⟩ | exact ⟨rfl, h5.2⟩ | exact ⟨rfl, hx⟩)))
        | (refine need_t ?_ ?_; (focus (first | exact h5.1 | (simp only [Bool.true_and, Bool.and_eq_true, Nat.ble_eq]; omega))))))
        refine fork_t b4 ?_
        (repeat' (first
        | (refine need_so ?_ ?_; (focus (first | exact ⟨rfl, trivial⟩ | exact ⟨rfl, h5.2⟩ | exact ⟨rfl, hx⟩)))
        | (refine need_t ?_ ?_; (focus (first | exact h5.1 | (simp only [Bool.true_and, Bool.and_eq_true, Nat.ble_eq]; omega))))))
        exact LoopToT.ren [0, 1, 2, 3, 9] rfl (rnG_ren (by simp only [List.length_append, List.length_cons, List.length_nil]; omega) rfl e1) (rnM_ren (by decide) rfl rfl rfl rfl rfl (CellIs.cast (CellIs.app ((CellIs.app2 ((CellIs.app (CellIs.kc L) (CellIs.one 13 ⟨#[]⟩ 0 (fun j hj => by
              rcases j with _ | _ | _ | j
              · exact rfl
              · exact rfl
              · exact rfl
              · omega)))) rfl)) (CellIs.one 14 ⟨#[]⟩ 0 (fun j hj => by
              rcases j with _ | _ | _ | j
              · exact rfl
              · exact rfl
              · exact rfl
              · omega))) (by simp [List.append_assoc]))) c1
  · simp only [Bool.not_eq_true', Bool.not_eq_false', leI_t, leI_f, eqI_t, eqI_f, inR_t, inR_f, isSo_t, isSo_f] at a1
    exact c2 (by have : q.count ≤ k := a1; omega)
end Go.Proofs.Ytlmanlpgknhfpaa
namespace Go.Proofs.Ytlmanlpgknhfpaa
open Go Go.RowKit Pl Sy
theorem Sy.rnd_step (κ : Int) (hκ : κ = 1 ∨ κ = 2) (s : ByteArray) (xs : List QNodeV) (hx : xs.length ≤ 17592186044416) (K : RdK) (hK : K.Ok s xs) (q : QNodeV) (L : List TokV) (i k : Int) (m : Nat) (G : Ex → Fr → Mem → Prop) (hk0 : 0 ≤ k) (hkc : k ≤ 1000000) (h5 : k < q.count → inR i xs.length = true ∧ K.C i)
    (hl : k < q.count → limT (L.length + 3 + (tmT xs K.T i).length))
    (c1 : k < q.count → LoopToT 4 Try.prog (theBody Try.prog 28 12) m (rnG 4 (L ++ ((if 0 < k then [spT, idT (wdS κ), spT] else []) ++ tmT xs K.T i)).length (spanI xs i) (k + 1)) (rnM s xs (kdQ κ q) (L ++ ((if 0 < k then [spT, idT (wdS κ), spT] else []) ++ tmT xs K.T i))) G)
    (c2 : ¬ k < q.count → G (.exit 0) (rnG 4 L.length i k) (rnM s xs (kdQ κ q) L)) :
    LoopToT 4 Try.prog (theBody Try.prog 28 12) (m + 1) (rnG 4 L.length i k) (rnM s xs (kdQ κ q) L) G := by
  rcases hκ with rfl | rfl
  · exact Sy.rnd_step1 s xs hx K hK q L i k m G hk0 hkc h5 hl c1 c2
  · exact Sy.rnd_step2 s xs hx K hK q L i k m G hk0 hkc h5 hl c1 c2
theorem Sy.rnd_loop (κ : Int) (hκ : κ = 1 ∨ κ = 2) (s : ByteArray) (xs : List QNodeV) (hx : xs.length ≤ 17592186044416) (K : RdK) (hK : K.Ok s xs) (q : QNodeV) (hq : q.count ≤ 100000) : ∀ (r : Nat) (L : List TokV) (i k : Int), 1 ≤ k → k + r = q.count → SpansR K xs r i → limT (L.length + 3 + (lpT xs K.T (wdS κ) r i).length) →
    LoopToT 4 Try.prog (theBody Try.prog 28 12) (r + 1) (rnG 4 L.length i k) (rnM s xs (kdQ κ q) L) (RG 4 fun ex F M => ex = .exit 0 ∧ F = rnG 4 (L ++ lpT xs K.T (wdS κ) r i).length (spE xs r i) q.count ∧ M = rnM s xs (kdQ κ q) (L ++ lpT xs K.T (wdS κ) r i)) := by
  intro r
  induction r with
  | zero =>
    intro L i k h1 h2 h3 h4
    refine Sy.rnd_step κ hκ s xs hx K hK q L i k 0 _ (by omega) (by omega) (fun h => by omega) (fun h => by omega) (fun h => by omega) (fun _ => ?_)
    have hk : k = q.count := by omega
    rw [show lpT xs K.T (wdS κ) 0 i = [] from rfl, List.append_nil, hk]
    exact ⟨_, _, [0, 1, 2, 3, 4], rfl, rnG_ren rfl rfl rfl, rnM_ren (by decide) rfl rfl rfl rfl rfl (CellIs.kc L), rfl, rfl, rfl⟩
  | succ r ih =>
    intro L i k h1 h2 h3 h4
    obtain ⟨h5, h6⟩ := h3
    have e : lpT xs K.T (wdS κ) (r + 1) i = [spT, idT (wdS κ), spT] ++ (tmT xs K.T i ++ lpT xs K.T (wdS κ) r (spanI xs i)) := rfl
    have e2 : spE xs (r + 1) i = spE xs r (spanI xs i) := rfl
    rw [e] at h4 ⊢
    rw [e2]
    unfold limT at h4
    simp only [List.length_append, List.length_cons, List.length_nil] at h4
    refine Sy.rnd_step κ hκ s xs hx K hK q L i k (r + 1) _ (by omega) (by omega) (fun h => h5) (fun _ => by unfold limT; omega) (fun h => ?_) (fun h => by omega)
    rw [if_pos (by omega)]
    have hi := ih (L ++ ([spT, idT (wdS κ), spT] ++ tmT xs K.T i)) (spanI xs i) (k + 1) (by omega) (by omega) h6 (by unfold limT; simp only [List.length_append, List.length_cons, List.length_nil]; omega)
    have e3 : L ++ ([spT, idT (wdS κ), spT] ++ tmT xs K.T i) ++ lpT xs K.T (wdS κ) r (spanI xs i) = L ++ ([spT, idT (wdS κ), spT] ++ (tmT xs K.T i ++ lpT xs K.T (wdS κ) r (spanI xs i))) := by simp [List.append_assoc]
    rw [e3] at hi
    exact hi
theorem Sy.rnd_all (κ : Int) (hκ : κ = 1 ∨ κ = 2) (s : ByteArray) (xs : List QNodeV) (hx : xs.length ≤ 17592186044416) (K : RdK) (hK : K.Ok s xs) (q : QNodeV) (r : Nat) (hq : q.count = ((r + 1 : Nat) : Int)) (hr : r + 1 ≤ 100000) (i : Int) (h3 : SpansR K xs (r + 1) i) (h4 : limT (6 + (tmT xs K.T i).length + (lpT xs K.T (wdS κ) r (spanI xs i)).length)) :
    LoopToT 4 Try.prog (theBody Try.prog 28 12) (r + 2) (rnG 4 ([] : List TokV).length i 0) (rnM s xs (kdQ κ q) []) (RG 4 fun ex F M => ex = .exit 0 ∧ F = rnG 4 (tmT xs K.T i ++ lpT xs K.T (wdS κ) r (spanI xs i)).length (spE xs (r + 1) i) q.count ∧ M = rnM s xs (kdQ κ q) (tmT xs K.T i ++ lpT xs K.T (wdS κ) r (spanI xs i))) := by
  obtain ⟨h5, h6⟩ := h3
  have e2 : spE xs (r + 1) i = spE xs r (spanI xs i) := rfl
  rw [e2]
  unfold limT at h4
  refine Sy.rnd_step κ hκ s xs hx K hK q [] i 0 (r + 1) _ (Int.le_refl 0) (by decide) (fun h => h5) (fun _ => by unfold limT; simp only [List.length_nil]; omega) (fun h => ?_) (fun h => by omega)
  rw [if_neg (by decide), List.nil_append, List.nil_append]
  exact Sy.rnd_loop κ hκ s xs hx K hK q (by omega) r (tmT xs K.T i) (spanI xs i) 1 (Int.le_refl 1) (by omega) h6 (by unfold limT; omega)
namespace Sy
abbrev rnS (b : Nat) (i k : Int) : Fr := (none :: none :: some ((@AV.ptr 0 0)) :: none :: none :: some (.ptr 1 0) :: some (.ptr 2 0) :: some (.sl 3 0 4 (some 4) 1) :: some (.sl b 0 2 none 3) :: some (int i) :: some (int k) :: (nn21 (nn48 [])))
abbrev ntL : List AV := [int 1, .lit (.string ⟨#[110, 111, 116]⟩), int 0, int 20, .lit (.string ⟨#[]⟩), int 0]
abbrev rnM3 (s : ByteArray) (xs : List QNodeV) (q : QNodeV) (L : List TokV) : Mem := ⟨7, 0, [some (rowB L.length (kcell L)), none, none, some wdB, some spB, some (ndN q), some (ndQ s xs)]⟩
end Sy
abbrev ntQ (q : QNodeV) : QNodeV := ⟨3, 1, q.feat, q.lo, q.ln, q.ld, q.ho, q.hn, q.hd⟩
abbrev Sy.ntB : Blk := ⟨ntL, 40, none⟩
abbrev Sy.rnMs (s : ByteArray) (xs : List QNodeV) (q : QNodeV) (z : Nat) : Mem := ⟨6, z, [some ntB, some ntB, some wdB, some spB, some (ndN q), some (ndQ s xs)]⟩
end Go.Proofs.Ytlmanlpgknhfpaa
namespace Go.Proofs.Ytlmanlpgknhfpaa
open Go Go.RowKit Pl Sy
namespace Sy
theorem rnG6_ren {x n n' : Nat} {i i' k k' : Int} (hn : n = n') (hi : i = i') (hk : k = k') : RenF (nm [0, 1, 2, 3, 4, 5, x]) (rnG x n i k) (rnG 6 n' i' k') := by
  subst hn hi hk
  simp only [RenF, and_true]
  exact ⟨⟨rfl, rfl⟩, ⟨rfl, rfl⟩, ⟨rfl, rfl⟩, ⟨rfl, rfl, rfl, rfl, rfl⟩, ⟨rfl, rfl, rfl⟩, rfl, rfl⟩
theorem rnM6_ren {M : Mem} {s : ByteArray} {xs : List QNodeV} {q : QNodeV} {L : List TokV} {x n : Nat} {cell : Nat → Nat → AV} (hd : [0, 1, 2, 3, 4, 5, x].Nodup) (h0 : M.get 0 = some (ndQ s xs)) (h1 : M.get 1 = some (ndN q)) (h2 : M.get 2 = some spB) (h3 : M.get 3 = some wdB) (hx : M.get x = some (rowB n cell)) (hc : CellIs n cell L) : RenM (nm [0, 1, 2, 3, 4, 5, x]) M (rnM3 s xs q L) :=
  .of rfl rfl hd ⟨⟨x, _, rfl, hx, rfl, trivial, hc.1.symm, rfl, fun i j hi hj => hc.free _ (by have hi : i < L.length := hi; have := hc.1; omega) hj⟩, ⟨3, _, rfl, h3, rfl, ⟨rfl, rfl, rfl, rfl, trivial⟩, trivial⟩, ⟨2, _, rfl, h2, rfl, ⟨rfl, rfl, rfl, trivial⟩, trivial⟩, ⟨1, _, rfl, h1, rfl, ⟨rfl, rfl, rfl, rfl, rfl, rfl, rfl, rfl, rfl, trivial⟩, trivial⟩, ⟨0, _, rfl, h0, rfl, ⟨rfl, RenV.free _ (viewOf_free _ _ _ _), trivial⟩, trivial⟩, trivial⟩
end Sy
theorem Sy.rnd_exit (s : ByteArray) (xs : List QNodeV) (q : QNodeV) (L : List TokV) (i : Int) : LoopToT 6 Try.prog (theBody Try.prog 28 12) 1 (rnG 6 L.length i 1) (rnM3 s xs (ntQ q) L) (RG 6 fun ex F M => ex = .exit 0 ∧ F = rnG 6 L.length i 1 ∧ M = rnM3 s xs (ntQ q) L) := by
  refine roundT plain mixed 6 [] [] 400 30 28 12 Try.func28 rfl (by kernel_rfl) (false :: false :: true :: false :: false :: true :: true :: true :: true :: true :: true :: (ff21 (ff48 []))) (.auto 0 .done) (.leaf ((@Ex.exit 0), ((none :: none :: (some (@AV.ptr 0 0)) :: none :: none :: (some (@AV.ptr 1 0)) :: (some (@AV.ptr 2 0)) :: (some (@AV.sl 3 0 4 (some 4) 1)) :: (some (@AV.own 6 (L).length 3)) :: (some (int i)) :: (some (int (1 : Int))) :: (nn21 (nn48 []))), (@Mem.mk 7 0 [(some (@Blk.mk [] 40 (some (@Rw.mk (L).length 3 (@kcell L))))), none, none, (some wdB), (some spB), (some (@Blk.mk [(int ((@ntQ q)).kind), (int ((@ntQ q)).count), (int ((@ntQ q)).feat), (int ((@ntQ q)).lo), (int ((@ntQ q)).ln), (int ((@ntQ q)).ld), (int ((@ntQ q)).ho), (int ((@ntQ q)).hn), (int ((@ntQ q)).hd)] 45 none)), (some (@Blk.mk [(@AV.lit (@Value.string s)), (@qview xs)] 24 none))])))) (by kernel_rfl) ?_
  exact ⟨_, _, [0, 1, 2, 3, 4, 5, 6], rfl, rnG6_ren rfl rfl rfl, rnM6_ren (by decide) rfl rfl rfl rfl rfl (CellIs.kc L), rfl, rfl, rfl⟩
theorem Sy.rnd_not (s : ByteArray) (xs : List QNodeV) (hx : xs.length ≤ 17592186044416) (K : RdK) (hK : K.Ok s xs) (q : QNodeV) (i : Int) (h5 : inR i xs.length = true ∧ K.C i) (hl : limT (5 + (tmT xs K.T i).length)) :
    LoopToT 6 Try.prog (theBody Try.prog 28 12) 2 (rnS 5 i 0) (rnMs s xs (ntQ q) 0) (RG 6 fun ex F M => ex = .exit 0 ∧ F = rnG 6 ([idT ⟨#[110, 111, 116]⟩, spT] ++ tmT xs K.T i).length (spanI xs i) 1 ∧ M = rnM3 s xs (ntQ q) ([idT ⟨#[110, 111, 116]⟩, spT] ++ tmT xs K.T i)) := by
  refine roundT plain mixed 6 [cTok, cRnd s xs K hK, cSpanRef s xs] [] 400 30 28 12 Try.func28 rfl (by kernel_rfl) (false :: false :: true :: false :: false :: true :: true :: true :: true :: true :: true :: (ff21 (ff48 []))) (.auto 1 (.yes (.yes (.br (.yes (.yes (.yes (.yes (.yes .done))))) (.yes (.yes .done)))))) (let e1 := ((@HAppend.hAppend _ _ _ _ (@HAppend.hAppend _ _ _ _ [] [(@AV.agg [(@AV.lit (@Value.string s)), (@qview xs)]), (int i)]) []) = [(@query s xs), (int i)]); let e2 := (int (13 : Int)); let e3 := (@Value.string (@ByteArray.mk (@Array.mk _ []))); let e4 := (@AV.lit e3); let e5 := (3 + (((K).T i)).length); let e6 := (int (14 : Int)); let e7 := (@isSo (@And e1 ((xs).length ≤ 17592186044416))); let e8 := (some (@AV.sl 3 0 4 (some 4) 1)); let e9 := (@AV.lit (@Value.string (@ByteArray.mk (@Array.mk _ [(110 : UInt8), (111 : UInt8), (116 : UInt8)])))); let e10 := (int (0 : Int)); let e11 := (@Value.int IntKind.i64 (0 : Int)); let e12 := (@Array.toList _ (@Array.mk _ [e11, e3, e11])); let e13 := (@List.map _ _ AV.lit (@Array.toList _ (@Array.mk _ [(@List.get _ e12 (@Fin.mk _ 0 (@Nat.le_of_ble_eq_true _ _ (@Eq.refl _ true)))), (@List.get _ e12 (@Fin.mk _ 1 (@Nat.le_of_ble_eq_true _ _ (@Eq.refl _ true)))), (@List.get _ e12 (@Fin.mk _ 2 (@Nat.le_of_ble_eq_true _ _ (@Eq.refl _ true))))]))); let e14 := (e2 :: e4 :: e10 :: (@List.drop _ (0 + ([e2, e4, e10]).length) e13)); let e15 := (fun y0 => (fun y1 => (@AV.lit ([(@Value.int IntKind.i64 ((((K).T i).getD y0 tok0)).kind), (@Value.string ((((K).T i).getD y0 tok0)).text), (@Value.int IntKind.i64 ((((K).T i).getD y0 tok0)).n)].getD y1 (@Value.tuple (@Array.mk _ [])))))); let e16 := (e6 :: e4 :: e10 :: (@List.drop _ (0 + ([e6, e4, e10]).length) e13)); let e17 := (some (@Blk.mk [(int ((@ntQ q)).kind), (int ((@ntQ q)).count), (int ((@ntQ q)).feat), (int ((@ntQ q)).lo), (int ((@ntQ q)).ln), (int ((@ntQ q)).ld), (int ((@ntQ q)).ho), (int ((@ntQ q)).hn), (int ((@ntQ q)).hd)] 45 none)); let e18 := (some (@Blk.mk [(@AV.lit (@Value.string s)), (@qview xs)] 24 none)); let e19 := (2 + (((K).T i)).length); (.need (@isSo (@And e1 ((K).C i))) (.need (@inR i (xs).length) (.fork (!(eqI ((xs.getD (i).toNat QNodeV.zero)).kind (4 : Int))) (.need (@isSo (@And ((@HAppend.hAppend _ _ _ _ (@HAppend.hAppend _ _ _ _ [] [e2, e4]) []) = [e2, e4]) True)) (.need (Bool.true && ((@Nat.ble 3 (2 + 1)) && ((@Nat.ble (e5 * 32) 140737488355328) && (@Nat.ble e5 17592186044416)))) (.need (@isSo (@And ((@HAppend.hAppend _ _ _ _ (@HAppend.hAppend _ _ _ _ [] [e6, e4]) []) = [e6, e4]) True)) (.need (Bool.true && ((@Nat.ble e5 e5) && ((@Nat.ble ((e5 + 1) * 32) 140737488355328) && (@Nat.ble (e5 + 1) 17592186044416)))) (.need e7 (.leaf (Ex.norm, ((none :: none :: (some (@AV.ptr 0 0)) :: none :: none :: (some (@AV.ptr 1 0)) :: (some (@AV.ptr 2 0)) :: e8 :: (some (@AV.own ((((6 + 1) + 1) + 1) + 1) (e5 + 1) 3)) :: (some (int (@spanI xs i))) :: (some (int (1 : Int))) :: (nn21 (nn48 []))), (@Mem.mk (((((6 + 1) + 1) + 1) + 1) + 1) ((((0 + 1) + 1) + 1) + 1) ((some (@Blk.mk [] 40 (some (@Rw.mk (e5 + 1) 3 (@appc e5 (@appc 3 (fun y0 => (fun y1 => (@getA ((int (1 : Int)) :: e9 :: e10 :: (int (20 : Int)) :: e4 :: e10 :: (@List.take _ 3 e14)) ((y0 * 3) + y1)))) e15) (fun y0 => (fun y1 => (@getA (@List.take _ 3 e16) ((y0 * 3) + y1))))))))) :: ((some (@Blk.mk e16 40 none)) :: none :: (none :: [(some (@Blk.mk e14 40 none)), none, (some ntB), (some wdB), (some spB), e17, e18])))))))))))) (.need (Bool.true && (true && ((@Nat.ble (e19 * 32) 140737488355328) && (@Nat.ble e19 17592186044416)))) (.need e7 (.leaf (Ex.norm, ((none :: none :: (some (@AV.ptr 0 0)) :: none :: none :: (some (@AV.ptr 1 0)) :: (some (@AV.ptr 2 0)) :: e8 :: (some (@AV.own 6 e19 3)) :: (some (int (@spanI xs i))) :: (some (int (1 : Int))) :: (nn21 (nn48 []))), (@Mem.mk (6 + 1) ((0 + 1) + 1) ((some (@Blk.mk [] 40 (some (@Rw.mk e19 3 (@appc 2 (fun y0 => (fun y1 => (@getA [(int (1 : Int)), e9, e10, (int (20 : Int)), e4, e10] ((y0 * 3) + y1)))) e15))))) :: [none, (some ntB), (some wdB), (some spB), e17, e18]))))))))))) (by kernel_rfl) ?_
  have hi := Sy.rnd_exit s xs q ([idT ⟨#[110, 111, 116]⟩, spT] ++ tmT xs K.T i) (spanI xs i)
  unfold limT tmT at hl
  unfold tmT at hi ⊢
  by_cases hk4 : (nodeN xs i).kind = 4
  · rw [if_pos hk4] at hi hl ⊢
    have b4 : (!eqI (xs.getD i.toNat QNodeV.zero).kind 4) = false := by rw [Bool.not_eq_false', eqI_t]; exact hk4
    (repeat' (first
        | (refine need_so ?_ ?_; (focus (first | exact ⟨rfl, trivial⟩ | exact ⟨rfl, h5.2⟩ | exact ⟨rfl, hx⟩)))
        | (refine need_t ?_ ?_; (focus (first | exact h5.1 | (simp only [Bool.true_and, Bool.and_eq_true, Nat.ble_eq]; omega))))))
    refine fork_f b4 ?_
    (repeat' (first
        | (refine need_so ?_ ?_; (focus (first | exact ⟨rfl, trivial⟩ | exact ⟨rfl, h5.2⟩ | exact ⟨rfl, hx⟩)))
        | (refine need_t ?_ ?_; (focus (first | exact h5.1 | (simp only [Bool.true_and, Bool.and_eq_true, Nat.ble_eq]; omega))))))
    exact LoopToT.ren [0, 1, 2, 3, 4, 5, 6] rfl (rnG6_ren (by simp only [List.length_append, List.length_cons, List.length_nil] <;> omega) rfl rfl) (rnM6_ren (by decide) rfl rfl rfl rfl rfl (CellIs.cast (CellIs.app2 (show CellIs 2 _ [idT ⟨#[110, 111, 116]⟩, spT] from ⟨rfl, (fun i j hi hj => by
        rcases i with _ | _ | i
        · rcases j with _ | _ | _ | j
          · exact rfl
          · exact rfl
          · exact rfl
          · omega
        · rcases j with _ | _ | _ | j
          · exact rfl
          · exact rfl
          · exact rfl
          · omega
        · omega)⟩) rfl) rfl)) hi
  · rw [if_neg hk4] at hi hl ⊢
    simp only [List.length_append, List.length_cons, List.length_nil] at hl
    have b4 : (!eqI (xs.getD i.toNat QNodeV.zero).kind 4) = true := by rw [Bool.not_eq_true', eqI_f]; exact hk4
    (repeat' (first
        | (refine need_so ?_ ?_; (focus (first | exact ⟨rfl, trivial⟩ | exact ⟨rfl, h5.2⟩ | exact ⟨rfl, hx⟩)))
        | (refine need_t ?_ ?_; (focus (first | exact h5.1 | (simp only [Bool.true_and, Bool.and_eq_true, Nat.ble_eq]; omega))))))
    refine fork_t b4 ?_
    (repeat' (first
        | (refine need_so ?_ ?_; (focus (first | exact ⟨rfl, trivial⟩ | exact ⟨rfl, h5.2⟩ | exact ⟨rfl, hx⟩)))
        | (refine need_t ?_ ?_; (focus (first | exact h5.1 | (simp only [Bool.true_and, Bool.and_eq_true, Nat.ble_eq]; omega))))))
    exact LoopToT.ren [0, 1, 2, 3, 4, 5, 10] rfl (rnG6_ren (by simp only [List.length_append, List.length_cons, List.length_nil] <;> omega) rfl rfl) (rnM6_ren (by decide) rfl rfl rfl rfl rfl (CellIs.cast (CellIs.app ((CellIs.app2 (show CellIs 3 _ [idT ⟨#[110, 111, 116]⟩, spT, opnT] from ⟨rfl, (fun i j hi hj => by
        rcases i with _ | _ | _ | i
        · rcases j with _ | _ | _ | j
          · exact rfl
          · exact rfl
          · exact rfl
          · omega
        · rcases j with _ | _ | _ | j
          · exact rfl
          · exact rfl
          · exact rfl
          · omega
        · rcases j with _ | _ | _ | j
          · exact rfl
          · exact rfl
          · exact rfl
          · omega
        · omega)⟩) rfl)) (CellIs.one 14 ⟨#[]⟩ 0 (fun j hj => by
              rcases j with _ | _ | _ | j
              · exact rfl
              · exact rfl
              · exact rfl
              · omega))) (by simp [List.append_assoc]))) hi
namespace Sy
structure RnX where
  b : Bool
  z : Nat
noncomputable def rnGet (F : Fr) (M : Mem) : Option RnX := match nth F 8 with
  | some (some (.lit _)) => some ⟨false, M.stamp⟩
  | some (some (.sl _ _ _ _ _)) => some ⟨true, M.stamp⟩
  | _ => none
abbrev rnN (i k : Int) : Fr := (none :: none :: some ((@AV.ptr 0 0)) :: none :: none :: some (.ptr 1 0) :: some (.ptr 2 0) :: some (.sl 3 0 4 (some 4) 1) :: some (.lit (.slice none 0 0)) :: some (int i) :: some (int k) :: (nn21 (nn48 [])))
noncomputable abbrev rnFr (i : Int) (b : Bool) : Fr := Bool.rec (rnN i 0) (rnS 5 i 0) b
noncomputable abbrev rnMm (s : ByteArray) (xs : List QNodeV) (q : QNodeV) (x : RnX) : Mem := Bool.rec ⟨4, x.z, [some wdB, some spB, some (ndN q), some (ndQ s xs)]⟩ ⟨6, x.z, [some ntB, some ntB, some wdB, some spB, some (ndN q), some (ndQ s xs)]⟩ x.b
def RnC (K : RdK) (xs : List QNodeV) (q : QNodeV) (i : Int) (b : Bool) : Prop := match b with
  | true => (q.kind = 3 ∧ q.count = 1) ∧ (inR i xs.length = true ∧ K.C i) ∧ limT (5 + (tmT xs K.T i).length)
  | false => (q.kind = 1 ∨ q.kind = 2) ∧ (1 ≤ q.count ∧ q.count ≤ 100000) ∧ SpansR K xs q.count.toNat i ∧ limT (6 + (tmT xs K.T i).length + (lpT xs K.T (wdS q.kind) (q.count.toNat - 1) (spanI xs i)).length)
abbrev rnL (K : RdK) (xs : List QNodeV) (q : QNodeV) (i : Int) : List TokV := tmT xs K.T i ++ lpT xs K.T (wdS q.kind) (q.count.toNat - 1) (spanI xs i)
abbrev ntT (K : RdK) (xs : List QNodeV) (i : Int) : List TokV := [idT ⟨#[110, 111, 116]⟩, spT] ++ tmT xs K.T i
noncomputable abbrev rnRes (K : RdK) (s : ByteArray) (xs : List QNodeV) (q : QNodeV) (i : Int) (b : Bool) : Tr (Ex × Fr × Mem) := Bool.rec (.leaf (.exit 0, rnG 4 (rnL K xs q i).length (spE xs q.count.toNat i) q.count, rnM s xs q (rnL K xs q i))) (.leaf (.exit 0, rnG 6 (ntT K xs i).length (spanI xs i) 1, rnM3 s xs q (ntT K xs i))) b
theorem rnd_ok (s : ByteArray) (xs : List QNodeV) (hx : xs.length ≤ 17592186044416) (K : RdK) (hK : K.Ok s xs) (q : QNodeV) (i : Int) (x : RnX) (h : RnC K xs q i x.b) : ∃ n, LoopTo Try.prog (theBody Try.prog 28 12) n (rnFr i x.b) (rnMm s xs q x) fun ex F' M' => (rnRes K s xs q i x.b).sel (ex, F', M') := by
  obtain ⟨b, z⟩ := x
  cases b with
  | false =>
    obtain ⟨hk, ⟨h1, h2⟩, h3, h4⟩ := h
    obtain ⟨r, hr⟩ : ∃ r : Nat, q.count = ((r + 1 : Nat) : Int) := ⟨(q.count - 1).toNat, by omega⟩
    have e1 : q.count.toNat = r + 1 := by omega
    rw [e1] at h3 h4
    refine ⟨r + 2, ?_⟩
    have key : LoopToT 4 Try.prog (theBody Try.prog 28 12) (r + 2) (rnN i 0) ⟨4, 0, [some wdB, some spB, some (ndN q), some (ndQ s xs)]⟩ _ := LoopToT.nil 8 40 3 (kcell []) (Nat.le_refl 4) rfl (Sy.rnd_all q.kind hk s xs hx K hK q r hr (by omega) i h3 h4)
    refine (LoopTo.stampB 0 (LoopToT.to (LoopToT.out key) (Nat.le_refl 4))).mono fun ex F M hg => ?_
    obtain ⟨rfl, rfl, rfl⟩ := hg
    have e2 : rnL K xs q i = tmT xs K.T i ++ lpT xs K.T (wdS q.kind) r (spanI xs i) := by unfold rnL; rw [e1]; rfl
    show _ = _
    rw [← e1, ← e2]
  | true =>
    obtain ⟨⟨h1, h2⟩, h3, h4⟩ := h
    have eq : ntQ q = q := by
      obtain ⟨k, c, f, lo, ln, ld, ho, hn, hd⟩ := q
      simp only at h1 h2
      subst h1 h2
      rfl
    refine ⟨2, ?_⟩
    have key := Sy.rnd_not s xs hx K hK q i h3 h4
    rw [eq] at key
    refine (LoopTo.stampB 0 (LoopToT.to (LoopToT.out key) (Nat.le_refl 6))).mono fun ex F M hg => ?_
    obtain ⟨rfl, rfl, rfl⟩ := hg
    rfl
noncomputable abbrev lpRnd (s : ByteArray) (xs : List QNodeV) (hx : xs.length ≤ 17592186044416) (K : RdK) (hK : K.Ok s xs) (q : QNodeV) (i : Int) : Lp Try.prog where
  f := 28
  key := 12
  S := formS rnGet (fun x => rnFr i x.b) (rnMm s xs q) (fun x => RnC K xs q i x.b) (fun x => rnRes K s xs q i x.b) (false :: false :: true :: false :: false :: true :: true :: true :: true :: true :: true :: (ff21 (ff48 [])))
  one := by kernel_rfl
  ok := formS_ok fun x h => rnd_ok s xs hx K hK q i x h
end Sy
def RdC (K : RdK) (xs : List QNodeV) (i : Int) : Prop := inR i xs.length = true ∧ (((nodeN xs i).kind = 4 ∧ FeaOk (nodeN xs i)) ∨ (nodeN xs i).kind = 3 ∧ RnC K xs (nodeN xs i) (i + 1) true ∨ ((nodeN xs i).kind = 1 ∨ (nodeN xs i).kind = 2) ∧ RnC K xs (nodeN xs i) (i + 1) false)
theorem Sy.rnd_t (s : ByteArray) (xs : List QNodeV) (hx : xs.length ≤ 17592186044416) (K : RdK) (hK : K.Ok s xs) (i : Int) (h : RdC K xs i) : CallTo Try.prog 28 [query s xs, int i] M0 fun v _ => v = kv (ndG xs K.T i) :=
  CallTo.frz0 (to (G := fun r => Frz true 0 r.2 r.1 (kv (ndG xs K.T i))) [cTok, cRfea] [lpRnd s xs hx K hK (nodeN xs i) (i + 1)] 400 30 (.yes (.br (.yes .done) (.yes (.br (.yes .done) .done)))) (let e1 := (int ((xs.getD (i).toNat QNodeV.zero)).kind); let e2 := (int ((xs.getD (i).toNat QNodeV.zero)).count); let e3 := (int ((xs.getD (i).toNat QNodeV.zero)).feat); let e4 := (int ((xs.getD (i).toNat QNodeV.zero)).lo); let e5 := (int ((xs.getD (i).toNat QNodeV.zero)).ln); let e6 := (int ((xs.getD (i).toNat QNodeV.zero)).ld); let e7 := (int ((xs.getD (i).toNat QNodeV.zero)).ho); let e8 := (int ((xs.getD (i).toNat QNodeV.zero)).hn); let e9 := (int ((xs.getD (i).toNat QNodeV.zero)).hd); let e10 := (int (0 : Int)); let e11 := (e1 :: e2 :: e3 :: e4 :: e5 :: e6 :: e7 :: e8 :: e9 :: (@List.drop _ (0 + ([e1, e2, e3, e4, e5, e6, e7, e8, e9]).length) [e10, e10, e10, e10, e10, e10, e10, e10, e10])); let e12 := (@QNodeV.mk ((xs.getD (i).toNat QNodeV.zero)).kind ((xs.getD (i).toNat QNodeV.zero)).count ((xs.getD (i).toNat QNodeV.zero)).feat ((xs.getD (i).toNat QNodeV.zero)).lo ((xs.getD (i).toNat QNodeV.zero)).ln ((xs.getD (i).toNat QNodeV.zero)).ld ((xs.getD (i).toNat QNodeV.zero)).ho ((xs.getD (i).toNat QNodeV.zero)).hn ((xs.getD (i).toNat QNodeV.zero)).hd); let e13 := ((0 + 1) + 1); let e14 := (some (@Blk.mk [(@AV.lit (@Value.string s)), (@qview xs)] 24 none)); let e15 := (int (20 : Int)); let e16 := (@Value.string (@ByteArray.mk (@Array.mk _ []))); let e17 := (@AV.lit e16); let e18 := (int (1 : Int)); let e19 := (@ByteArray.mk (@Array.mk _ [(110 : UInt8), (111 : UInt8), (116 : UInt8)])); let e20 := (@AV.lit (@Value.string e19)); let e21 := (some (@AV.ptr 0 0)); let e22 := (some (@AV.sl (e13 + 1) 0 4 (some 4) 1)); let e23 := (i + (1 : Int)); let e24 := (some (@AV.sl 3 0 4 (some 4) 1)); let e25 := (@Value.int IntKind.i64 (0 : Int)); let e26 := (@Array.toList _ (@Array.mk _ [e25, e16, e25])); let e27 := (e18 :: e20 :: e10 :: (e15 :: e17 :: e10 :: (@List.drop _ (3 + ([e15, e17, e10]).length) (e18 :: e20 :: e10 :: (@List.drop _ (0 + ([e18, e20, e10]).length) (@List.map _ _ AV.lit (@Array.toList _ (@Array.mk _ [(@List.get _ e26 (@Fin.mk _ 0 (@Nat.le_of_ble_eq_true _ _ (@Eq.refl _ true)))), (@List.get _ e26 (@Fin.mk _ 1 (@Nat.le_of_ble_eq_true _ _ (@Eq.refl _ true)))), (@List.get _ e26 (@Fin.mk _ 2 (@Nat.le_of_ble_eq_true _ _ (@Eq.refl _ true)))), (@List.get _ e26 (@Fin.mk _ 0 (@Nat.le_of_ble_eq_true _ _ (@Eq.refl _ true)))), (@List.get _ e26 (@Fin.mk _ 1 (@Nat.le_of_ble_eq_true _ _ (@Eq.refl _ true)))), (@List.get _ e26 (@Fin.mk _ 2 (@Nat.le_of_ble_eq_true _ _ (@Eq.refl _ true))))])))))))); let e28 := (@AV.lit (@Value.string (@ByteArray.mk (@Array.mk _ [(97 : UInt8), (110 : UInt8), (100 : UInt8)])))); let e29 := (@AV.lit (@Value.string (@ByteArray.mk (@Array.mk _ [(111 : UInt8), (114 : UInt8)])))); let e30 := (some (@Blk.mk (e17 :: e28 :: e29 :: e20 :: (@List.drop _ 4 (e17 :: e28 :: e29 :: (@List.drop _ 3 (e17 :: e28 :: (@List.drop _ 2 (e17 :: (@List.drop _ 1 (@List.map _ _ AV.lit (@Array.toList _ (@Array.mk _ [(@List.get _ (@Array.toList _ (@Array.mk _ [e16])) (@Fin.mk _ 0 (@Nat.le_of_ble_eq_true _ _ (@Eq.refl _ true)))), (@List.get _ (@Array.toList _ (@Array.mk _ [e16])) (@Fin.mk _ 0 (@Nat.le_of_ble_eq_true _ _ (@Eq.refl _ true)))), (@List.get _ (@Array.toList _ (@Array.mk _ [e16])) (@Fin.mk _ 0 (@Nat.le_of_ble_eq_true _ _ (@Eq.refl _ true)))), (@List.get _ (@Array.toList _ (@Array.mk _ [e16])) (@Fin.mk _ 0 (@Nat.le_of_ble_eq_true _ _ (@Eq.refl _ true))))]))))))))))) 9 none)); let e31 := ((some (@Blk.mk (e15 :: e17 :: e10 :: (@List.drop _ (0 + ([e15, e17, e10]).length) [e10, e17, e10])) 40 none)) :: [(some (@Blk.mk e11 45 none)), e14]); let e32 := (some (@Blk.mk [(int ((@nodeN xs i)).kind), (int ((@nodeN xs i)).count), (int ((@nodeN xs i)).feat), (int ((@nodeN xs i)).lo), (int ((@nodeN xs i)).ln), (int ((@nodeN xs i)).ld), (int ((@nodeN xs i)).ho), (int ((@nodeN xs i)).hn), (int ((@nodeN xs i)).hd)] 45 none)); let e33 := (some (@AV.lit (@Value.slice none 0 0))); (.need (@inR i (xs).length) (.fork (eqI ((xs.getD (i).toNat QNodeV.zero)).kind (4 : Int)) (.need (@isSo (@And ((@HAppend.hAppend _ _ _ _ (@HAppend.hAppend _ _ _ _ [] [(@AV.agg (@List.take _ 9 e11))]) []) = [(@AV.agg [e1, e2, e3, e4, e5, e6, e7, e8, e9])]) (@FeaOk e12))) (.leaf ((@AV.view ((@feaT e12)).length 3 (fun y0 => (fun y1 => (@AV.lit ([(@Value.int IntKind.i64 (((@feaT e12).getD y0 tok0)).kind), (@Value.string (((@feaT e12).getD y0 tok0)).text), (@Value.int IntKind.i64 (((@feaT e12).getD y0 tok0)).n)].getD y1 (@Value.tuple (@Array.mk _ []))))))), (@Mem.mk e13 (0 + 1) [(some (@Blk.mk e11 45 none)), e14])))) (.need (@isSo (@And ((@HAppend.hAppend _ _ _ _ (@HAppend.hAppend _ _ _ _ [] [e15, e17]) []) = [e15, e17]) True)) (.fork (eqI ((xs.getD (i).toNat QNodeV.zero)).kind (3 : Int)) (.need (@isSo (@And ((@HAppend.hAppend _ _ _ _ (@HAppend.hAppend _ _ _ _ [] [e18, e20]) []) = [e18, e20]) True)) (.need (@isSo (@And ((none :: none :: (e21 :: none :: none :: (some (@AV.ptr (0 + 1) 0)) :: (some (@AV.ptr e13 0)) :: e22 :: (some (@AV.sl (((e13 + 1) + 1) + 1) 0 2 none 3)) :: (some (int (w64 e23))) :: (some e10) :: (nn21 (nn48 [])))) = (none :: none :: e21 :: none :: none :: (some (@AV.ptr 1 0)) :: (some (@AV.ptr 2 0)) :: e24 :: (some (@AV.sl 5 0 2 none 3)) :: (some (int e23)) :: (some e10) :: (nn21 (nn48 [])))) ((@Mem.mk ((((e13 + 1) + 1) + 1) + 1) e13 ((some (@Blk.mk (@List.take _ 6 e27) 40 none)) :: (some (@Blk.mk e27 40 none)) :: e30 :: e31)) = (@Mem.mk 6 e13 [(some ntB), (some ntB), (some wdB), (some spB), e32, e14])))) (.need (@isSo (@RnC K xs (@nodeN xs i) e23 Bool.true)) (.leaf ((@AV.own 6 ((@HAppend.hAppend _ _ _ _ [(@idT e19), spT] (@tmT xs (K).T e23))).length 3), (@Mem.mk 7 0 [(some (@Blk.mk [] 40 (some (@Rw.mk ((@HAppend.hAppend _ _ _ _ [(@idT e19), spT] (@tmT xs (K).T e23))).length 3 (@kcell (@HAppend.hAppend _ _ _ _ [(@idT e19), spT] (@tmT xs (K).T e23))))))), none, none, (some wdB), (some spB), e32, e14])))))) (.need (@isSo (@And ((none :: none :: (e21 :: none :: none :: (some (@AV.ptr (0 + 1) 0)) :: (some (@AV.ptr e13 0)) :: e22 :: e33 :: (some (int (w64 e23))) :: (some e10) :: (nn21 (nn48 [])))) = (none :: none :: e21 :: none :: none :: (some (@AV.ptr 1 0)) :: (some (@AV.ptr 2 0)) :: e24 :: e33 :: (some (int e23)) :: (some e10) :: (nn21 (nn48 [])))) ((@Mem.mk ((e13 + 1) + 1) e13 (e30 :: e31)) = (@Mem.mk 4 e13 [(some wdB), (some spB), e32, e14])))) (.need (@isSo (@RnC K xs (@nodeN xs i) e23 Bool.false)) (.leaf ((@AV.own 4 ((@HAppend.hAppend _ _ _ _ (@tmT xs (K).T e23) (@lpT xs (K).T (@wdS ((@nodeN xs i)).kind) ((((@nodeN xs i)).count).toNat - 1) (@spanI xs e23)))).length 3), (@Mem.mk 5 0 [(some (@Blk.mk [] 40 (some (@Rw.mk ((@HAppend.hAppend _ _ _ _ (@tmT xs (K).T e23) (@lpT xs (K).T (@wdS ((@nodeN xs i)).kind) ((((@nodeN xs i)).count).toNat - 1) (@spanI xs e23)))).length 3 (@kcell (@HAppend.hAppend _ _ _ _ (@tmT xs (K).T e23) (@lpT xs (K).T (@wdS ((@nodeN xs i)).kind) ((((@nodeN xs i)).count).toNat - 1) (@spanI xs e23)))))))), (some wdB), (some spB), e32, e14])))))))))) (by kernel_rfl) (by
    obtain ⟨hr, hc⟩ := h
    have hr' := hr
    rw [inR_t] at hr'
    have e1 : w64 (i + 1) = i + 1 := w64_in (by omega)
    conv => zeta
    rw [e1]
    unfold ndG
    refine need_t hr (fork_ok (fun c => ?_) (fun c => ?_))
    · have c' : (nodeN xs i).kind = 4 := by rw [eqI_t] at c; exact c
      rcases hc with ⟨_, ho⟩ | ⟨k3, _⟩ | ⟨k12, _⟩
      · rw [if_pos c']
        exact need_so ⟨rfl, ho⟩ (Frz.free _ _ (kv_free _))
      · omega
      · omega
    · have c' : ¬ (nodeN xs i).kind = 4 := by rw [eqI_f] at c; exact c
      rw [if_neg c']
      refine need_so ⟨rfl, trivial⟩ (fork_ok (fun c2 => ?_) (fun c2 => ?_))
      · have c2' : (nodeN xs i).kind = 3 := by rw [eqI_t] at c2; exact c2
        rcases hc with ⟨k4, _⟩ | ⟨_, ht⟩ | ⟨k12, _⟩
        · omega
        · rw [if_pos c2']
          exact need_so ⟨rfl, trivial⟩ (need_so ⟨rfl, rfl⟩ (need_so ht (tview_frz 0 _ (Nat.zero_le _) rfl (CellIs.kc _))))
        · omega
      · have c2' : ¬ (nodeN xs i).kind = 3 := by rw [eqI_f] at c2; exact c2
        rcases hc with ⟨k4, _⟩ | ⟨k3, _⟩ | ⟨_, ht⟩
        · omega
        · omega
        · rw [if_neg c2']
          exact need_so ⟨rfl, rfl⟩ (need_so ht (tview_frz 0 _ (Nat.zero_le _) rfl (CellIs.kc _))))) ⟨qv_free s xs, trivial, trivial⟩ (kv_free _)
def rdK (xs : List QNodeV) : Nat → RdK
  | 0 => ⟨fun _ => [], fun _ => False⟩
  | f + 1 => ⟨ndG xs (rdK xs f).T, RdC (rdK xs f) xs⟩
theorem rdK_T (xs : List QNodeV) : ∀ f, (rdK xs f).T = (ndK xs f).T := by
  intro f
  induction f with
  | zero => rfl
  | succ f ih => show ndG xs _ = ndG xs _; rw [ih]
theorem rdK_ok (s : ByteArray) (xs : List QNodeV) (hx : xs.length ≤ 17592186044416) : ∀ f, (rdK xs f).Ok s xs := by
  intro f
  induction f with
  | zero => exact ⟨fun i h => h.elim⟩
  | succ f ih => exact ⟨fun i h => Sy.rnd_t s xs hx (rdK xs f) ih i h⟩
theorem Sy.rtk_t (s : ByteArray) (xs : List QNodeV) (hx : xs.length ≤ 17592186044416) (hc : (rdK xs xs.length).C 0) (hl : limT ((qryT s xs).length + 2)) : CallTo Try.prog 11 [query s xs] M0 fun v _ => v = kv (qryT s xs) :=
  CallTo.frz0 (to (G := fun r => Frz true 0 r.2 r.1 (kv (qryT s xs))) [cTok, cRnd s xs (rdK xs xs.length) (rdK_ok s xs hx xs.length)] [] 400 30 (.br (.yes (.yes (.yes (.yes .done)))) (.yes (.yes .done))) (let e1 := (@ByteArray.mk (@Array.mk _ [])); let e2 := (@AV.lit (@Value.string s)); let e3 := (int (Int.ofNat 1)); let e4 := (int (20 : Int)); let e5 := (@AV.lit (@Value.string e1)); let e6 := (int (0 : Int)); let e7 := (@isSo (@And ((@HAppend.hAppend _ _ _ _ (@HAppend.hAppend _ _ _ _ [] [(@AV.agg [e2, (@qview xs)]), e6]) []) = [(@query s xs), e6]) (((@rdK xs (xs).length)).C (0 : Int)))); let e8 := (((@rdK xs (xs).length)).T (0 : Int)); let e9 := (2 + (e8).length); let e10 := (int (Int.ofNat 0)); let e11 := (fun y0 => (fun y1 => (@AV.lit ([(@Value.int IntKind.i64 ((e8.getD y0 tok0)).kind), (@Value.string ((e8.getD y0 tok0)).text), (@Value.int IntKind.i64 ((e8.getD y0 tok0)).n)].getD y1 (@Value.tuple (@Array.mk _ [])))))); let e12 := (@Value.int IntKind.i64 (0 : Int)); let e13 := (@Array.toList _ (@Array.mk _ [e12, (@Value.string e1), e12])); let e14 := (some (@Blk.mk [e2, (@qview xs)] 24 none)); (.fork (!(@bytesEq (@Array.toList _ (@ByteArray.data s)) (@Array.toList _ (@ByteArray.data e1)))) (.need (@isSo (@And ((@HAppend.hAppend _ _ _ _ (@HAppend.hAppend _ _ _ _ [] [(int (1 : Int)), e2]) []) = [e3, e2]) True)) (.need (@isSo (@And ((@HAppend.hAppend _ _ _ _ (@HAppend.hAppend _ _ _ _ [] [e4, e5]) []) = [e4, e5]) True)) (.need e7 (.need (Bool.true && ((@Nat.ble 2 2) && ((@Nat.ble (e9 * 32) 140737488355328) && (@Nat.ble e9 17592186044416)))) (.leaf ((@AV.own (((0 + 1) + 1) + 1) e9 3), (@Mem.mk ((((0 + 1) + 1) + 1) + 1) ((0 + 1) + 1) ((some (@Blk.mk [] 40 (some (@Rw.mk e9 3 (@appc 2 (fun y0 => (fun y1 => (@getA [e3, e2, e10, e4, e5, e6] ((y0 * 3) + y1)))) e11))))) :: [none, (some (@Blk.mk (e3 :: e2 :: e10 :: e4 :: e5 :: e6 :: (@List.drop _ (3 + ([e4, e5, e6]).length) (e3 :: e2 :: e10 :: (@List.drop _ (0 + ([e3, e2, e10]).length) (@List.map _ _ AV.lit (@Array.toList _ (@Array.mk _ [(@List.get _ e13 (@Fin.mk _ 0 (@Nat.le_of_ble_eq_true _ _ (@Eq.refl _ true)))), (@List.get _ e13 (@Fin.mk _ 1 (@Nat.le_of_ble_eq_true _ _ (@Eq.refl _ true)))), (@List.get _ e13 (@Fin.mk _ 2 (@Nat.le_of_ble_eq_true _ _ (@Eq.refl _ true)))), (@List.get _ e13 (@Fin.mk _ 0 (@Nat.le_of_ble_eq_true _ _ (@Eq.refl _ true)))), (@List.get _ e13 (@Fin.mk _ 1 (@Nat.le_of_ble_eq_true _ _ (@Eq.refl _ true)))), (@List.get _ e13 (@Fin.mk _ 2 (@Nat.le_of_ble_eq_true _ _ (@Eq.refl _ true))))]))))))) 40 none)), e14])))))))) (.need e7 (.need (Bool.true && ((@Nat.ble ((e8).length * 32) 140737488355328) && (@Nat.ble (e8).length 17592186044416))) (.leaf ((@AV.own (0 + 1) (e8).length 3), (@Mem.mk ((0 + 1) + 1) 0 [(some (@Blk.mk [] 40 (some (@Rw.mk (e8).length 3 e11)))), e14]))))))) (by kernel_rfl) (by
    unfold qryT limT at hl
    rw [← rdK_T] at hl
    refine fork_ok (fun c2 => ?_) (fun c2 => ?_)
    · have c2 : bytesEq s.data.toList [] = false := n_t c2
      rw [if_neg (by rw [c2]; simp)] at hl
      simp only [List.length_append, List.length_cons, List.length_nil] at hl
      have e : qryT s xs = [idT s, spT] ++ (rdK xs xs.length).T 0 := by unfold qryT; rw [if_neg (by rw [c2]; simp), rdK_T]
      rw [e]
      exact need_so ⟨rfl, trivial⟩ (need_so ⟨rfl, trivial⟩ (need_so ⟨rfl, hc⟩ (need_t (by simp only [Bool.true_and, Bool.and_eq_true, Nat.ble_eq]; omega) (tview_frz 0 _ (Nat.zero_le _) rfl (CellIs.app2 (show CellIs 2 _ [idT s, spT] from ⟨rfl, (fun i j hi hj => by
        rcases i with _ | _ | i
        · rcases j with _ | _ | _ | j
          · exact rfl
          · exact rfl
          · exact rfl
          · omega
        · rcases j with _ | _ | _ | j
          · exact rfl
          · exact rfl
          · exact rfl
          · omega
        · omega)⟩) rfl)))))
    · have c2 : bytesEq s.data.toList [] = true := n_f c2
      rw [if_pos c2] at hl
      simp only [List.length_append, List.length_nil] at hl
      have e : qryT s xs = (rdK xs xs.length).T 0 := by unfold qryT; rw [if_pos c2, List.nil_append, rdK_T]
      rw [e]
      exact need_so ⟨rfl, hc⟩ (need_t (by simp only [Bool.true_and, Bool.and_eq_true, Nat.ble_eq]; omega) (tview_frz 0 _ (Nat.zero_le _) rfl (CellIs.kc _))))) ⟨qv_free s xs, trivial⟩ (kv_free _)
noncomputable abbrev Sy.cRtk (s : ByteArray) (xs : List QNodeV) : Con Try.prog := at1 11 [query s xs] (kv (qryT s xs)) (xs.length ≤ 17592186044416 ∧ (rdK xs xs.length).C 0 ∧ limT ((qryT s xs).length + 2)) fun h => ⟨⟨⟨qv_free s xs, trivial⟩, kv_free _⟩, rtk_t s xs h.1 h.2.1 h.2.2⟩
end Go.Proofs.Ytlmanlpgknhfpaa
namespace Go.Proofs.Ytlmanlpgknhfpaa
open Go Go.RowKit Pl Sy
def nsG (xs : List QNodeV) (ns : Int → List QNodeV) (i : Int) : List QNodeV := if (nodeN xs i).kind = 4 then [nodeN xs i] else if (nodeN xs i).kind = 3 then qNode 3 1 :: ns (i + 1) else qNode (nodeN xs i).kind (nodeN xs i).count :: (ns (i + 1) ++ lpN xs ns ((nodeN xs i).count.toNat - 1) (spanI xs (i + 1)))
def NrC (K : CnK) (xs : List QNodeV) (g : Int → List TokV) (ns : Int → List QNodeV) (i : Int) : Prop :=
  ((nodeN xs i).kind = 4 ∧ rightV (nodeN xs i).kind (nodeN xs i).count (nodeN xs i).feat (nodeN xs i).lo (nodeN xs i).ln (nodeN xs i).ld (nodeN xs i).ho (nodeN xs i).hn (nodeN xs i).hd = true) ∨
  ((nodeN xs i).kind = 3 ∧ TmOk K xs g (i + 1) (ns (i + 1))) ∨
  (((nodeN xs i).kind = 1 ∨ (nodeN xs i).kind = 2) ∧ 2 ≤ (nodeN xs i).count ∧ TmsOk K xs g ns (nodeN xs i).count.toNat (i + 1))
theorem cond_one {K : CnK} {T : List TokV} {a : Int} (h1 : wordB T a ⟨⟨[110, 111, 116]⟩⟩ = false) (h2 : trmB K T (cn0 T a) = true) (h3 : doneB T (innA T (cn0 T a)) = true) : cndB K T a = true ∧ cndN K T a = trmN K T (cn0 T a) := by
  unfold cndB cndN cnG
  rw [h1, h2, h3]
  exact ⟨rfl, rfl⟩
theorem cond_not {K : CnK} {T : List TokV} {a : Int} (h1 : wordB T a ⟨⟨[110, 111, 116]⟩⟩ = true) (h2 : trmB K T (cn0 T a) = true) (h3 : doneB T (innA T (cn0 T a)) = true) : cndB K T a = true ∧ cndN K T a = qNode 3 1 :: trmN K T (cn0 T a) := by
  unfold cndB cndN cnG
  rw [h1, h2, h3]
  exact ⟨rfl, rfl⟩
theorem cond_and {K : CnK} {T : List TokV} {a : Int} (h1 : wordB T a ⟨⟨[110, 111, 116]⟩⟩ = false) (h2 : trmB K T (cn0 T a) = true) (h3 : doneB T (innA T (cn0 T a)) = false) (h4 : andB T a = true) (h5 : andT K T a = true) {N : List QNodeV} {c e : Int} (h6 : cnAnd K T a = ⟨N, c, e, true⟩) (h7 : doneB T e = true) : cndB K T a = true ∧ cndN K T a = qNode 1 c :: N := by
  unfold cndB cndN cnG
  rw [h1, h2, h3, h4, h5, h6, h7]
  exact ⟨rfl, rfl⟩
theorem cond_or {K : CnK} {T : List TokV} {a : Int} (h1 : wordB T a ⟨⟨[110, 111, 116]⟩⟩ = false) (h2 : trmB K T (cn0 T a) = true) (h3 : doneB T (innA T (cn0 T a)) = false) (h4 : andB T a = false) (h4' : orB T a = true) (h5 : orT K T a = true) {N : List QNodeV} {c e : Int} (h6 : cnOr K T a = ⟨N, c, e, true⟩) (h7 : doneB T e = true) : cndB K T a = true ∧ cndN K T a = qNode 2 c :: N := by
  unfold cndB cndN cnG
  rw [h1, h2, h3, h4, h4', h5, h6, h7]
  exact ⟨rfl, rfl⟩
theorem feat_bal (q : QNodeV) : Bal (feaT q) := by
  rw [feaT_fi]
  exact Bal.br _ _ (fiT_bal q) .nil
theorem TmOk.bal {K : CnK} {xs : List QNodeV} {g : Int → List TokV} {i : Int} {ns : List QNodeV} (h : TmOk K xs g i ns) : Bal (tmT xs g i) := by
  unfold tmT
  rcases h with ⟨h1, h2, h3, h4⟩ | ⟨h1, h2, _⟩
  · rw [if_pos h1, h2]
    exact feat_bal _
  · rw [if_neg h1]
    have := Bal.br _ [] h2 .nil
    simpa using this
theorem TmsOk.bal {K : CnK} {xs : List QNodeV} {g : Int → List TokV} {ns : Int → List QNodeV} (w : ByteArray) : ∀ {m : Nat} {i : Int}, TmsOk K xs g ns m i → Bal (lpT xs g w m i)
  | 0, i, h => .nil
  | m + 1, i, h => by
    have e : lpT xs g w (m + 1) i = spT :: idT w :: spT :: (tmT xs g i ++ lpT xs g w m (spanI xs i)) := rfl
    rw [e]
    exact .one _ _ rfl (by decide) (.one _ _ rfl (by show (1 : Int) ≠ 14; decide) (.one _ _ rfl (by decide) (h.1.bal.app (TmsOk.bal w h.2))))
theorem cond_read {K : CnK} {xs : List QNodeV} {g : Int → List TokV} {ns : Int → List QNodeV} {i : Int} (hc : NrC K xs g ns i) (hf : (nodeN xs i).kind = 4 → TmOk K xs (ndG xs g) i [nodeN xs i]) {T : List TokV} {a : Int} (h : At T (skI T a) (ndG xs g i)) : cndB K T a = true ∧ cndN K T a = nsG xs ns i := by
  rcases hc with ⟨k4, hr⟩ | ⟨k3, ht⟩ | ⟨k12, hcn, hts⟩
  · have ht := hf k4
    obtain ⟨l, hl⟩ := tmT_cons ht
    have et : tmT xs (ndG xs g) i = ndG xs g i := by unfold tmT; rw [if_pos k4]
    rw [et] at hl
    obtain ⟨w1, w2⟩ := At.noword (a := a) (s := ⟨⟨[110, 111, 116]⟩⟩) (by rw [hl] at h; exact h) (.inl (by show (13 : Int) ≠ 1; decide))
    have c0 : cn0 T a = skI T a := w2
    have s1 : skI T (skI T a) = skI T a := h.sk (by rw [hl]; show (13 : Int) ≠ 20; decide)
    obtain ⟨e1, e2, e3⟩ := ht.read (a := skI T a) (r := []) (by rw [s1, et, List.append_nil]; exact h)
    have h9 : At T (skI T a) (ndG xs g i ++ []) := by rw [List.append_nil]; exact h
    have h10 := h9.app
    rw [et, s1] at e3
    obtain ⟨r1, r2⟩ := cond_one w1 (by rw [c0]; exact e1) (by rw [c0, e3]; exact h10.done)
    refine ⟨r1, ?_⟩
    unfold nsG
    rw [r2, c0, e2, if_pos k4]
  · have k4 : ¬ (nodeN xs i).kind = 4 := by omega
    have en : ndG xs g i = idT ⟨#[110, 111, 116]⟩ :: spT :: (tmT xs g (i + 1) ++ []) := by
      unfold ndG
      rw [if_neg k4, if_pos k3, List.append_nil]
      rfl
    rw [en] at h
    obtain ⟨w1, w2⟩ := At.word (a := a) h
    have c0 : cn0 T a = skI T a + 1 := w2
    obtain ⟨l, hl⟩ := tmT_cons ht
    have h2 := h.tail
    have s1 : skI T (skI T a + 1) = skI T a + 1 + 1 := h2.sk1 (by rw [hl]; show (13 : Int) ≠ 20; decide)
    obtain ⟨e1, e2, e3⟩ := ht.read (a := skI T a + 1) (r := []) (by rw [s1]; exact h2.tail)
    have h10 := h2.tail.app
    rw [s1] at e3
    obtain ⟨r1, r2⟩ := cond_not w1 (by rw [c0]; exact e1) (by rw [c0, e3]; exact h10.done)
    refine ⟨r1, ?_⟩
    unfold nsG
    rw [r2, c0, e2, if_neg k4, if_pos k3]
  · have k4 : ¬ (nodeN xs i).kind = 4 := by omega
    have k3 : ¬ (nodeN xs i).kind = 3 := by omega
    obtain ⟨m, hm⟩ : ∃ m : Nat, (nodeN xs i).count = ((m + 2 : Nat) : Int) := ⟨((nodeN xs i).count - 2).toNat, by omega⟩
    have ec : (nodeN xs i).count.toNat = m + 2 := by omega
    rw [ec] at hts
    obtain ⟨t1, t2, t3⟩ := hts
    have en : ndG xs g i = tmT xs g (i + 1) ++ (spT :: idT (wdS (nodeN xs i).kind) :: spT :: (tmT xs g (spanI xs (i + 1)) ++ lpT xs g (wdS (nodeN xs i).kind) m (spanI xs (spanI xs (i + 1))))) := by
      unfold ndG
      rw [if_neg k4, if_neg k3, ec]
      rfl
    rw [en] at h
    obtain ⟨l, hl⟩ := tmT_cons t1
    obtain ⟨w1, w2⟩ := At.noword (a := a) (s := ⟨⟨[110, 111, 116]⟩⟩) (by rw [hl] at h; exact h) (.inl (by show (13 : Int) ≠ 1; decide))
    have c0 : cn0 T a = skI T a := w2
    have s1 : skI T (skI T a) = skI T a := h.sk (by rw [hl]; show (13 : Int) ≠ 20; decide)
    obtain ⟨e1, e2, e3⟩ := t1.read (a := skI T a) (by rw [s1]; exact h)
    rw [s1] at e3
    have h2 := h.app
    generalize hp1 : skI T a + ((tmT xs g (i + 1)).length : Int) = p1 at h2 e3
    have s2 : skI T p1 = p1 + 1 := h2.sk1 (by show (1 : Int) ≠ 20; decide)
    have h3 := h2.tail
    have d1 : doneB T p1 = false := At.undone (by rw [s2]; exact h3)
    have s3 : skI T (p1 + 1) = p1 + 1 := h3.sk (by show (1 : Int) ≠ 20; decide)
    have c1 : cn1 T a = p1 + 1 := by unfold cn1; rw [c0, e3, s2]
    obtain ⟨w3, w4⟩ := At.word (a := p1 + 1) (by rw [s3]; exact h3)
    rw [s3] at w4
    have h4 := h3.tail
    obtain ⟨l2, hl2⟩ := tmT_cons t2
    have s4 : skI T (p1 + 1 + 1) = p1 + 1 + 1 + 1 := h4.sk1 (by rw [hl2]; show (13 : Int) ≠ 20; decide)
    have h5 := h4.tail
    obtain ⟨e4, e5, e6⟩ := t2.read (a := p1 + 1 + 1) (by rw [s4]; exact h5)
    rw [s4] at e6
    have hlen := h5.len
    have hmT : m < T.length + 1 := by
      have hL : ∀ (m : Nat) (j : Int), m ≤ (lpT xs g (wdS (nodeN xs i).kind) m j).length := by
        intro m
        induction m with
        | zero => intro j; exact Nat.zero_le _
        | succ m ih =>
          intro j
          have := ih (spanI xs j)
          have e : lpT xs g (wdS (nodeN xs i).kind) (m + 1) j = spT :: idT (wdS (nodeN xs i).kind) :: spT :: (tmT xs g j ++ lpT xs g (wdS (nodeN xs i).kind) m (spanI xs j)) := rfl
          rw [e]
          simp only [List.length_cons, List.length_append]
          omega
      have := hL m (spanI xs (spanI xs (i + 1)))
      have h0 := h.1
      simp only [List.length_append] at hlen
      omega
    obtain ⟨e, he, hE⟩ := chain_read K xs g ns T (wdS (nodeN xs i).kind) m (spanI xs (spanI xs (i + 1))) _ (ns (i + 1) ++ ns (spanI xs (i + 1))) 2 (T.length + 1) hmT h5.app t3
    have fin : nsG xs ns i = qNode (nodeN xs i).kind (nodeN xs i).count :: (ns (i + 1) ++ ns (spanI xs (i + 1)) ++ lpN xs ns m (spanI xs (spanI xs (i + 1)))) := by
      unfold nsG
      rw [if_neg k4, if_neg k3, ec, List.append_assoc]
      rfl
    have e2c : (2 : Int) + (m : Int) = (nodeN xs i).count := by omega
    rw [e2c] at he
    rcases k12 with k1 | k2
    · have ew : wdS (nodeN xs i).kind = ⟨⟨[97, 110, 100]⟩⟩ := by unfold wdS; rw [if_neg (by omega)]
      rw [ew] at w3 w4 he
      have hC : cnAnd K T a = ⟨ns (i + 1) ++ ns (spanI xs (i + 1)) ++ lpN xs ns m (spanI xs (spanI xs (i + 1))), (nodeN xs i).count, e, true⟩ := by
        unfold cnAnd chnR
        rw [c1, w4, e6, e5, c0, e2, he]
      obtain ⟨r1, r2⟩ := cond_and w1 (by rw [c0]; exact e1) (by rw [c0, e3]; exact d1) (by unfold andB; rw [c1]; exact w3) (by unfold andT; rw [c1, w4]; exact e4) hC hE.done
      exact ⟨r1, by rw [r2, fin, k1]⟩
    · have ew : wdS (nodeN xs i).kind = ⟨⟨[111, 114]⟩⟩ := by unfold wdS; rw [if_pos k2]
      rw [ew] at w3 w4 he h3
      obtain ⟨w5, w6⟩ := At.noword (a := p1 + 1) (s := ⟨⟨[97, 110, 100]⟩⟩) (by rw [s3]; exact h3) (.inr (by decide))
      rw [s3] at w6
      have hC : cnOr K T a = ⟨ns (i + 1) ++ ns (spanI xs (i + 1)) ++ lpN xs ns m (spanI xs (spanI xs (i + 1))), (nodeN xs i).count, e, true⟩ := by
        unfold cnOr chnR
        rw [c1, w4, e6, e5, c0, e2, he]
      obtain ⟨r1, r2⟩ := cond_or w1 (by rw [c0]; exact e1) (by rw [c0, e3]; exact d1) (by unfold andB; rw [c1]; exact w5) (by unfold orB; rw [c1, w6]; exact w3) (by unfold orT; rw [c1, w4]; exact e4) hC hE.done
      exact ⟨r1, by rw [r2, fin, k2]⟩
end Go.Proofs.Ytlmanlpgknhfpaa
