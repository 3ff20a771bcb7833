/-
  Lemmas for SelectorTexts, part 7; no conditions.
-/
import Derived.Test.YtconlneohilnmaaTxpF
set_option linter.unusedVariables false
set_option linter.unusedSimpArgs false
namespace Go.Proofs.Ytconlneohilnmaa
open Go Go.RowKit Pl Sy
theorem getD_pre (pre : List TokV) (t : TokV) (post : List TokV) : (pre ++ t :: post).getD pre.length tok0 = t := by
  rw [List.getD_eq_getElem?_getD, List.getElem?_append_right (Nat.le_refl _), Nat.sub_self]; rfl
def At (T : List TokV) (a : Int) (t : TokV) : Prop := 0 ≤ a ∧ a < T.length ∧ T.getD a.toNat tok0 = t
theorem At.of {T pre post : List TokV} {t : TokV} {a : Int} (h : T = pre ++ t :: post) (ha : a = pre.length) : At T a t := by
  subst h ha
  refine ⟨by omega, by simp only [List.length_append, List.length_cons]; omega, ?_⟩
  rw [Int.toNat_natCast]
  exact getD_pre _ _ _
theorem At.kind {T : List TokV} {a : Int} {t : TokV} (h : At T a t) : kindI T a = t.kind := by
  unfold kindI
  rw [if_neg (by rw [leI_t]; have := h.2.1; omega), h.2.2]
theorem kind_end {T : List TokV} {a : Int} (h : a = T.length) : kindI T a = 0 := by
  unfold kindI
  rw [if_pos (by rw [leI_t]; omega)]
theorem At.take {T : List TokV} {a k : Int} {t : TokV} (h : At T a t) (hk : t.kind = k) : takeB T a k = true ∧ takeS T a k = t.text ∧ takeA T a k = a + 1 := by
  have e : takeB T a k = true := by unfold takeB; rw [h.kind, hk, eqI_t]
  refine ⟨e, ?_, takeA_t e⟩
  unfold takeS
  rw [if_pos e, h.2.2]
theorem take_no {T : List TokV} {a k : Int} (h : kindI T a ≠ k) : takeB T a k = false ∧ takeA T a k = a := by
  have e : takeB T a k = false := by unfold takeB; rw [eqI_f]; exact h
  exact ⟨e, by unfold takeA; rw [if_neg (nt e)]⟩
theorem At.sign {T : List TokV} {a : Int} {t : TokV} {s : ByteArray} (h : At T a t) (hk : t.kind = 19) (hs : t.text.data.toList = s.data.toList) : signB T a s = true ∧ signA T a s = a + 1 := by
  have e : signB T a s = true := by
    unfold signB; rw [h.kind, hk, h.2.2, hs, bytesEq_eq]; simp [eqI_t]
  exact ⟨e, signA_t e⟩
theorem sign_no {T : List TokV} {a : Int} {s : ByteArray} (h : kindI T a ≠ 19) : signB T a s = false ∧ signA T a s = a := by
  have e : signB T a s = false := by unfold signB; rw [show eqI (kindI T a) 19 = false by rw [eqI_f]; exact h]; rfl
  exact ⟨e, by unfold signA; rw [if_neg (nt e)]⟩
theorem At.sign_no {T : List TokV} {a : Int} {t : TokV} {s : ByteArray} (h : At T a t) (hs : t.text.data.toList ≠ s.data.toList) : signB T a s = false ∧ signA T a s = a := by
  have e : signB T a s = false := by
    unfold signB; rw [h.2.2, bytesEq_eq]; simp [hs]
  exact ⟨e, by unfold signA; rw [if_neg (nt e)]⟩
theorem skI_no {T : List TokV} {a : Int} (h0 : 0 ≤ a) (h : kindI T a ≠ 20) : skI T a = a := by
  unfold skI
  rw [skp_step, if_neg ?_]
  · omega
  · rintro ⟨h1, h2⟩
    apply h
    unfold kindI
    rw [if_neg (by rw [leI_t]; omega)]
    unfold spB tokAt at h2
    rw [eqI_t] at h2
    exact h2
theorem skI_one {T : List TokV} {a : Int} {t : TokV} (h : At T a t) (hk : t.kind = 20) (hn : kindI T (a + 1) ≠ 20) : skI T a = a + 1 := by
  have e := skI_no (by have := h.1; omega) hn
  unfold skI at e ⊢
  rw [skp_step, if_pos ⟨by have := h.2.1; have := h.1; omega, by unfold spB tokAt; rw [h.2.2, eqI_t]; exact hk⟩]
  rw [show (a + 1).toNat = a.toNat + 1 by have := h.1; omega] at e
  exact e
theorem mark_id {T : List TokV} {a : Int} {p : PartV} {s : ByteArray} (h : At T a (tk 4 s)) (h1 : p.id.data.toList = []) (h2 : nameL s.data.toList = true) : markV T a p = (2, { p with id := s }, a + 1) := by
  obtain ⟨q1, q2, q3⟩ := h.take (k := 4) rfl
  unfold markV mk1
  rw [if_pos q1, q2, q3, if_pos (by unfold isW; rw [h1, bytesEq_eq]; simp), if_pos (show nameL (tk 4 s).text.data.toList = true from h2)]
  rfl
theorem mark_cls {T : List TokV} {a : Int} {p : PartV} {s : ByteArray} (h : At T a (tk 19 ⟨#[46]⟩)) (h1 : At T (a + 1) (tk 1 s)) : markV T a p = (2, { p with cls := p.cls ++ [s] }, a + 2) := by
  obtain ⟨q1, q2⟩ := take_no (T := T) (a := a) (k := 4) (by rw [h.kind]; decide)
  obtain ⟨r1, r2⟩ := h.sign (s := ⟨⟨[46]⟩⟩) rfl rfl
  obtain ⟨u1, u2, u3⟩ := h1.take (k := 1) rfl
  unfold markV mk2 mk1
  rw [if_neg (nt q1), q2, if_pos r1, r2, if_pos u1, u2, u3]
  rw [show a + 1 + 1 = a + 2 by omega]
  rfl
theorem mark_no {T : List TokV} {a : Int} {p : PartV} (h4 : kindI T a ≠ 4) (h19 : kindI T a ≠ 19) (h15 : kindI T a ≠ 15) (h10 : kindI T a ≠ 10) : markV T a p = (1, p, a) := by
  obtain ⟨q1, q2⟩ := take_no h4
  obtain ⟨r1, r2⟩ := sign_no (s := ⟨⟨[46]⟩⟩) h19
  obtain ⟨u1, u2⟩ := take_no h15
  obtain ⟨w1, w2⟩ := take_no h10
  unfold markV mk4 mk3 mk2 mk1
  rw [q2, r2, u2, w2, if_neg (nt q1), if_neg (nt r1), if_neg (nt u1), if_neg (nt w1)]
theorem mark_state {T : List TokV} {a : Int} {p : PartV} {s : ByteArray} {b : Nat} (h : At T a (tk 10 ⟨#[]⟩)) (h1 : At T (a + 1) (tk 1 s)) (hs : (s = wRoot ∧ b = 1) ∨ (s = wFirst ∧ b = 2) ∨ (s = wLast ∧ b = 4)) : markV T a p = (2, { p with states := orSt p.states b }, a + 2) := by
  obtain ⟨q1, q2⟩ := take_no (T := T) (a := a) (k := 4) (by rw [h.kind]; decide)
  obtain ⟨r1, r2⟩ := sign_no (T := T) (a := a) (s := ⟨⟨[46]⟩⟩) (by rw [h.kind]; decide)
  obtain ⟨v1, v2⟩ := take_no (T := T) (a := a) (k := 15) (by rw [h.kind]; decide)
  obtain ⟨w1, w2, w3⟩ := h.take (k := 10) rfl
  obtain ⟨u1, u2, u3⟩ := h1.take (k := 1) rfl
  unfold markV mk4 mk3 mk2 mk1
  rw [q2, r2, v2, w3, if_neg (nt q1), if_neg (nt r1), if_neg (nt v1), if_pos w1, u2, u3, if_pos u1]
  rw [show a + 1 + 1 = a + 2 by omega]
  rcases hs with ⟨rfl, rfl⟩ | ⟨rfl, rfl⟩ | ⟨rfl, rfl⟩
  · rw [if_pos (by decide)]
  · rw [if_neg (by decide), if_pos (by decide)]
  · rw [if_neg (by decide), if_neg (by decide), if_pos (by decide)]
theorem mark_test {T : List TokV} {a : Int} {p : PartV} {n v : ByteArray} (h : At T a (tk 15 ⟨#[]⟩)) (h1 : At T (a + 1) (tk 1 n)) (h2 : At T (a + 2) (tk 19 ⟨#[61]⟩)) (h3 : At T (a + 3) (tk 5 v)) (h4 : At T (a + 4) (tk 16 ⟨#[]⟩)) : markV T a p = (2, { p with tests := p.tests ++ [⟨n, true, v⟩] }, a + 5) := by
  obtain ⟨q1, q2⟩ := take_no (T := T) (a := a) (k := 4) (by rw [h.kind]; decide)
  obtain ⟨r1, r2⟩ := sign_no (T := T) (a := a) (s := ⟨⟨[46]⟩⟩) (by rw [h.kind]; decide)
  obtain ⟨w1, w2, w3⟩ := h.take (k := 15) rfl
  have e1 : ts1 T (a + 1) = a + 1 := skI_no (by have := h.1; omega) (by rw [h1.kind]; show (1 : Int) ≠ _; decide)
  obtain ⟨u1, u2, u3⟩ := h1.take (k := 1) rfl
  have e2 : ts2 T (a + 1) = a + 2 := by
    unfold ts2; rw [e1, u3, show a + 1 + 1 = a + 2 by omega]
    exact skI_no (by have := h.1; omega) (by rw [h2.kind]; decide)
  obtain ⟨s1, s2⟩ := h2.sign (s := ⟨⟨[61]⟩⟩) rfl rfl
  have e3 : ts3 T (a + 1) = a + 3 := by unfold ts3; rw [e2, s2]; omega
  have e4 : skI T (a + 3) = a + 3 := skI_no (by have := h.1; omega) (by rw [h3.kind]; show (5 : Int) ≠ _; decide)
  obtain ⟨n1, n2⟩ := take_no (T := T) (a := a + 3) (k := 1) (by rw [h3.kind]; show (5 : Int) ≠ _; decide)
  obtain ⟨v1, v2, v3⟩ := h3.take (k := 5) rfl
  have f1 : valB T (a + 3) = true := by unfold valB; rw [e4, n2, v1, Bool.or_true]
  have f2 : valS T (a + 3) = v := by unfold valS; rw [e4, if_neg (nt n1), n2, v2]; rfl
  have f3 : valA T (a + 3) = a + 4 := by unfold valA; rw [e4, if_neg (nt n1), n2, v3]; omega
  have e5 : ts4 T (a + 1) = a + 4 := by
    unfold ts4; rw [e3, f3]
    exact skI_no (by have := h.1; omega) (by rw [h4.kind]; decide)
  obtain ⟨c1, c2, c3⟩ := h4.take (k := 16) rfl
  have ht : testM T (a + 1) = (true, ⟨n, true, v⟩, a + 5) := by
    unfold testM
    rw [e1, if_pos u1, e2, if_pos s1, e3, e5, f1, c1, u2, f2, c3]
    rw [show a + 4 + 1 = a + 5 by omega]
    rfl
  unfold markV mk3 mk2 mk1
  rw [q2, r2, w3, if_neg (nt q1), if_neg (nt r1), if_pos w1, ht]
  rfl
theorem mark_test0 {T : List TokV} {a : Int} {p : PartV} {n : ByteArray} (h : At T a (tk 15 ⟨#[]⟩)) (h1 : At T (a + 1) (tk 1 n)) (h2 : At T (a + 2) (tk 16 ⟨#[]⟩)) : markV T a p = (2, { p with tests := p.tests ++ [⟨n, false, ⟨⟨[]⟩⟩⟩] }, a + 3) := by
  obtain ⟨q1, q2⟩ := take_no (T := T) (a := a) (k := 4) (by rw [h.kind]; decide)
  obtain ⟨r1, r2⟩ := sign_no (T := T) (a := a) (s := ⟨⟨[46]⟩⟩) (by rw [h.kind]; decide)
  obtain ⟨w1, w2, w3⟩ := h.take (k := 15) rfl
  have e1 : ts1 T (a + 1) = a + 1 := skI_no (by have := h.1; omega) (by rw [h1.kind]; show (1 : Int) ≠ _; decide)
  obtain ⟨u1, u2, u3⟩ := h1.take (k := 1) rfl
  have e2 : ts2 T (a + 1) = a + 2 := by
    unfold ts2; rw [e1, u3, show a + 1 + 1 = a + 2 by omega]
    exact skI_no (by have := h.1; omega) (by rw [h2.kind]; decide)
  obtain ⟨s1, s2⟩ := sign_no (T := T) (a := a + 2) (s := ⟨⟨[61]⟩⟩) (by rw [h2.kind]; decide)
  have e3 : ts3 T (a + 1) = a + 2 := by unfold ts3; rw [e2, s2]
  obtain ⟨c1, c2, c3⟩ := h2.take (k := 16) rfl
  have ht : testM T (a + 1) = (true, ⟨n, false, ⟨⟨[]⟩⟩⟩, a + 3) := by
    unfold testM
    rw [e1, if_pos u1, e2, if_neg (nt s1), e3, c1, u2, c3]
    rw [show a + 2 + 1 = a + 3 by omega]
    rfl
  unfold markV mk3 mk2 mk1
  rw [q2, r2, w3, if_neg (nt q1), if_neg (nt r1), if_pos w1, ht]
  rfl
end Go.Proofs.Ytconlneohilnmaa
namespace Go.Proofs.Ytconlneohilnmaa
open Go Go.RowKit Pl Sy
def Seg (T : List TokV) (a : Int) (L : List TokV) : Prop := ∃ pre post, T = pre ++ (L ++ post) ∧ a = pre.length
theorem Seg.at {T : List TokV} {a : Int} {t : TokV} {L : List TokV} (h : Seg T a (t :: L)) : At T a t := by
  obtain ⟨pre, post, h1, h2⟩ := h
  exact At.of (pre := pre) (post := L ++ post) h1 h2
theorem Seg.tail {T : List TokV} {a : Int} {t : TokV} {L : List TokV} (h : Seg T a (t :: L)) : Seg T (a + 1) L := by
  obtain ⟨pre, post, h1, h2⟩ := h
  exact ⟨pre ++ [t], post, by rw [h1]; simp, by rw [h2]; simp⟩
theorem Seg.left {T : List TokV} {a : Int} {L1 L2 : List TokV} (h : Seg T a (L1 ++ L2)) : Seg T a L1 := by
  obtain ⟨pre, post, h1, h2⟩ := h
  exact ⟨pre, L2 ++ post, by rw [h1]; simp, h2⟩
theorem Seg.right {T : List TokV} {a : Int} {L1 L2 : List TokV} (h : Seg T a (L1 ++ L2)) : Seg T (a + L1.length) L2 := by
  obtain ⟨pre, post, h1, h2⟩ := h
  exact ⟨pre ++ L1, post, by rw [h1]; simp, by rw [h2]; simp⟩
theorem Seg.le {T : List TokV} {a : Int} {L : List TokV} (h : Seg T a L) : 0 ≤ a ∧ a + L.length ≤ T.length := by
  obtain ⟨pre, post, h1, h2⟩ := h
  rw [h1, h2]
  simp only [List.length_append]
  omega
theorem marks_go {T : List TokV} {f0 a a' : Int} {p p' : PartV} {n : Nat} (h : markV T a p = (2, p', a')) : marksV T f0 (n + 1) a p = marksV T f0 n a' p' := by
  rw [marksV_2 (by rw [h]), h]
theorem marks_cls (T : List TokV) (f0 : Int) (n : Nat) : ∀ (cs : List ByteArray) (a : Int) (p : PartV), Seg T a (clssT cs) → marksV T f0 (n + cs.length) a p = marksV T f0 n (a + (clssT cs).length) { p with cls := p.cls ++ cs }
  | [], a, p, _ => by simp [clssT]
  | s :: cs, a, p, h => by
    have h : Seg T a ([tk 19 ⟨#[46]⟩, tk 1 s] ++ clssT cs) := h
    have h1 := h.left.at
    have h2 := h.left.tail.at
    have ih := marks_cls T f0 n cs (a + 2) { p with cls := p.cls ++ [s] } h.right
    rw [show n + (s :: cs).length = (n + cs.length) + 1 by simp only [List.length_cons]; omega, marks_go (mark_cls h1 h2), ih]
    have e : (clssT (s :: cs)).length = 2 + (clssT cs).length := by rw [clssT_cons, List.length_append]; rfl
    rw [e]
    congr 1
    · push_cast; omega
    · simp
theorem marks_tests (T : List TokV) (f0 : Int) (n : Nat) : ∀ (ts : List TestV) (a : Int) (p : PartV), (∀ t ∈ ts, t.equal = false → t.value = ⟨⟨[]⟩⟩) → Seg T a (testsT ts) → marksV T f0 (n + ts.length) a p = marksV T f0 n (a + (testsT ts).length) { p with tests := p.tests ++ ts }
  | [], a, p, _, _ => by simp [testsT]
  | t :: ts, a, p, hv, h => by
    have h : Seg T a (testT t ++ testsT ts) := h
    have hl := h.left
    have hr := h.right
    have e : (testsT (t :: ts)).length = (testT t).length + (testsT ts).length := by
      show ((t :: ts).flatMap testT).length = _
      rw [List.flatMap_cons, List.length_append]; rfl
    rw [show n + (t :: ts).length = (n + ts.length) + 1 by simp only [List.length_cons]; omega]
    obtain ⟨nm, eq, vl⟩ := t
    have ih := fun a' h' => marks_tests T f0 n ts a' { p with tests := p.tests ++ [⟨nm, eq, vl⟩] } (fun x hx => hv x (by simp [hx])) h'
    cases eq with
    | true =>
      have et : testT ⟨nm, true, vl⟩ = [tk 15 ⟨#[]⟩, tk 1 nm, tk 19 ⟨#[61]⟩, tk 5 vl, tk 16 ⟨#[]⟩] := rfl
      rw [et] at hl hr e
      have q0 := hl.at
      have q1 := hl.tail.at
      have q2 := hl.tail.tail.at
      have q3 := hl.tail.tail.tail.at
      have q4 := hl.tail.tail.tail.tail.at
      rw [show a + 1 + 1 = a + 2 by omega] at q2 q3 q4
      rw [show a + 2 + 1 = a + 3 by omega] at q3 q4
      rw [show a + 3 + 1 = a + 4 by omega] at q4
      rw [marks_go (mark_test q0 q1 q2 q3 q4), ih (a + 5) hr, e]
      congr 1
      · simp only [List.length_cons, List.length_nil]; push_cast; omega
      · simp
    | false =>
      obtain rfl : vl = ⟨⟨[]⟩⟩ := hv ⟨nm, false, vl⟩ (by simp) rfl
      have et : testT ⟨nm, false, ⟨⟨[]⟩⟩⟩ = [tk 15 ⟨#[]⟩, tk 1 nm, tk 16 ⟨#[]⟩] := rfl
      rw [et] at hl hr e
      have q0 := hl.at
      have q1 := hl.tail.at
      have q2 := hl.tail.tail.at
      rw [show a + 1 + 1 = a + 2 by omega] at q2
      rw [marks_go (mark_test0 q0 q1 q2), ih (a + 3) hr, e]
      congr 1
      · simp only [List.length_cons, List.length_nil]; push_cast; omega
      · simp
theorem marks_end {T : List TokV} {f0 a : Int} {p : PartV} {n : Nat} (h : kindI T a = 0 ∨ kindI T a = 20) : marksV T f0 (n + 1) a p = (p, a, !leI a f0 && !wrongB p) := by
  have e : markV T a p = (1, p, a) := by
    rcases h with h | h <;> exact mark_no (by rw [h]; decide) (by rw [h]; decide) (by rw [h]; decide) (by rw [h]; decide)
  simp only [marksV, e]
end Go.Proofs.Ytconlneohilnmaa
namespace Go.Proofs.Ytconlneohilnmaa
open Go Go.RowKit Pl Sy
theorem bytes_nil {s : ByteArray} (h : s.data.toList = []) : s = ⟨⟨[]⟩⟩ := by
  cases s with
  | mk d =>
    cases d with
    | mk l =>
      simp only at h
      rw [h]
def stb (n b : Int) : Bool := leI (IntKind.i64.wrap (((BitVec.ofInt 64 n &&& BitVec.ofInt 64 b).toNat : Nat) : Int)) 0
def orI (n : Int) (b : Nat) (x : Int) : Int := if stb n b = true then x else orSt x b
theorem or_all (n : Int) (h0 : 0 ≤ n) (h7 : n ≤ 7) : orI n 4 (orI n 2 (orI n 1 0)) = n := by
  have h : n = 0 ∨ n = 1 ∨ n = 2 ∨ n = 3 ∨ n = 4 ∨ n = 5 ∨ n = 6 ∨ n = 7 := by omega
  rcases h with rfl | rfl | rfl | rfl | rfl | rfl | rfl | rfl <;> decide
theorem stateT_eq (n : Int) (b : Nat) (s : ByteArray) : stateT n b s = if stb n b = true then [] else [tk 10 ⟨#[]⟩, tk 1 s] := rfl
theorem marks_state (T : List TokV) (f0 : Int) (n : Int) (b : Nat) (s : ByteArray) (hs : (s = wRoot ∧ b = 1) ∨ (s = wFirst ∧ b = 2) ∨ (s = wLast ∧ b = 4)) (a : Int) (p : PartV) (h : Seg T a (stateT n b s)) : ∃ k, k ≤ (stateT n b s).length ∧ ∀ m, marksV T f0 (m + k) a p = marksV T f0 m (a + (stateT n b s).length) { p with states := orI n b p.states } := by
  rw [stateT_eq] at h ⊢
  unfold orI
  by_cases e : stb n b = true
  · refine ⟨0, Nat.zero_le _, fun m => ?_⟩
    rw [if_pos e, if_pos e]
    simp
  · rw [if_neg e] at h
    rw [if_neg e, if_neg e]
    refine ⟨1, by simp, fun m => ?_⟩
    rw [marks_go (mark_state h.at h.tail.at hs)]
    rfl
theorem marks_id (T : List TokV) (f0 : Int) (q : PartV) (a : Int) (p : PartV) (hp : p.id = ⟨⟨[]⟩⟩) (hq : isW q.id ⟨⟨[]⟩⟩ = true ∨ nameL q.id.data.toList = true) (h : Seg T a (idT q)) : ∃ k, k ≤ (idT q).length ∧ ∀ m, marksV T f0 (m + k) a p = marksV T f0 m (a + (idT q).length) { p with id := q.id } := by
  unfold idT at h ⊢
  by_cases e : bytesEq q.id.data.toList [] = true
  · refine ⟨0, Nat.zero_le _, fun m => ?_⟩
    rw [if_pos e]
    rw [bytesEq_eq, decide_eq_true_eq] at e
    have e2 : q.id = ⟨⟨[]⟩⟩ := bytes_nil e
    rw [e2, ← hp]
    simp
  · rw [if_neg e] at h
    have hq : nameL q.id.data.toList = true := by
      rcases hq with hq | hq
      · exact absurd hq e
      · exact hq
    rw [if_neg e]
    refine ⟨1, by simp, fun m => ?_⟩
    rw [marks_go (mark_id h.at (by rw [hp]) hq)]
    rfl
theorem not_wrong {p : PartV} (h : wrongB p = false) : (isW p.tag ⟨⟨[]⟩⟩ = true ∨ nameL p.tag.data.toList = true) ∧ (isW p.id ⟨⟨[]⟩⟩ = true ∨ nameL p.id.data.toList = true) ∧ ∀ t ∈ p.tests, t.equal = false → t.value = ⟨⟨[]⟩⟩ := by
  unfold wrongB at h
  simp only [Bool.or_eq_false_iff, Bool.and_eq_false_iff, Bool.not_eq_false'] at h
  obtain ⟨h1, h2, _, _, _, _, h3, h4⟩ := h
  refine ⟨h1.imp id fun h => ?_, h2.imp id fun h => ?_, fun t ht he => ?_⟩
  · unfold lacksB at h; simpa using h
  · unfold lacksB at h; simpa using h
  · unfold anyT at h4
    rw [List.any_eq_false] at h4
    have h5 := h4 t ht
    unfold oddB at h5
    rw [he] at h5
    simp only [Bool.not_false, Bool.true_and, Bool.or_eq_true, not_or, Bool.not_eq_true', Bool.not_eq_false, bytesEq_eq, decide_eq_true_eq] at h5
    exact bytes_nil h5.2
def restT (p : PartV) : List TokV := idT p ++ (clssT p.cls ++ (testsT p.tests ++ (stateT p.states (1 : Nat) wRoot ++ (stateT p.states (2 : Nat) wFirst ++ stateT p.states (4 : Nat) wLast))))
theorem marks_bodyK (T : List TokV) (f0 : Int) (p : PartV) (hw : wrongB p = false) (b c : Int) (h : Seg T b (restT p)) : ∃ K, K ≤ (restT p).length ∧ ∀ m, marksV T f0 (m + K) b (p0V c p.tag) = marksV T f0 m (b + (restT p).length) { p with comb := c } := by
  obtain ⟨_, w2, w3⟩ := not_wrong hw
  obtain ⟨⟨s0, s7⟩, _⟩ := wrong_no hw
  unfold restT at h
  have g0 := h.left
  have h1 := h.right
  have g1 := h1.left
  have h2 := h1.right
  have g2 := h2.left
  have h3 := h2.right
  have g3 := h3.left
  have h4 := h3.right
  have g4 := h4.left
  have g5 := h4.right
  obtain ⟨k3, l3, e3⟩ := marks_state T f0 p.states 4 wLast (.inr (.inr ⟨rfl, rfl⟩)) _ ⟨c, p.tag, p.id, p.cls, p.tests, orI p.states 2 (orI p.states 1 0)⟩ g5
  obtain ⟨k2, l2, e2⟩ := marks_state T f0 p.states 2 wFirst (.inr (.inl ⟨rfl, rfl⟩)) _ ⟨c, p.tag, p.id, p.cls, p.tests, orI p.states 1 0⟩ g4
  obtain ⟨k1, l1, e1⟩ := marks_state T f0 p.states 1 wRoot (.inl ⟨rfl, rfl⟩) _ ⟨c, p.tag, p.id, p.cls, p.tests, 0⟩ g3
  have et := fun m => marks_tests T f0 (m + k3 + k2 + k1) p.tests _ ⟨c, p.tag, p.id, p.cls, [], 0⟩ w3 g2
  have ec := fun m => marks_cls T f0 (m + k3 + k2 + k1 + p.tests.length) p.cls _ ⟨c, p.tag, p.id, [], [], 0⟩ g1
  obtain ⟨k0, l0, e0⟩ := marks_id T f0 p b (p0V c p.tag) rfl w2 g0
  have lc := clssT_len p.cls
  have lt : p.tests.length ≤ (testsT p.tests).length := by
    clear et g2 h2 h3 h4 g3 g4 g5 w3 hw
    induction p.tests with
    | nil => simp
    | cons t l ih =>
      show l.length + 1 ≤ ((t :: l).flatMap testT).length
      rw [List.flatMap_cons, List.length_append]
      have : 1 ≤ (testT t).length := by unfold testT; split <;> simp
      unfold testsT at ih
      omega
  refine ⟨k3 + k2 + k1 + p.tests.length + p.cls.length + k0, ?_, fun m => ?_⟩
  · unfold restT
    simp only [List.length_append]
    omega
  · rw [show m + (k3 + k2 + k1 + p.tests.length + p.cls.length + k0) = m + k3 + k2 + k1 + p.tests.length + p.cls.length + k0 by omega, e0]
    simp only [List.nil_append] at ec et
    rw [show ({ p0V c p.tag with id := p.id } : PartV) = ⟨c, p.tag, p.id, [], [], 0⟩ from rfl, ec, et, e1, e2, e3]
    have ho := or_all p.states s0 s7
    simp only [ho]
    congr 1
    unfold restT
    simp only [List.length_append]
    push_cast
    omega
theorem marks_body (T : List TokV) (f0 : Int) (p : PartV) (hw : wrongB p = false) (b c : Int) (m : Nat) (h : Seg T b (restT p)) : ∃ K, K ≤ (restT p).length ∧ marksV T f0 (m + K) b (p0V c p.tag) = marksV T f0 m (b + (restT p).length) { p with comb := c } := by
  obtain ⟨K, h1, h2⟩ := marks_bodyK T f0 p hw b c h
  exact ⟨K, h1, h2 m⟩
end Go.Proofs.Ytconlneohilnmaa
namespace Go.Proofs.Ytconlneohilnmaa
open Go Go.RowKit Pl Sy
theorem bodyT_eq (p : PartV) : bodyT p = tagT p ++ restT p := rfl
theorem rest_kind {p : PartV} {t : TokV} {L : List TokV} (h : restT p = t :: L) : t.kind ≠ 1 ∧ t.kind ≠ 20 ∧ (t.kind = 19 → t.text.data.toList ≠ [42]) := by
  have h0 : ∀ (M : List TokV), (∀ u ∈ M.head?, u.kind ≠ 1 ∧ u.kind ≠ 20 ∧ (u.kind = 19 → u.text.data.toList ≠ [42])) → M = t :: L → t.kind ≠ 1 ∧ t.kind ≠ 20 ∧ (t.kind = 19 → t.text.data.toList ≠ [42]) := fun M hM e => hM t (by rw [e]; rfl)
  have app : ∀ (A B : List TokV), (∀ u ∈ A.head?, u.kind ≠ 1 ∧ u.kind ≠ 20 ∧ (u.kind = 19 → u.text.data.toList ≠ [42])) → (∀ u ∈ B.head?, u.kind ≠ 1 ∧ u.kind ≠ 20 ∧ (u.kind = 19 → u.text.data.toList ≠ [42])) → ∀ u ∈ (A ++ B).head?, u.kind ≠ 1 ∧ u.kind ≠ 20 ∧ (u.kind = 19 → u.text.data.toList ≠ [42]) := fun A B hA hB => by
    cases A with
    | nil => exact hB
    | cons x A => exact hA
  have st : ∀ (n : Int) (b : Nat) (s : ByteArray), ∀ u ∈ (stateT n b s).head?, u.kind ≠ 1 ∧ u.kind ≠ 20 ∧ (u.kind = 19 → u.text.data.toList ≠ [42]) := fun n b s u hu => by
    rw [stateT_eq] at hu
    split at hu
    · simp at hu
    · simp at hu; subst hu
      exact ⟨by show (10 : Int) ≠ 1; decide, by show (10 : Int) ≠ 20; decide, fun e => absurd e (by show (10 : Int) ≠ 19; decide)⟩
  refine h0 (restT p) (app _ _ ?_ (app _ _ ?_ (app _ _ ?_ (app _ _ (st _ _ _) (app _ _ (st _ _ _) (st _ _ _)))))) h
  · intro u hu
    unfold idT at hu
    split at hu
    · simp at hu
    · simp at hu; subst hu
      exact ⟨by show (4 : Int) ≠ 1; decide, by show (4 : Int) ≠ 20; decide, fun e => absurd e (by show (4 : Int) ≠ 19; decide)⟩
  · intro u hu
    cases hc : p.cls with
    | nil => rw [hc] at hu; simp [clssT] at hu
    | cons s l =>
      rw [hc, clssT_cons] at hu
      simp at hu; subst hu
      exact ⟨by show (19 : Int) ≠ 1; decide, by show (19 : Int) ≠ 20; decide, fun _ => by decide⟩
  · intro u hu
    cases hc : p.tests with
    | nil => rw [hc] at hu; simp [testsT] at hu
    | cons s l =>
      rw [hc] at hu
      have e : ∃ M, testsT (s :: l) = tk 15 ⟨#[]⟩ :: M := by
        show ∃ M, (s :: l).flatMap testT = _
        rw [List.flatMap_cons]
        unfold testT
        split <;> exact ⟨_, rfl⟩
      obtain ⟨M, e⟩ := e
      rw [e] at hu
      simp at hu; subst hu
      exact ⟨by show (15 : Int) ≠ 1; decide, by show (15 : Int) ≠ 20; decide, fun e => absurd e (by show (15 : Int) ≠ 19; decide)⟩
theorem wrong_comb (p : PartV) (c : Int) : wrongB { p with comb := c } = wrongB p := rfl
theorem part_law (T : List TokV) (a c : Int) (p : PartV) (hw : wrongB p = false) (h : Seg T a (partT p)) (hn : kindI T (a + (partT p).length) = 0 ∨ kindI T (a + (partT p).length) = 20) : rprtV T a c = ({ p with comb := c }, a + (partT p).length, true) := by
  have hle := h.le
  unfold partT at h hn hle ⊢
  by_cases he : (bodyT p).length = 0
  · rw [if_pos he] at h hn hle ⊢
    have hb : restT p = [] := by
      rw [bodyT_eq, List.length_append] at he
      exact List.length_eq_zero_iff.1 (by omega)
    have ht : tagT p = [] := by
      rw [bodyT_eq, List.length_append] at he
      exact List.length_eq_zero_iff.1 (by omega)
    have htag : p.tag = ⟨⟨[]⟩⟩ := by
      unfold tagT at ht
      split at ht
      · rename_i e
        rw [bytesEq_eq, decide_eq_true_eq] at e
        exact bytes_nil e
      · cases ht
    have q := h.at
    obtain ⟨u1, u2⟩ := take_no (T := T) (a := a) (k := 1) (by rw [q.kind]; decide)
    obtain ⟨v1, v2⟩ := q.sign (s := ⟨⟨[42]⟩⟩) rfl rfl
    obtain ⟨K, hK, e⟩ := marks_body T a p hw (a + 1) c (T.length + 1) (by rw [hb]; exact h.tail)
    rw [hb] at hK e
    obtain rfl : K = 0 := by simpa using hK
    unfold rprtV prtV
    rw [if_neg (nt u1), u2, v2]
    rw [htag] at e
    simp only [List.length_nil, Nat.add_zero] at e
    rw [e]
    simp only [List.length_cons, List.length_nil] at hn ⊢
    rw [show a + 1 + ((0 : Nat) : Int) = a + ((0 + 1 : Nat) : Int) by omega, marks_end hn]
    rw [← htag, wrong_comb, hw]
    rw [show leI (a + ((0 + 1 : Nat) : Int)) a = false by rw [leI_f]; omega]
    simp only [Bool.not_false, Bool.and_self]
  · rw [if_neg he] at h hn hle ⊢
    have he2 := he
    rw [bodyT_eq] at h hn hle he2 ⊢
    have fin : ∀ b : Int, a ≤ b → b + (restT p).length = a + (tagT p ++ restT p).length → Seg T b (restT p) → marksV T a (T.length + 1) b (p0V c p.tag) = ({ p with comb := c }, a + (tagT p ++ restT p).length, true) := fun b hab hb hs => by
      have hsl := hs.le
      have hpos : a + (tagT p ++ restT p).length > a := by omega
      obtain ⟨K2, hK2, e⟩ : ∃ K, K ≤ T.length ∧ ∃ m, T.length + 1 = m + 1 + K ∧ marksV T a (m + 1 + K) b (p0V c p.tag) = marksV T a (m + 1) (b + (restT p).length) { p with comb := c } := by
        obtain ⟨K, hK, he⟩ := marks_bodyK T a p hw b c hs
        exact ⟨K, by omega, T.length - K, by omega, he _⟩
      obtain ⟨m, hm, e⟩ := e
      rw [hm, e, hb, marks_end hn, wrong_comb, hw]
      rw [show leI (a + ((tagT p ++ restT p).length : Int)) a = false by rw [leI_f]; omega]
      simp only [Bool.not_false, Bool.and_self]
    by_cases ht : bytesEq p.tag.data.toList [] = true
    · have e1 : tagT p = [] := by unfold tagT; rw [if_pos ht]
      have e2 : p.tag = ⟨⟨[]⟩⟩ := by rw [bytesEq_eq, decide_eq_true_eq] at ht; exact bytes_nil ht
      rw [e1, List.nil_append] at h he2
      obtain ⟨t, L, hL⟩ : ∃ t L, restT p = t :: L := by
        cases hr : restT p with
        | nil => rw [hr] at he2; simp at he2
        | cons t L => exact ⟨t, L, rfl⟩
      obtain ⟨f1, f2, f3⟩ := rest_kind hL
      have q : At T a t := by rw [hL] at h; exact h.at
      obtain ⟨u1, u2⟩ := take_no (T := T) (a := a) (k := 1) (by rw [q.kind]; exact f1)
      have v : signA T a ⟨⟨[42]⟩⟩ = a := by
        by_cases h19 : t.kind = 19
        · exact (q.sign_no (s := ⟨⟨[42]⟩⟩) (f3 h19)).2
        · exact (sign_no (by rw [q.kind]; exact h19)).2
      unfold rprtV prtV
      rw [if_neg (nt u1), u2, v]
      rw [← e2]
      exact fin a (Int.le_refl _) (by rw [e1, List.nil_append]) h
    · have e1 : tagT p = [tk 1 p.tag] := by unfold tagT; rw [if_neg ht]
      have q : At T a (tk 1 p.tag) := by rw [e1] at h; exact h.left.at
      obtain ⟨u1, u2, u3⟩ := q.take (k := 1) rfl
      unfold rprtV prtV
      rw [if_pos u1, u2, u3]
      have h2 := h.right
      rw [e1] at h2
      exact fin (a + 1) (by omega) (by rw [e1]; simp only [List.length_append, List.length_cons, List.length_nil]; push_cast; omega) h2
end Go.Proofs.Ytconlneohilnmaa
namespace Go.Proofs.Ytconlneohilnmaa
open Go Go.RowKit Pl Sy
def NoComb (t : TokV) : Prop := t.kind ≠ 20 ∧ (t.kind = 19 → t.text.data.toList ≠ [62] ∧ t.text.data.toList ≠ [43] ∧ t.text.data.toList ≠ [126])
theorem sign_not {T : List TokV} {a : Int} {t : TokV} (s : ByteArray) (h : At T a t) (h2 : t.kind = 19 → t.text.data.toList ≠ s.data.toList) : signB T a s = false ∧ signA T a s = a := by
  by_cases hk : t.kind = 19
  · exact h.sign_no (h2 hk)
  · exact sign_no (by rw [h.kind]; exact hk)
theorem cmb_law {T : List TokV} {a c : Int} {t : TokV} (h1 : 1 ≤ c) (h4 : c ≤ 4) (h : Seg T a (combT c)) (hq : At T (a + (combT c).length) t) (ht : NoComb t) : cmbI T a = c ∧ cmbA T a = a + (combT c).length := by
  have h0 := h.le.1
  have hc : c = 1 ∨ c = 2 ∨ c = 3 ∨ c = 4 := by omega
  rcases hc with rfl | rfl | rfl | rfl
  · have e : combT 1 = [tk 20 ⟨#[]⟩] := rfl
    rw [e] at h hq ⊢
    simp only [List.length_cons, List.length_nil] at hq ⊢
    rw [show a + ((0 + 1 : Nat) : Int) = a + 1 by omega] at hq ⊢
    have s0 : skI T a = a + 1 := skI_one h.at rfl (by rw [hq.kind]; exact ht.1)
    obtain ⟨a1, a2⟩ := sign_not ⟨⟨[62]⟩⟩ hq (fun k => (ht.2 k).1)
    obtain ⟨b1, b2⟩ := sign_not ⟨⟨[43]⟩⟩ hq (fun k => (ht.2 k).2.1)
    obtain ⟨c1, c2⟩ := sign_not ⟨⟨[126]⟩⟩ hq (fun k => (ht.2 k).2.2)
    unfold cmbI cmbA cmB3 cmB2 cmB1
    rw [s0, a2, b2, c2, if_neg (nt a1), if_neg (nt b1), if_neg (nt c1), if_neg (nt a1), if_neg (nt b1), if_neg (nt c1), if_neg (by rw [leI_t]; omega)]
    exact ⟨rfl, rfl⟩
  all_goals
    have q0 := h.at
    have q1 := h.tail.at
    have q2 := h.tail.tail.at
    rw [show a + 1 + 1 = a + 2 by omega] at q2
  · have e : (combT 2).length = 3 := rfl
    rw [e] at hq ⊢
    have s0 : skI T a = a + 1 := skI_one q0 rfl (by rw [q1.kind]; decide)
    obtain ⟨a1, a2⟩ := q1.sign (s := ⟨⟨[62]⟩⟩) rfl rfl
    have s2 : skI T (a + 2) = a + 3 := by
      rw [show a + 3 = a + 2 + 1 by omega]
      exact skI_one q2 rfl (by rw [show a + 2 + 1 = a + ((3 : Nat) : Int) by omega, hq.kind]; exact ht.1)
    unfold cmbI cmbA cmB1
    rw [s0, a2, if_pos a1, if_pos a1, show a + 1 + 1 = a + 2 by omega, s2]
    exact ⟨rfl, by omega⟩
  · have e : (combT 3).length = 3 := rfl
    rw [e] at hq ⊢
    have s0 : skI T a = a + 1 := skI_one q0 rfl (by rw [q1.kind]; decide)
    obtain ⟨a1, a2⟩ := q1.sign_no (s := ⟨⟨[62]⟩⟩) (by decide)
    obtain ⟨b1, b2⟩ := q1.sign (s := ⟨⟨[43]⟩⟩) rfl rfl
    have s2 : skI T (a + 2) = a + 3 := by
      rw [show a + 3 = a + 2 + 1 by omega]
      exact skI_one q2 rfl (by rw [show a + 2 + 1 = a + ((3 : Nat) : Int) by omega, hq.kind]; exact ht.1)
    unfold cmbI cmbA cmB2 cmB1
    rw [s0, a2, b2, if_neg (nt a1), if_pos b1, if_neg (nt a1), if_pos b1, show a + 1 + 1 = a + 2 by omega, s2]
    exact ⟨rfl, by omega⟩
  · have e : (combT 4).length = 3 := rfl
    rw [e] at hq ⊢
    have s0 : skI T a = a + 1 := skI_one q0 rfl (by rw [q1.kind]; decide)
    obtain ⟨a1, a2⟩ := q1.sign_no (s := ⟨⟨[62]⟩⟩) (by decide)
    obtain ⟨b1, b2⟩ := q1.sign_no (s := ⟨⟨[43]⟩⟩) (by decide)
    obtain ⟨c1, c2⟩ := q1.sign (s := ⟨⟨[126]⟩⟩) rfl rfl
    have s2 : skI T (a + 2) = a + 3 := by
      rw [show a + 3 = a + 2 + 1 by omega]
      exact skI_one q2 rfl (by rw [show a + 2 + 1 = a + ((3 : Nat) : Int) by omega, hq.kind]; exact ht.1)
    unfold cmbI cmbA cmB3 cmB2 cmB1
    rw [s0, a2, b2, c2, if_neg (nt a1), if_neg (nt b1), if_pos c1, if_neg (nt a1), if_neg (nt b1), if_pos c1, show a + 1 + 1 = a + 2 by omega, s2]
    exact ⟨rfl, by omega⟩
end Go.Proofs.Ytconlneohilnmaa
namespace Go.Proofs.Ytconlneohilnmaa
open Go Go.RowKit Pl Sy
theorem head_app {P : TokV → Prop} {A B : List TokV} (hA : ∀ u ∈ A.head?, P u) (hB : ∀ u ∈ B.head?, P u) : ∀ u ∈ (A ++ B).head?, P u := by
  cases A with
  | nil => exact hB
  | cons x A => exact hA
theorem noComb_of {t : TokV} (k : Int) (h : t.kind = k) (h1 : k ≠ 20) (h2 : k ≠ 19) : NoComb t := ⟨by rw [h]; exact h1, fun e => absurd (h.symm.trans e) h2⟩
theorem part_first (p : PartV) : ∃ t L, partT p = t :: L ∧ NoComb t := by
  have st : ∀ (n : Int) (b : Nat) (s : ByteArray), ∀ u ∈ (stateT n b s).head?, NoComb u := fun n b s u hu => by
    rw [stateT_eq] at hu
    split at hu
    · simp at hu
    · simp at hu; subst hu
      exact noComb_of 10 rfl (by decide) (by decide)
  have hb : ∀ u ∈ (bodyT p).head?, NoComb u := by
    rw [bodyT_eq]
    refine head_app ?_ (head_app ?_ (head_app ?_ (head_app ?_ (head_app (st _ _ _) (head_app (st _ _ _) (st _ _ _))))))
    · intro u hu
      unfold tagT at hu
      split at hu
      · simp at hu
      · simp at hu; subst hu
        exact noComb_of 1 rfl (by decide) (by decide)
    · intro u hu
      unfold idT at hu
      split at hu
      · simp at hu
      · simp at hu; subst hu
        exact noComb_of 4 rfl (by decide) (by decide)
    · intro u hu
      cases hc : p.cls with
      | nil => rw [hc] at hu; simp [clssT] at hu
      | cons s l =>
        rw [hc, clssT_cons] at hu
        simp at hu; subst hu
        exact ⟨by show (19 : Int) ≠ 20; decide, fun _ => ⟨by decide, by decide, by decide⟩⟩
    · intro u hu
      cases hc : p.tests with
      | nil => rw [hc] at hu; simp [testsT] at hu
      | cons s l =>
        rw [hc] at hu
        have e : ∃ M, testsT (s :: l) = tk 15 ⟨#[]⟩ :: M := by
          show ∃ M, (s :: l).flatMap testT = _
          rw [List.flatMap_cons]
          unfold testT
          split <;> exact ⟨_, rfl⟩
        obtain ⟨M, e⟩ := e
        rw [e] at hu
        simp at hu; subst hu
        exact noComb_of 15 rfl (by decide) (by decide)
  unfold partT
  split
  · exact ⟨_, _, rfl, by show (19 : Int) ≠ 20; decide, fun _ => ⟨by decide, by decide, by decide⟩⟩
  · rename_i hne
    cases hc : bodyT p with
    | nil => rw [hc] at hne; simp at hne
    | cons t L => exact ⟨t, L, rfl, hb t (by rw [hc]; rfl)⟩
theorem sels_law (T : List TokV) : ∀ (l : List PartV) (n : Nat) (a : Int) (acc : List PartV) (p : PartV), l.length < n → Seg T a (partsT l) → a + (partsT l).length = T.length → (∀ q ∈ l, wrongB q = false ∧ 1 ≤ q.comb ∧ q.comb ≤ 4) →
    (selsV T n a true acc p).ret = true ∧ (selsV T n a true acc p).r = leI ((acc ++ p :: l).length : Nat) 8 ∧ (selsV T n a true acc p).ps = acc ++ p :: l := by
  intro l
  induction l with
  | nil =>
    intro n a acc p hn h he _
    obtain ⟨n, rfl⟩ : ∃ m, n = m + 1 := ⟨n - 1, by simp at hn; omega⟩
    have e : eqI a T.length = true := by rw [eqI_t, ← he]; simp [partsT]
    unfold selsV
    rw [if_pos rfl, if_pos e]
    exact ⟨rfl, by simp, rfl⟩
  | cons q l ih =>
    intro n a acc p hn h he hw
    obtain ⟨n, rfl⟩ : ∃ m, n = m + 1 := ⟨n - 1, by simp at hn; omega⟩
    rw [partsT_cons] at h he
    simp only [List.length_append] at he
    obtain ⟨w1, w2, w3⟩ := hw q (by simp)
    obtain ⟨t, L, ht, hno⟩ := part_first q
    have hc := h.left.left
    have hp := h.left.right
    have hr := h.right
    simp only [List.length_append] at hr
    have hp0 := hp
    rw [ht] at hp0
    obtain ⟨c1, c2⟩ := cmb_law w2 w3 hc hp0.at hno
    have hlp : 1 ≤ (partT q).length := by rw [ht]; simp
    have hnext : kindI T (a + (combT q.comb).length + (partT q).length) = 0 ∨ kindI T (a + (combT q.comb).length + (partT q).length) = 20 := by
      cases l with
      | nil => exact .inl (kind_end (by simp only [partsT, List.flatMap_nil, List.length_nil] at he; push_cast at he ⊢; omega))
      | cons q2 l2 =>
        rw [partsT_cons] at hr
        obtain ⟨_, v2, v3⟩ := hw q2 (by simp)
        obtain ⟨M, eM⟩ : ∃ M, combT q2.comb = tk 20 ⟨#[]⟩ :: M := by
          unfold combT
          rw [if_neg (by omega)]
          split <;> exact ⟨_, rfl⟩
        have := hr.left.left
        rw [eM] at this
        have k := this.at.kind
        rw [show a + (((combT q.comb).length + (partT q).length : Nat) : Int) = a + (combT q.comb).length + (partT q).length by push_cast; omega] at k
        exact .inr k
    have hpl := part_law T (a + (combT q.comb).length) q.comb q w1 hp hnext
    have e1 : eqI a T.length = false := by rw [eqI_f]; push_cast at he; omega
    have e2 : eqI (cmbI T a) 0 = false := by rw [eqI_f, c1]; omega
    have e : selsV T (n + 1) a true acc p = selsV T n (a + (combT q.comb).length + (partT q).length) true (acc ++ [p]) q := by
      rw [selsV]
      rw [if_pos rfl, if_neg (nt e1), if_neg (nt e2), c1, c2, hpl]
    rw [e]
    have key := ih n (a + (combT q.comb).length + (partT q).length) (acc ++ [p]) q (by simp at hn; omega) (by
      rw [show a + (combT q.comb).length + (partT q).length = a + (((combT q.comb).length + (partT q).length : Nat) : Int) by push_cast; omega]; exact hr) (by push_cast at he ⊢; omega) (fun x hx => hw x (by simp [hx]))
    simpa using key
theorem partsT_ge : ∀ l : List PartV, l.length ≤ (partsT l).length
  | [] => by simp
  | p :: l => by
    have := partsT_ge l
    obtain ⟨t, L, ht, _⟩ := part_first p
    rw [partsT_cons, List.length_append, List.length_append, ht]
    simp only [List.length_cons]
    omega
theorem rsel_law (ps : List PartV) (h : rightB ps = true) : (rselV (partsT ps) 0).ret = true ∧ (rselV (partsT ps) 0).r = true ∧ (rselV (partsT ps) 0).ps = ps := by
  obtain ⟨⟨n0, n8⟩, hw, hc⟩ := right_of h
  cases ps with
  | nil => simp at n0
  | cons p l =>
    have hc0 : p.comb = 0 := (hc 0 (by simp)).1 rfl
    have hl : ∀ q ∈ l, wrongB q = false ∧ 1 ≤ q.comb ∧ q.comb ≤ 4 := fun q hq => by
      refine ⟨hw q (by simp [hq]), ?_⟩
      obtain ⟨k, hk, rfl⟩ := List.getElem_of_mem hq
      have := (hc (k + 1) (by simp only [List.length_cons]; omega)).2 (by omega)
      rw [List.getD_eq_getElem?_getD, List.getElem?_cons_succ, List.getElem?_eq_getElem hk] at this
      exact this
    have eT : partsT (p :: l) = partT p ++ partsT l := by rw [partsT_cons, hc0]; rfl
    have hs : Seg (partsT (p :: l)) 0 (partT p ++ partsT l) := ⟨[], [], by rw [eT]; simp, rfl⟩
    have hr := hs.right
    have hlen : ((partsT (p :: l)).length : Int) = (partT p).length + (partsT l).length := by rw [eT, List.length_append]; push_cast; rfl
    generalize hT : partsT (p :: l) = T at *
    have hnext : kindI T (0 + (partT p).length) = 0 ∨ kindI T (0 + (partT p).length) = 20 := by
      cases l with
      | nil => exact .inl (kind_end (by simp only [partsT, List.flatMap_nil, List.length_nil] at hlen; push_cast at hlen; omega))
      | cons q2 l2 =>
        rw [partsT_cons] at hr
        obtain ⟨_, v2, v3⟩ := hl q2 (by simp)
        obtain ⟨M, eM⟩ : ∃ M, combT q2.comb = tk 20 ⟨#[]⟩ :: M := by
          unfold combT
          rw [if_neg (by omega)]
          split <;> exact ⟨_, rfl⟩
        have := hr.left.left
        rw [eM] at this
        exact .inr this.at.kind
    have hp := part_law T 0 0 p (hw p (by simp)) hs.left hnext
    have e : ({ p with comb := 0 } : PartV) = p := by rw [← hc0]
    rw [e] at hp
    have hg := partsT_ge l
    obtain ⟨q1, q2, q3⟩ := sels_law T l (T.length + 1) (0 + (partT p).length) [] p (by omega) hr (by omega) hl
    unfold rselV
    rw [hp]
    refine ⟨q1, ?_, q3⟩
    rw [q2, leI_t]
    simp only [List.nil_append]
    omega
end Go.Proofs.Ytconlneohilnmaa
namespace Go.Proofs.Ytconlneohilnmaa
open Go Go.RowKit Pl Sy
theorem kinds_get {l : List TokV} {k : Nat} (h : k < l.length) (h' : k < (kindsT l).length) : (kindsT l)[k] = (l.getD k tok0).kind := by
  have e : (kindsT l)[k]? = some (l.getD k tok0).kind := by
    unfold kindsT
    rw [List.getElem?_map, List.getD_eq_getElem?_getD, List.getElem?_eq_getElem h]; rfl
  rw [List.getElem?_eq_getElem h'] at e
  exact Option.some.inj e
theorem mt_plain {l : List TokV} {k : Nat} (h : k < l.length) (hc : clo (l.getD k tok0).kind = 0) : mt l k = k := by
  have hl : k < (kindsT l).length := by unfold kindsT; rw [List.length_map]; exact h
  unfold mt mtc
  rw [dif_pos ⟨by omega, by omega⟩]
  simp only [Int.toNat_natCast]
  rw [kinds_get h hl, if_pos hc]
  exact Int.toNat_natCast k
theorem runs_to {l : List TokV} (c : Int) : ∀ (n k : Nat), k + n < l.length → (∀ j, j < n → clo (l.getD (k + j) tok0).kind = 0 ∧ (l.getD (k + j) tok0).kind ≠ c) → (l.getD (k + n) tok0).kind = c → clo c = 0 → runs (kindsT l) k [c] = k + n
  | 0, k, h, _, hc, h0 => by
    have hl : k < (kindsT l).length := by unfold kindsT; rw [List.length_map]; exact h
    rw [Nat.add_zero] at hc
    rw [runs_step _ hl, kinds_get (by omega) hl, hc, if_neg (by simp [h0])]
    simp
  | n + 1, k, h, hj, hc, h0 => by
    have hk : k < l.length := by omega
    have hl : k < (kindsT l).length := by unfold kindsT; rw [List.length_map]; exact hk
    obtain ⟨q1, q2⟩ := hj 0 (by omega)
    rw [Nat.add_zero] at q1 q2
    rw [runs_step _ hl, kinds_get hk hl, if_neg (by rw [q1]; simp)]
    show (if (l.getD k tok0).kind = c then _ else _) = _
    rw [if_neg q2]
    rw [runs_to c n (k + 1) (by omega) (fun j hj' => by rw [show k + 1 + j = k + (j + 1) by omega]; exact hj (j + 1) (by omega)) (by rw [show k + 1 + n = k + (n + 1) by omega]; exact hc) h0]
    omega
def Hop (p : TokV → Bool) (X : List TokV) : Prop := ∀ pre post, tops p (pre ++ (X ++ post)) pre.length = tops p (pre ++ (X ++ post)) (pre.length + X.length)
theorem Hop.nil (p : TokV → Bool) : Hop p [] := fun pre post => rfl
theorem Hop.app {p : TokV → Bool} {X Y : List TokV} (h : Hop p X) (h' : Hop p Y) : Hop p (X ++ Y) := fun pre post => by
  have h1 := h pre (Y ++ post)
  have h2 := h' (pre ++ X) post
  rw [show pre ++ (X ++ (Y ++ post)) = pre ++ (X ++ Y ++ post) by simp] at h1
  rw [show pre ++ X ++ (Y ++ post) = pre ++ (X ++ Y ++ post) by simp, List.length_append] at h2
  rw [h1, h2, List.length_append]
  congr 1
  omega
theorem Hop.one {p : TokV → Bool} {t : TokV} (hc : clo t.kind = 0) (hp : p t = false) : Hop p [t] := fun pre post => by
  have e : (pre ++ ([t] ++ post)).getD pre.length tok0 = t := getD_pre pre t post
  have hlt : pre.length < (pre ++ ([t] ++ post)).length := by simp
  rw [tops_step, if_pos ⟨hlt, by unfold tokAt; rw [e]; exact hp⟩]
  unfold nxt
  rw [mt_plain hlt (by rw [e]; exact hc)]
  congr 1
  simp only [List.length_append, List.length_cons, List.length_nil]
  omega
theorem Hop.group {p : TokV → Bool} {t u : TokV} {X : List TokV} (hp : p t = false) (hc : clo t.kind = u.kind) (h0 : clo u.kind = 0) (hu : u.kind ≠ 0) (hX : ∀ x ∈ X, clo x.kind = 0 ∧ x.kind ≠ u.kind) : Hop p (t :: (X ++ [u])) := fun pre post => by
  generalize hl : pre ++ (t :: (X ++ [u]) ++ post) = l
  have e : l.getD pre.length tok0 = t := by rw [← hl]; exact getD_pre pre t _
  have hlen : l.length = pre.length + (X.length + 2) + post.length := by rw [← hl]; simp only [List.length_append, List.length_cons, List.length_nil]; omega
  have hlt : pre.length < l.length := by omega
  have hk : pre.length < (kindsT l).length := by unfold kindsT; rw [List.length_map]; exact hlt
  have eu : l.getD (pre.length + 1 + X.length) tok0 = u := by
    have := getD_pre (pre ++ t :: X) u post
    rw [show (pre ++ t :: X).length = pre.length + 1 + X.length by simp only [List.length_append, List.length_cons]; omega] at this
    rw [show pre ++ (t :: (X ++ [u]) ++ post) = pre ++ t :: X ++ u :: post by simp] at hl
    rw [← hl]
    exact this
  have ex : ∀ j, j < X.length → clo (l.getD (pre.length + 1 + j) tok0).kind = 0 ∧ (l.getD (pre.length + 1 + j) tok0).kind ≠ u.kind := fun j hj => by
    have e2 : l.getD (pre.length + 1 + j) tok0 = X[j] := by
      rw [← hl, List.getD_eq_getElem?_getD, List.getElem?_append_right (by omega), show pre.length + 1 + j - pre.length = j + 1 by omega]
      simp [List.getElem?_append, hj]
    rw [e2]
    exact hX _ (List.getElem_mem _)
  have em : mt l pre.length = pre.length + 1 + X.length := by
    unfold mt mtc
    rw [dif_pos ⟨by omega, by omega⟩]
    simp only [Int.toNat_natCast]
    rw [kinds_get hlt hk, e, hc, if_neg hu, runs_to u.kind X.length (pre.length + 1) (by omega) ex (by rw [eu]) h0]
    omega
  rw [tops_step, if_pos ⟨hlt, by unfold tokAt; rw [e]; exact hp⟩]
  unfold nxt
  rw [em]
  congr 1
  simp only [List.length_append, List.length_cons, List.length_nil]
  omega
end Go.Proofs.Ytconlneohilnmaa
namespace Go.Proofs.Ytconlneohilnmaa
open Go Go.RowKit Pl Sy
theorem hop_tk (k : Int) (s : ByteArray) (h : clo k = 0) (h2 : k ≠ 12) : Hop comB [tk k s] := Hop.one h (by unfold comB; rw [eqI_f]; exact h2)
theorem hop_flat {α : Type} (f : α → List TokV) (h : ∀ x, Hop comB (f x)) : ∀ l : List α, Hop comB (l.flatMap f)
  | [] => Hop.nil _
  | x :: l => by rw [List.flatMap_cons]; exact (h x).app (hop_flat f h l)
theorem hop_test (t : TestV) : Hop comB (testT t) := by
  have hi : ∀ x ∈ ([tk 1 t.name, tk 19 ⟨#[61]⟩, tk 5 t.value] : List TokV), clo x.kind = 0 ∧ x.kind ≠ (tk 16 ⟨#[]⟩).kind := fun x hx => by
    simp only [List.mem_cons, List.not_mem_nil, or_false] at hx
    rcases hx with rfl | rfl | rfl
    · exact ⟨by show clo 1 = 0; decide, by show (1 : Int) ≠ 16; decide⟩
    · exact ⟨by show clo 19 = 0; decide, by show (19 : Int) ≠ 16; decide⟩
    · exact ⟨by show clo 5 = 0; decide, by show (5 : Int) ≠ 16; decide⟩
  unfold testT
  split
  · exact Hop.group (t := tk 15 ⟨#[]⟩) (u := tk 16 ⟨#[]⟩) (X := [tk 1 t.name, tk 19 ⟨#[61]⟩, tk 5 t.value]) (by decide) (by decide) (by decide) (by decide) hi
  · exact Hop.group (t := tk 15 ⟨#[]⟩) (u := tk 16 ⟨#[]⟩) (X := [tk 1 t.name]) (by decide) (by decide) (by decide) (by decide) (fun x hx => hi x (by simp at hx; simp [hx]))
theorem hop_state (n : Int) (b : Nat) (s : ByteArray) : Hop comB (stateT n b s) := by
  rw [stateT_eq]
  split
  · exact Hop.nil _
  · exact Hop.app (X := [tk 10 ⟨#[]⟩]) (Y := [tk 1 s]) (hop_tk 10 _ (by decide) (by decide)) (hop_tk 1 s (by decide) (by decide))
theorem hop_part (p : PartV) : Hop comB (partT p) := by
  unfold partT
  split
  · exact hop_tk 19 _ (by decide) (by decide)
  · rw [bodyT_eq]
    unfold restT
    refine Hop.app ?_ (Hop.app ?_ (Hop.app ?_ (Hop.app ?_ ((hop_state _ _ _).app ((hop_state _ _ _).app (hop_state _ _ _))))))
    · unfold tagT; split
      · exact Hop.nil _
      · exact hop_tk 1 _ (by decide) (by decide)
    · unfold idT; split
      · exact Hop.nil _
      · exact hop_tk 4 _ (by decide) (by decide)
    · exact hop_flat (fun s => [tk 19 ⟨#[46]⟩, tk 1 s]) (fun s => Hop.app (X := [tk 19 ⟨#[46]⟩]) (Y := [tk 1 s]) (hop_tk 19 _ (by decide) (by decide)) (hop_tk 1 s (by decide) (by decide))) p.cls
    · exact hop_flat testT hop_test p.tests
theorem hop_comb (c : Int) : Hop comB (combT c) := by
  unfold combT
  split
  · exact Hop.nil _
  · split
    · exact hop_tk 20 _ (by decide) (by decide)
    · exact Hop.app (X := [tk 20 ⟨#[]⟩]) (Y := [tk 19 (signS c), tk 20 ⟨#[]⟩]) (hop_tk 20 _ (by decide) (by decide)) (Hop.app (X := [tk 19 (signS c)]) (Y := [tk 20 ⟨#[]⟩]) (hop_tk 19 _ (by decide) (by decide)) (hop_tk 20 _ (by decide) (by decide)))
theorem hop_parts : ∀ ps : List PartV, Hop comB (partsT ps)
  | [] => Hop.nil _
  | p :: ps => by
    rw [partsT_cons]
    exact Hop.app (X := combT p.comb ++ partT p) (Hop.app (X := combT p.comb) (hop_comb p.comb) (hop_part p)) (hop_parts ps)
end Go.Proofs.Ytconlneohilnmaa
namespace Go.Proofs.Ytconlneohilnmaa
open Go Go.RowKit Pl Sy
theorem trim_sp {l : List TokV} (h1 : ∀ u ∈ l.head?, spB u = false) (h2 : ∀ u ∈ l.getLast?, spB u = false) : trim l = l := by
  have drop : ∀ m : List TokV, (∀ u ∈ m.head?, spB u = false) → m.dropWhile spB = m := fun m h => by
    cases m with
    | nil => rfl
    | cons x m =>
      have hx := h x rfl
      rw [List.dropWhile_cons, if_neg (by rw [hx]; simp)]
  unfold trim
  rw [drop l h1, drop l.reverse (by rw [List.head?_reverse]; exact h2), List.reverse_reverse]
def LastNB (l : List TokV) : Prop := ∀ u ∈ l.getLast?, spB u = false
theorem LastNB.nil : LastNB [] := fun u hu => by simp at hu
theorem LastNB.snoc {l : List TokV} {k : Int} {s : ByteArray} (h : k ≠ 20) : LastNB (l ++ [tk k s]) := fun u hu => by
  rw [List.getLast?_append] at hu
  simp at hu
  subst hu
  unfold spB
  rw [eqI_f]
  exact h
theorem LastNB.app {A B : List TokV} (hA : LastNB A) (hB : LastNB B) : LastNB (A ++ B) := fun u hu => by
  rcases List.eq_nil_or_concat B with rfl | ⟨B', b, rfl⟩
  · rw [List.append_nil] at hu; exact hA u hu
  · refine hB u ?_
    rw [List.concat_eq_append, List.getLast?_append] at hu ⊢
    rw [List.getLast?_append] at hu
    simpa using hu
theorem LastNB.app_r {A B : List TokV} (hn : B ≠ []) (hB : LastNB B) : LastNB (A ++ B) := fun u hu => by
  rcases List.eq_nil_or_concat B with rfl | ⟨B', b, rfl⟩
  · exact absurd rfl hn
  · refine hB u ?_
    rw [List.concat_eq_append, List.getLast?_append] at hu ⊢
    rw [List.getLast?_append] at hu
    simpa using hu
theorem last_one (k : Int) (s : ByteArray) (h : k ≠ 20) : LastNB [tk k s] := LastNB.snoc (l := []) h
theorem last_flat {α : Type} (f : α → List TokV) (h : ∀ x, LastNB (f x)) : ∀ l : List α, LastNB (l.flatMap f)
  | [] => LastNB.nil
  | x :: l => by rw [List.flatMap_cons]; exact (h x).app (last_flat f h l)
theorem last_test (t : TestV) : LastNB (testT t) := by
  unfold testT
  split
  · exact LastNB.snoc (l := [tk 15 ⟨#[]⟩, tk 1 t.name, tk 19 ⟨#[61]⟩, tk 5 t.value]) (by decide)
  · exact LastNB.snoc (l := [tk 15 ⟨#[]⟩, tk 1 t.name]) (by decide)
theorem last_state (n : Int) (b : Nat) (s : ByteArray) : LastNB (stateT n b s) := by
  rw [stateT_eq]
  split
  · exact LastNB.nil
  · exact LastNB.snoc (l := [tk 10 ⟨#[]⟩]) (by decide)
theorem last_part (p : PartV) : LastNB (partT p) := by
  unfold partT
  split
  · exact last_one 19 _ (by decide)
  · rw [bodyT_eq]
    unfold restT
    refine LastNB.app ?_ (LastNB.app ?_ (LastNB.app ?_ (LastNB.app ?_ ((last_state _ _ _).app ((last_state _ _ _).app (last_state _ _ _))))))
    · unfold tagT; split
      · exact LastNB.nil
      · exact last_one 1 _ (by decide)
    · unfold idT; split
      · exact LastNB.nil
      · exact last_one 4 _ (by decide)
    · exact last_flat (fun s => [tk 19 ⟨#[46]⟩, tk 1 s]) (fun s => LastNB.snoc (l := [tk 19 ⟨#[46]⟩]) (by decide)) p.cls
    · exact last_flat testT last_test p.tests
theorem partT_ne (p : PartV) : partT p ≠ [] := by
  obtain ⟨t, L, h, _⟩ := part_first p
  rw [h]; simp
theorem last_parts : ∀ ps : List PartV, LastNB (partsT ps)
  | [] => LastNB.nil
  | p :: ps => by
    rw [partsT_cons]
    exact LastNB.app (A := combT p.comb ++ partT p) (LastNB.app_r (partT_ne p) (last_part p)) (last_parts ps)
theorem right_first {p : PartV} {l : List PartV} (h : rightB (p :: l) = true) : p.comb = 0 := by
  obtain ⟨_, _, r3⟩ := right_of h
  have := r3 0 (by simp)
  exact this.1 (by omega)
theorem trim_parts {ps : List PartV} (h : rightB ps = true) : trim (partsT ps) = partsT ps := by
  refine trim_sp ?_ (last_parts ps)
  cases ps with
  | nil => intro u hu; simp [partsT] at hu
  | cons p l =>
    intro u hu
    rw [partsT_cons, right_first h] at hu
    obtain ⟨t, L, ht, hc⟩ := part_first p
    rw [show combT 0 = [] from rfl, ht] at hu
    simp at hu
    subst hu
    unfold spB
    rw [eqI_f]
    exact hc.1
theorem tops_last {X : List TokV} (h : Hop comB X) : tops comB X 0 = X.length := by
  have e := h [] []
  simp only [List.nil_append, List.append_nil, List.length_nil, Nat.zero_add] at e
  rw [e, tops_step, if_neg (fun ⟨hh, _⟩ => absurd hh (by omega))]
theorem tops_more {X Y : List TokV} {s : ByteArray} (h : Hop comB X) : tops comB (X ++ tk 12 s :: Y) 0 = X.length := by
  have e := h [] (tk 12 s :: Y)
  simp only [List.nil_append, List.length_nil, Nat.zero_add] at e
  rw [e, tops_step, if_neg (fun ⟨_, hh⟩ => by
    unfold tokAt at hh
    rw [getD_pre X (tk 12 s) Y] at hh
    have h12 : comB (tk 12 s) = true := by unfold comB; rw [eqI_t]; rfl
    rw [h12] at hh
    cases hh)]
theorem pieces_last {X : List TokV} (h : Hop comB X) : pieces comB X = [X] := by
  rw [pieces_step, tops_last h, if_pos rfl, List.take_length]
theorem pieces_more {X Y : List TokV} {s : ByteArray} (h : Hop comB X) : pieces comB (X ++ tk 12 s :: Y) = X :: pieces comB Y := by
  rw [pieces_step, tops_more h, if_neg (by simp)]
  rw [List.take_left, show X ++ tk 12 s :: Y = (X ++ [tk 12 s]) ++ Y by simp, show X.length + 1 = (X ++ [tk 12 s]).length by simp, List.drop_left]
def pieceT (ps : List PartV) : List TokV := tk 20 ⟨#[]⟩ :: partsT ps
theorem pieces_sels : ∀ (l : List (List PartV)) (pre : List TokV) (ps : List PartV) (k : Int), 0 < k → Hop comB pre → pieces comB (pre ++ partsT ps ++ selsT k l) = (pre ++ partsT ps) :: l.map pieceT
  | [], pre, ps, k, hk, hp => by
    rw [show selsT k [] = [] from rfl, List.append_nil]
    exact pieces_last (hp.app (hop_parts ps))
  | q :: l, pre, ps, k, hk, hp => by
    have e : selsT k (q :: l) = tk 12 ⟨#[]⟩ :: ([tk 20 ⟨#[]⟩] ++ partsT q ++ selsT (k + 1) l) := by
      show sepT k ++ partsT q ++ selsT (k + 1) l = _
      unfold sepT
      rw [if_neg (by omega)]
      simp
    rw [e, pieces_more (hp.app (hop_parts ps)), pieces_sels l [tk 20 ⟨#[]⟩] q (k + 1) (by omega) (hop_tk 20 _ (by decide) (by decide))]
    rfl
theorem pieces_all (ps : List PartV) (l : List (List PartV)) : pieces comB (selsT 0 (ps :: l)) = partsT ps :: l.map pieceT := by
  have e : selsT 0 (ps :: l) = [] ++ partsT ps ++ selsT 1 l := rfl
  rw [e, pieces_sels l [] ps 1 (by decide) (Hop.nil _)]
  rfl
theorem sel_one {ps : List PartV} {x : List TokV} (h : rightB ps = true) (hx : trim x = partsT ps) : selOk x = true ∧ selPs x = ps := by
  obtain ⟨h1, h2, h3⟩ := rsel_law ps h
  unfold selOk selPs
  rw [hx, h1, h2, h3]
  exact ⟨rfl, rfl⟩
theorem sel_piece {ps : List PartV} (h : rightB ps = true) : selOk (pieceT ps) = true ∧ selPs (pieceT ps) = ps :=
  sel_one h (by unfold pieceT; rw [trim_cons _ (by decide)]; exact trim_parts h)
theorem parse_law {ss : List (List PartV)} (hn : ss.length ≠ 0) (h : ∀ ps ∈ ss, rightB ps = true) : parseV (selsT 0 ss) = ss ∧ parseE (selsT 0 ss) = 0 := by
  cases ss with
  | nil => exact absurd rfl hn
  | cons ps l =>
    have hp := sel_one (h ps (by simp)) (trim_parts (h ps (by simp)))
    have hok : (pieces comB (selsT 0 (ps :: l))).all selOk = true := by
      rw [pieces_all, List.all_cons, hp.1, Bool.true_and, List.all_eq_true]
      intro x hx
      obtain ⟨q, hq, rfl⟩ := List.mem_map.1 hx
      exact (sel_piece (h q (by simp [hq]))).1
    unfold parseV parseE
    rw [if_pos hok, if_pos hok, pieces_all, List.map_cons, hp.2, List.map_map]
    refine ⟨?_, rfl⟩
    congr 1
    have e : ∀ m : List (List PartV), (∀ q ∈ m, rightB q = true) → m.map (selPs ∘ pieceT) = m := fun m => by
      induction m with
      | nil => intro _; rfl
      | cons q m ih =>
        intro hm
        rw [List.map_cons, ih (fun r hr => hm r (by simp [hr]))]
        show selPs (pieceT q) :: m = _
        rw [(sel_piece (hm q (by simp))).2]
    exact e l (fun q hq => h q (by simp [hq]))
theorem toksOk_app {A B : List TokV} (hA : ToksOk A) (hB : ToksOk B) : ToksOk (A ++ B) := fun t ht => by
  rcases List.mem_append.1 ht with h | h
  · exact hA t h
  · exact hB t h
theorem ToksOk.app' {A B : List TokV} (hA : ToksOk A) (hB : ToksOk B) : ToksOk (A ++ B) := toksOk_app hA hB
theorem toksOk_nil : ToksOk [] := fun t ht => by cases ht
theorem toksOk_cons {k : Int} {s : ByteArray} {l : List TokV} (h : s.size ≤ maxLen) (hl : ToksOk l) : ToksOk (tk k s :: l) := fun t ht => by
  rcases List.mem_cons.1 ht with rfl | h'
  · exact h
  · exact hl t h'
theorem toksOk_flat {α : Type} (f : α → List TokV) : ∀ (l : List α), (∀ x ∈ l, ToksOk (f x)) → ToksOk (l.flatMap f)
  | [], _ => toksOk_nil
  | x :: l, h => by rw [List.flatMap_cons]; exact toksOk_app (h x (by simp)) (toksOk_flat f l (fun y hy => h y (by simp [hy])))
theorem toksOk_test {t : TestV} (h : t.Ok) : ToksOk (testT t) := by
  have h0 : (0 : Nat) ≤ maxLen := Nat.zero_le _
  unfold testT
  split
  · exact toksOk_cons (Nat.zero_le _) (toksOk_cons h.1 (toksOk_cons (by decide) (toksOk_cons h.2 (toksOk_cons (Nat.zero_le _) toksOk_nil))))
  · exact toksOk_cons (Nat.zero_le _) (toksOk_cons h.1 (toksOk_cons (Nat.zero_le _) toksOk_nil))
theorem toksOk_state (n : Int) (b : Nat) (s : ByteArray) (h : s.size ≤ maxLen) : ToksOk (stateT n b s) := by
  rw [stateT_eq]
  split
  · exact toksOk_nil
  · exact toksOk_cons (Nat.zero_le _) (toksOk_cons h toksOk_nil)
theorem toksOk_part {p : PartV} (h : PartOk p) : ToksOk (partT p) := by
  obtain ⟨h1, h2, h3, h4⟩ := h
  unfold partT
  split
  · exact toksOk_cons (by decide) toksOk_nil
  · rw [bodyT_eq]
    unfold restT
    refine toksOk_app ?_ (toksOk_app ?_ (toksOk_app ?_ (toksOk_app ?_ ((toksOk_state _ _ _ (by decide)).app' ((toksOk_state _ _ _ (by decide)).app' (toksOk_state _ _ _ (by decide)))))))
    · unfold tagT; split
      · exact toksOk_nil
      · exact toksOk_cons h1 toksOk_nil
    · unfold idT; split
      · exact toksOk_nil
      · exact toksOk_cons h2 toksOk_nil
    · exact toksOk_flat (fun s => [tk 19 ⟨#[46]⟩, tk 1 s]) p.cls (fun s hs => toksOk_cons (by decide) (toksOk_cons (h3.2 s hs) toksOk_nil))
    · exact toksOk_flat testT p.tests (fun t ht => toksOk_test (h4.2 t ht))
theorem toksOk_comb (c : Int) : ToksOk (combT c) := by
  have hs : (signS c).size ≤ maxLen := by
    unfold signS
    repeat' split
    all_goals decide
  unfold combT
  split
  · exact toksOk_nil
  · split
    · exact toksOk_cons (Nat.zero_le _) toksOk_nil
    · exact toksOk_cons (Nat.zero_le _) (toksOk_cons hs (toksOk_cons (Nat.zero_le _) toksOk_nil))
theorem toksOk_parts : ∀ ps : List PartV, (∀ p ∈ ps, PartOk p) → ToksOk (partsT ps)
  | [], _ => toksOk_nil
  | p :: ps, h => by
    rw [partsT_cons]
    exact toksOk_app (A := combT p.comb ++ partT p) (toksOk_app (toksOk_comb _) (toksOk_part (h p (by simp)))) (toksOk_parts ps (fun q hq => h q (by simp [hq])))
theorem toksOk_sels : ∀ (ss : List (List PartV)) (k : Int), (∀ ps ∈ ss, PartsOk ps) → ToksOk (selsT k ss)
  | [], _, _ => toksOk_nil
  | ps :: l, k, h => by
    show ToksOk (sepT k ++ partsT ps ++ selsT (k + 1) l)
    refine toksOk_app (A := sepT k ++ partsT ps) (toksOk_app ?_ (toksOk_parts ps (h ps (by simp)).2)) (toksOk_sels l (k + 1) (fun q hq => h q (by simp [hq])))
    unfold sepT
    split
    · exact toksOk_nil
    · exact toksOk_cons (Nat.zero_le _) (toksOk_cons (Nat.zero_le _) toksOk_nil)
end Go.Proofs.Ytconlneohilnmaa
namespace Go.Proofs.Ytconlneohilnmaa
open Go Go.RowKit Pl Sy
def AdjT (t u : TokV) : Prop := (t.kind = 1 ∨ t.kind = 4 → u.kind ≠ 1) ∧ (t.kind = 20 → u.kind ≠ 20) ∧ (t.kind = 19 → u.kind ≠ 19)
def AdjL : List TokV → Prop
  | [] => True
  | [_] => True
  | t :: u :: l => AdjT t u ∧ AdjL (u :: l)
theorem AdjL.chain : ∀ {l : List TokV}, AdjL l → (∀ t ∈ l, GoodT t) → ChainT l
  | [], _, _ => trivial
  | [_], _, _ => trivial
  | t :: u :: l, h, hg => ⟨fol_of (hg t (by simp)) (hg u (by simp)) h.1.1 h.1.2.1 h.1.2.2, AdjL.chain h.2 (fun x hx => hg x (by simp only [List.mem_cons] at hx ⊢; exact .inr hx))⟩
theorem AdjL.app : ∀ {A B : List TokV}, AdjL A → AdjL B → (∀ t ∈ A.getLast?, ∀ u ∈ B.head?, AdjT t u) → AdjL (A ++ B)
  | [], B, _, hB, _ => hB
  | [t], [], _, _, _ => trivial
  | [t], u :: B, _, hB, h => ⟨h t rfl u rfl, hB⟩
  | t :: u :: A, B, hA, hB, h => ⟨hA.1, AdjL.app (A := u :: A) hA.2 hB (fun x hx y hy => h x (by simpa using hx) y hy)⟩
def HdP (p : Int → Prop) (l : List TokV) : Prop := ∀ u ∈ l.head?, p u.kind
def LtP (p : Int → Prop) (l : List TokV) : Prop := ∀ u ∈ l.getLast?, p u.kind
theorem HdP.app {p : Int → Prop} {A B : List TokV} (hA : HdP p A) (hB : HdP p B) : HdP p (A ++ B) := by
  cases A with
  | nil => exact hB
  | cons a A => exact hA
theorem HdP.app_l {p : Int → Prop} {A B : List TokV} (hn : A ≠ []) (hA : HdP p A) : HdP p (A ++ B) := by
  cases A with
  | nil => exact absurd rfl hn
  | cons a A => exact hA
theorem LtP.app {p : Int → Prop} {A B : List TokV} (hA : LtP p A) (hB : LtP p B) : LtP p (A ++ B) := fun u hu => by
  rcases List.eq_nil_or_concat B with rfl | ⟨B', b, rfl⟩
  · rw [List.append_nil] at hu; exact hA u hu
  · refine hB u ?_
    rw [List.concat_eq_append, List.getLast?_append] at hu ⊢
    rw [List.getLast?_append] at hu
    simpa using hu
theorem LtP.app_r {p : Int → Prop} {A B : List TokV} (hn : B ≠ []) (hB : LtP p B) : LtP p (A ++ B) := fun u hu => by
  rcases List.eq_nil_or_concat B with rfl | ⟨B', b, rfl⟩
  · exact absurd rfl hn
  · refine hB u ?_
    rw [List.concat_eq_append, List.getLast?_append] at hu ⊢
    rw [List.getLast?_append] at hu
    simpa using hu
def BkL (l : List TokV) : Prop := AdjL l ∧ HdP (fun k => k ≠ 1 ∧ k ≠ 20) l ∧ LtP (fun k => k ≠ 19 ∧ k ≠ 20) l
theorem BkL.nil : BkL [] := ⟨trivial, fun u hu => (by cases hu), fun u hu => by cases hu⟩
theorem BkL.app {A B : List TokV} (hA : BkL A) (hB : BkL B) : BkL (A ++ B) := ⟨AdjL.app hA.1 hB.1 (fun t ht u hu => by
  have h1 := hA.2.2 t ht
  have h2 := hB.2.1 u hu
  exact ⟨fun _ => h2.1, fun e => absurd e h1.2, fun e => absurd e h1.1⟩), hA.2.1.app hB.2.1, hA.2.2.app hB.2.2⟩
theorem BkL.flat {α : Type} (f : α → List TokV) (h : ∀ x, BkL (f x)) : ∀ l : List α, BkL (l.flatMap f)
  | [] => BkL.nil
  | x :: l => by rw [List.flatMap_cons]; exact (h x).app (BkL.flat f h l)
theorem adj_k {k k' : Int} {s s' : ByteArray} (h : (k = 1 ∨ k = 4 → k' ≠ 1) ∧ (k = 20 → k' ≠ 20) ∧ (k = 19 → k' ≠ 19)) : AdjT (tk k s) (tk k' s') := h
theorem bk_two (k : Int) (s s' : ByteArray) (h : k = 19 ∨ k = 10) : BkL [tk k s, tk 1 s'] := by
  refine ⟨⟨adj_k (by omega), trivial⟩, fun u hu => ?_, fun u hu => ?_⟩
  · simp at hu; subst hu
    show k ≠ 1 ∧ k ≠ 20
    omega
  · simp at hu; subst hu
    show (1 : Int) ≠ 19 ∧ (1 : Int) ≠ 20
    decide
theorem bk_test (t : TestV) : BkL (testT t) := by
  unfold testT
  split
  · refine ⟨⟨adj_k (by decide), adj_k (by decide), adj_k (by decide), adj_k (by decide), trivial⟩, fun u hu => ?_, fun u hu => ?_⟩
    · simp at hu; subst hu
      show (15 : Int) ≠ 1 ∧ (15 : Int) ≠ 20
      decide
    · simp at hu; subst hu
      show (16 : Int) ≠ 19 ∧ (16 : Int) ≠ 20
      decide
  · refine ⟨⟨adj_k (by decide), adj_k (by decide), trivial⟩, fun u hu => ?_, fun u hu => ?_⟩
    · simp at hu; subst hu
      show (15 : Int) ≠ 1 ∧ (15 : Int) ≠ 20
      decide
    · simp at hu; subst hu
      show (16 : Int) ≠ 19 ∧ (16 : Int) ≠ 20
      decide
theorem bk_state (n : Int) (b : Nat) (s : ByteArray) : BkL (stateT n b s) := by
  rw [stateT_eq]
  split
  · exact BkL.nil
  · exact bk_two 10 _ _ (.inr rfl)
theorem bk_id (p : PartV) : BkL (idT p) := by
  unfold idT
  split
  · exact BkL.nil
  · refine ⟨trivial, fun u hu => ?_, fun u hu => ?_⟩
    · simp at hu; subst hu
      show (4 : Int) ≠ 1 ∧ (4 : Int) ≠ 20
      decide
    · simp at hu; subst hu
      show (4 : Int) ≠ 19 ∧ (4 : Int) ≠ 20
      decide
theorem bk_clss (l : List ByteArray) : BkL (clssT l) := BkL.flat (fun s => [tk 19 ⟨#[46]⟩, tk 1 s]) (fun s => bk_two 19 _ _ (.inl rfl)) l
theorem bk_tests (l : List TestV) : BkL (testsT l) := BkL.flat testT bk_test l
theorem bk_states (n : Int) : BkL (stateT n (1 : Nat) wRoot ++ (stateT n (2 : Nat) wFirst ++ stateT n (4 : Nat) wLast)) := BkL.app (A := stateT n (1 : Nat) wRoot) (bk_state n 1 wRoot) (BkL.app (A := stateT n (2 : Nat) wFirst) (bk_state n 2 wFirst) (bk_state n 4 wLast))
theorem bk_rest (p : PartV) : BkL (restT p) := by
  unfold restT
  have h1 := bk_states p.states
  have h2 := bk_id p
  have h3 := bk_clss p.cls
  have h4 := bk_tests p.tests
  generalize stateT p.states (1 : Nat) wRoot ++ (stateT p.states (2 : Nat) wFirst ++ stateT p.states (4 : Nat) wLast) = S at *
  exact BkL.app h2 (BkL.app h3 (BkL.app h4 h1))
theorem adj_part (p : PartV) : AdjL (partT p) ∧ HdP (fun k => k ≠ 20) (partT p) ∧ LtP (fun k => k ≠ 20) (partT p) := by
  unfold partT
  split
  · refine ⟨trivial, fun u hu => ?_, fun u hu => ?_⟩
    · simp at hu; subst hu
      show (19 : Int) ≠ 20
      decide
    · simp at hu; subst hu
      show (19 : Int) ≠ 20
      decide
  · rw [bodyT_eq]
    obtain ⟨r1, r2, r3⟩ := bk_rest p
    have r3' : LtP (fun k => k ≠ 20) (restT p) := fun u hu => (r3 u hu).2
    have r2' : HdP (fun k => k ≠ 20) (restT p) := fun u hu => (r2 u hu).2
    clear r2
    have r2 := (bk_rest p).2.1
    generalize restT p = R at *
    unfold tagT
    split
    · rw [List.nil_append]
      exact ⟨r1, r2', r3'⟩
    · refine ⟨AdjL.app trivial r1 (fun t ht u hu => ?_), HdP.app (fun u hu => ?_) r2', LtP.app (fun u hu => ?_) r3'⟩
      · simp at ht; subst ht
        have := r2 u hu
        exact ⟨fun _ => this.1, fun e => (by cases e), fun e => by cases e⟩
      · simp at hu; subst hu
        show (1 : Int) ≠ 20
        decide
      · simp at hu; subst hu
        show (1 : Int) ≠ 20
        decide
theorem adj_comb {c : Int} (h : 1 ≤ c) : combT c ≠ [] ∧ AdjL (combT c) ∧ HdP (fun k => k = 20) (combT c) ∧ LtP (fun k => k = 20) (combT c) := by
  unfold combT
  rw [if_neg (by omega)]
  split
  · exact ⟨by simp, trivial, fun u hu => by simp at hu; subst hu; rfl, fun u hu => by simp at hu; subst hu; rfl⟩
  · exact ⟨by simp, ⟨adj_k (by decide), adj_k (by decide), trivial⟩, fun u hu => by simp at hu; subst hu; rfl, fun u hu => by simp at hu; subst hu; rfl⟩
theorem adj_tail : ∀ (l : List PartV), (∀ p ∈ l, 1 ≤ p.comb) → AdjL (partsT l) ∧ HdP (fun k => k = 20) (partsT l) ∧ LtP (fun k => k ≠ 20) (partsT l)
  | [], _ => ⟨trivial, fun u hu => (by cases hu), fun u hu => by cases hu⟩
  | p :: l, h => by
    obtain ⟨c1, c2, c3, c4⟩ := adj_comb (h p (by simp))
    obtain ⟨p1, p2, p3⟩ := adj_part p
    obtain ⟨t1, t2, t3⟩ := adj_tail l (fun q hq => h q (by simp [hq]))
    rw [partsT_cons]
    have a1 : AdjL (combT p.comb ++ partT p) := AdjL.app c2 p1 (fun t ht u hu => by
      have e1 := c4 t ht
      have e2 := p2 u hu
      simp only at e1 e2
      exact ⟨fun e => by omega, fun _ => e2, fun e => by omega⟩)
    refine ⟨AdjL.app a1 t1 (fun t ht u hu => ?_), HdP.app (HdP.app_l c1 c3) t2, LtP.app (LtP.app_r (partT_ne p) p3) t3⟩
    have e1 : t.kind ≠ 20 := LtP.app_r (p := fun k => k ≠ 20) (partT_ne p) p3 t ht
    have e2 := t2 u hu
    simp only at e2
    exact ⟨fun _ => by omega, fun e => absurd e e1, fun _ => by omega⟩
theorem adj_parts {ps : List PartV} (h : rightB ps = true) : AdjL (partsT ps) ∧ HdP (fun k => k ≠ 20) (partsT ps) ∧ LtP (fun k => k ≠ 20) (partsT ps) := by
  obtain ⟨⟨r0, _⟩, _, r3⟩ := right_of h
  cases ps with
  | nil => exact absurd rfl r0
  | cons p l =>
    have hc := right_first h
    obtain ⟨p1, p2, p3⟩ := adj_part p
    have ht : ∀ q ∈ l, 1 ≤ q.comb := fun q hq => by
      obtain ⟨k, hk, rfl⟩ := List.getElem_of_mem hq
      have := (r3 (k + 1) (by simp only [List.length_cons]; omega)).2 (by omega)
      rw [List.getD_cons_succ, List.getD_eq_getElem?_getD, List.getElem?_eq_getElem hk] at this
      exact this.1
    obtain ⟨t1, t2, t3⟩ := adj_tail l ht
    rw [partsT_cons, hc, show combT 0 = [] from rfl, List.nil_append]
    refine ⟨AdjL.app p1 t1 (fun t ht u hu => ?_), HdP.app_l (partT_ne p) p2, LtP.app p3 t3⟩
    have e1 := p3 t ht
    have e2 := t2 u hu
    simp only at e1 e2
    exact ⟨fun _ => by omega, fun e => absurd e e1, fun _ => by omega⟩
theorem adj_sels : ∀ (l : List (List PartV)) (k : Int), 0 < k → (∀ ps ∈ l, rightB ps = true) → AdjL (selsT k l) ∧ HdP (fun k => k = 12) (selsT k l)
  | [], _, _, _ => ⟨trivial, fun u hu => by cases hu⟩
  | ps :: l, k, hk, h => by
    obtain ⟨p1, p2, p3⟩ := adj_parts (h ps (by simp))
    obtain ⟨t1, t2⟩ := adj_sels l (k + 1) (by omega) (fun q hq => h q (by simp [hq]))
    have e : selsT k (ps :: l) = [tk 12 ⟨#[]⟩, tk 20 ⟨#[]⟩] ++ (partsT ps ++ selsT (k + 1) l) := by
      show sepT k ++ partsT ps ++ selsT (k + 1) l = _
      unfold sepT
      rw [if_neg (by omega), List.append_assoc]
    rw [e]
    have hn : partsT ps ≠ [] := by
      cases ps with
      | nil => exact absurd rfl (right_of (h [] (by simp))).1.1
      | cons p l =>
        rw [partsT_cons]
        have := partT_ne p
        simp [this]
    refine ⟨AdjL.app ⟨adj_k (by decide), trivial⟩ (AdjL.app p1 t1 (fun t ht u hu => ?_)) (fun t ht u hu => ?_), HdP.app_l (by simp) (fun u hu => by simp at hu; subst hu; rfl)⟩
    · have e1 := p3 t ht
      have e2 := t2 u hu
      simp only at e1 e2
      exact ⟨fun _ => by omega, fun e => absurd e e1, fun _ => by omega⟩
    · simp at ht; subst ht
      have e2 : u.kind ≠ 20 := HdP.app_l (p := fun k => k ≠ 20) hn p2 u hu
      exact ⟨fun e => (by rcases e with e | e <;> cases e), fun _ => e2, fun e => by cases e⟩
theorem adj_all {ss : List (List PartV)} (h : ∀ ps ∈ ss, rightB ps = true) : AdjL (selsT 0 ss) := by
  cases ss with
  | nil => trivial
  | cons ps l =>
    obtain ⟨p1, p2, p3⟩ := adj_parts (h ps (by simp))
    obtain ⟨t1, t2⟩ := adj_sels l 1 (by decide) (fun q hq => h q (by simp [hq]))
    have e : selsT 0 (ps :: l) = partsT ps ++ selsT 1 l := rfl
    rw [e]
    refine AdjL.app p1 t1 (fun t ht u hu => ?_)
    have e1 := p3 t ht
    have e2 := t2 u hu
    simp only at e1 e2
    exact ⟨fun _ => by omega, fun e => absurd e e1, fun _ => by omega⟩
end Go.Proofs.Ytconlneohilnmaa
namespace Go.Proofs.Ytconlneohilnmaa
open Go Go.RowKit Pl Sy
theorem ba_app (x y : ByteArray) : x ++ y = BA (x.data.toList ++ y.data.toList) := by
  refine ByteArray.ext ?_
  rw [ByteArray.data_append]
  exact Array.ext' (by simp)
theorem ba_cat (a b : List UInt8) : BA a ++ BA b = BA (a ++ b) := ba_app _ _
theorem leaf_txt {s s' : ByteArray} (h : s = s') : (Tr.leaf (AV.tup [.lit (.string s), boo true])).Ok fun v => v = .tup [.lit (.string s'), boo true] := by rw [h]; exact rfl
theorem no34 {x : ByteArray} (hx : textL x.data.toList = true) : has34 x = false := by
  unfold has34
  rw [anyN_no]
  intro k hk
  unfold q34
  rw [eqI_f]
  have hk' : k < x.data.toList.length := by simpa using hk
  have e : byteAt x k = (x.data.toList[k].toNat : Int) := by
    have := by_get x.data.toList k
    rw [List.getElem?_eq_getElem hk'] at this
    exact this
  rw [e]
  unfold textL at hx
  simp only [Bool.and_eq_true, decide_eq_true_eq] at hx
  have := List.all_eq_true.1 hx.1 _ (List.getElem_mem hk')
  unfold wordB at this
  simp only [Bool.and_eq_true, decide_eq_true_eq, Bool.not_eq_true', decide_eq_false_iff_not] at this
  exact this.2
theorem size_le' {n : Nat} (h : n ≤ 1000000) : leI ((1 + n : Nat) : Int) 9223372036854775807 = true := by rw [leI_t]; omega
theorem fork_n {α : Type} {a b : Int} {A B : Tr α} {G : α → Prop} (h : ¬ a = b) (hB : B.Ok G) : (Tr.fork (eqI a b) A B).Ok G := fork_ok (fun q => by rw [eqI_t] at q; exact absurd q h) (fun _ => hB)
theorem fork_y {α : Type} {a : Int} {A B : Tr α} {G : α → Prop} (hA : A.Ok G) : (Tr.fork (eqI a a) A B).Ok G := fork_ok (fun _ => hA) (fun q => by rw [eqI_f] at q; exact absurd rfl q)
theorem Sy.txt_t (t : TokV) (h : GoodT t) (hs : limT t.text.size) : CallTo Try.prog 31 [tokA t] M0 fun v _ => v = .tup [.lit (.string (BA (txtL t))), boo true] := by
  refine toV [cNoPrint, cH34] [] 400 30 (.br (.auto 0 .done) (.br .done (.br (.yes .done) (.br (.yes .done) (.br (.yes .done) (.br (.yes (.br (.yes (.yes .done)) (.yes (.yes .done)))) (.br (.yes .done) (.br (.yes (.auto 0 .done)) (.br (.yes (.yes .done)) (.br .done (.br .done (.br .done (.br .done (.br .done (.br .done (.br .done (.br .done (.br .done (.br .done .done))))))))))))))))))) (let e1 := (@AV.lit (@Value.string (t).text)); let e2 := (boo true); let e3 := (@ByteArray.size (t).text); let e4 := (9223372036854775807 : Int); let e5 := (@ByteArray.mk (@Array.mk _ [(40 : UInt8)])); let e6 := (leI (((1 + e3) : Nat) : Int) e4); let e7 := (@ByteArray.mk (@Array.mk _ [(39 : UInt8)])); let e8 := (@ByteArray.mk (@Array.mk _ [(34 : UInt8)])); let e9 := (@isSo (@And ((@HAppend.hAppend _ _ _ _ (@HAppend.hAppend _ _ _ _ [] [(int (t).n)]) []) = [(int (t).n)]) False)); let e10 := (@ByteArray.mk (@Array.mk _ [])); let e11 := (@AV.lit (@Value.string e10)); (.fork (eqI (t).kind (1 : Int)) (.leaf (@AV.tup [e1, e2])) (.fork (eqI (t).kind (19 : Int)) (.leaf (@AV.tup [e1, e2])) (.fork (eqI (t).kind (2 : Int)) (.need (leI (((e3 + 1) : Nat) : Int) e4) (.leaf (@AV.tup [(@AV.lit (@Value.string (@HAppend.hAppend _ _ _ _ (t).text e5))), e2]))) (.fork (eqI (t).kind (3 : Int)) (.need e6 (.leaf (@AV.tup [(@AV.lit (@Value.string (@HAppend.hAppend _ _ _ _ (@ByteArray.mk (@Array.mk _ [(64 : UInt8)])) (t).text))), e2]))) (.fork (eqI (t).kind (4 : Int)) (.need e6 (.leaf (@AV.tup [(@AV.lit (@Value.string (@HAppend.hAppend _ _ _ _ (@ByteArray.mk (@Array.mk _ [(35 : UInt8)])) (t).text))), e2]))) (.fork (eqI (t).kind (5 : Int)) (.need (@isSo (@And ((@HAppend.hAppend _ _ _ _ (@HAppend.hAppend _ _ _ _ [] [e1]) []) = [e1]) (e3 ≤ 1000000))) (.fork (@has34 (t).text) (.need e6 (.need (leI ((((@ByteArray.size (@HAppend.hAppend _ _ _ _ e7 (t).text)) + 1) : Nat) : Int) e4) (.leaf (@AV.tup [(@AV.lit (@Value.string (@HAppend.hAppend _ _ _ _ (@HAppend.hAppend _ _ _ _ e7 (t).text) e7))), e2])))) (.need e6 (.need (leI ((((@ByteArray.size (@HAppend.hAppend _ _ _ _ e8 (t).text)) + 1) : Nat) : Int) e4) (.leaf (@AV.tup [(@AV.lit (@Value.string (@HAppend.hAppend _ _ _ _ (@HAppend.hAppend _ _ _ _ e8 (t).text) e8))), e2])))))) (.fork (eqI (t).kind (7 : Int)) (.need e9 (.leaf (@AV.tup [e11, e2]))) (.fork (eqI (t).kind (8 : Int)) (.need e9 (.leaf (@AV.tup [(@AV.lit (@Value.string (@HAppend.hAppend _ _ _ _ e10 (@ByteArray.mk (@Array.mk _ [(37 : UInt8)]))))), e2]))) (.fork (eqI (t).kind (9 : Int)) (.need e9 (.need (leI (((0 + e3) : Nat) : Int) e4) (.leaf (@AV.tup [(@AV.lit (@Value.string (@HAppend.hAppend _ _ _ _ e10 (t).text))), e2])))) (.fork (eqI (t).kind (10 : Int)) (.leaf (@AV.tup [(@AV.lit (@Value.string (@ByteArray.mk (@Array.mk _ [(58 : UInt8)])))), e2])) (.fork (eqI (t).kind (11 : Int)) (.leaf (@AV.tup [(@AV.lit (@Value.string (@ByteArray.mk (@Array.mk _ [(59 : UInt8)])))), e2])) (.fork (eqI (t).kind (12 : Int)) (.leaf (@AV.tup [(@AV.lit (@Value.string (@ByteArray.mk (@Array.mk _ [(44 : UInt8)])))), e2])) (.fork (eqI (t).kind (13 : Int)) (.leaf (@AV.tup [(@AV.lit (@Value.string e5)), e2])) (.fork (eqI (t).kind (14 : Int)) (.leaf (@AV.tup [(@AV.lit (@Value.string (@ByteArray.mk (@Array.mk _ [(41 : UInt8)])))), e2])) (.fork (eqI (t).kind (15 : Int)) (.leaf (@AV.tup [(@AV.lit (@Value.string (@ByteArray.mk (@Array.mk _ [(91 : UInt8)])))), e2])) (.fork (eqI (t).kind (16 : Int)) (.leaf (@AV.tup [(@AV.lit (@Value.string (@ByteArray.mk (@Array.mk _ [(93 : UInt8)])))), e2])) (.fork (eqI (t).kind (17 : Int)) (.leaf (@AV.tup [(@AV.lit (@Value.string (@ByteArray.mk (@Array.mk _ [(123 : UInt8)])))), e2])) (.fork (eqI (t).kind (18 : Int)) (.leaf (@AV.tup [(@AV.lit (@Value.string (@ByteArray.mk (@Array.mk _ [(125 : UInt8)])))), e2])) (.fork (eqI (t).kind (20 : Int)) (.leaf (@AV.tup [(@AV.lit (@Value.string (@ByteArray.mk (@Array.mk _ [(32 : UInt8)])))), e2])) (.leaf (@AV.tup [e11, (boo false)])))))))))))))))))))))) (by kernel_rfl) ?_
  have no : ∀ {a b : Int} {P : Prop}, eqI a b = true → a ≠ b → P := fun h1 h2 => by rw [eqI_t] at h1; exact absurd h1 h2
  have ye : ∀ {a : Int} {P : Prop}, eqI a a = false → P := fun h1 => by rw [eqI_f] at h1; exact absurd rfl h1
  cases h with
  | id x hx => exact fork_ok (fun _ => leaf_txt rfl) (fun q => ye q)
  | hash x hx =>
    refine fork_ok (fun q => no q (show (4 : Int) ≠ 1 by decide)) (fun _ => fork_ok (fun q => no q (show (4 : Int) ≠ 19 by decide)) (fun _ => fork_ok (fun q => no q (show (4 : Int) ≠ 2 by decide)) (fun _ => fork_ok (fun q => no q (show (4 : Int) ≠ 3 by decide)) (fun _ => fork_ok (fun _ => need_t (size_le' hs) (leaf_txt (ba_app _ _))) (fun q => ye q)))))
  | str x hx =>
    refine fork_ok (fun q => no q (show (5 : Int) ≠ 1 by decide)) (fun _ => fork_ok (fun q => no q (show (5 : Int) ≠ 19 by decide)) (fun _ => fork_ok (fun q => no q (show (5 : Int) ≠ 2 by decide)) (fun _ => fork_ok (fun q => no q (show (5 : Int) ≠ 3 by decide)) (fun _ => fork_ok (fun q => no q (show (5 : Int) ≠ 4 by decide)) (fun _ => fork_ok (fun _ => ?_) (fun q => ye q))))))
    refine need_so ⟨rfl, hs⟩ (fork_ok (fun q => ?_) (fun _ => need_t (size_le' hs) (need_t ?_ (leaf_txt ?_))))
    · rw [show has34 (⟨5, x, 0⟩ : TokV).text = false from no34 hx] at q; cases q
    · rw [leI_t, ByteArray.size_append]
      unfold limT at hs
      have : (ByteArray.mk (Array.mk [(34 : UInt8)])).size = 1 := rfl
      rw [this]
      omega
    · rw [ba_app, ba_app]
      rfl
  | sg k c hk =>
    rcases hk with ⟨rfl, rfl⟩ | ⟨rfl, rfl⟩ | ⟨rfl, rfl⟩ | ⟨rfl, rfl⟩
    all_goals repeat' (first | exact leaf_txt rfl | refine fork_n (by decide) ?_ | refine fork_y ?_)
  | sp => repeat' (first | exact leaf_txt rfl | refine fork_n (by decide) ?_ | refine fork_y ?_)
  | dl c hc => exact fork_ok (fun q => no q (show (19 : Int) ≠ 1 by decide)) (fun _ => fork_ok (fun _ => leaf_txt rfl) (fun q => ye q))
end Go.Proofs.Ytconlneohilnmaa
namespace Go.Proofs.Ytconlneohilnmaa
open Go Go.RowKit Pl Sy
theorem view_kv {n : Nat} {c : Nat → Nat → AV} {L : List TokV} (hL : CellIs n c L) {ρ : Rho} {u : Value} (r2 : rel ρ (.view n 3 c) u) : rel ρ (kv L) u := by
  simp only [rel] at r2 ⊢
  obtain ⟨o1, o2, o3, o4, o5, o6, o7⟩ := r2
  refine ⟨o1, o2, by rw [← hL.1]; exact o3, by rw [← hL.1]; exact o4, o5, o6, fun hn => ?_⟩
  obtain ⟨g, o, s1, s2⟩ := o7 (by rw [hL.1]; exact hn)
  refine ⟨g, o, s1, fun i j hi hj => ?_⟩
  obtain ⟨y, t1, t2, t3⟩ := s2 i j (by rw [hL.1]; exact hi) hj
  refine ⟨y, t1, ?_, t3⟩
  rw [hL.2 i j (by rw [hL.1]; exact hi) hj] at t2
  exact t2
namespace Sy
def vGet : AV → Option GX
  | .view n s c => match Nat.beq s 3 with
    | true => some ⟨none, n, n, c⟩
    | false => none
  | _ => none
end Sy
theorem vGet_ok {v : AV} {x : GX} (h : vGet v = some x) : v = .view x.n 3 x.c := by
  unfold vGet at h
  split at h
  · rename_i n s c
    split at h
    · rename_i hs
      have hs := Nat.eq_of_beq_eq_true hs
      subst hs
      simp at h
      subst h
      rfl
    · cases h
  · cases h
noncomputable def Sy.conG2 (f : FuncId) (v0 : List TokV → List TokV → AV) (C : List TokV → List TokV → Prop) (h : ∀ L K, C L K → Free (v0 L K) ∧ CallTo Try.prog f [kv L, kv K] M0 fun v _ => v = v0 L K) : Con Try.prog where
  f := f
  run := fun args M => match args with
    | [a, b] => (match vGet a with | some x => (match vGet b with | some y => some (v0 (toksOf x.n x.c) (toksOf y.n y.c), M) | none => none) | none => none)
    | _ => none
  ob := fun args M => match args with
    | [a, b] => (match vGet a with | some x => (match vGet b with | some y => some (isSo (TokRows x.n x.c ∧ TokRows y.n y.c ∧ C (toksOf x.n x.c) (toksOf y.n y.c))) | none => none) | none => none)
    | _ => none
  ok := fun args M v M' hr hob => by
    match args, hr, hob with
    | [a, b], hr, hob =>
      have hr : (match vGet a with | some x => (match vGet b with | some y => some (v0 (toksOf x.n x.c) (toksOf y.n y.c), M) | none => none) | none => none) = some (v, M') := hr
      have hob : owed (match vGet a with | some x => (match vGet b with | some y => some (isSo (TokRows x.n x.c ∧ TokRows y.n y.c ∧ C (toksOf x.n x.c) (toksOf y.n y.c))) | none => none) | none => none) := hob
      cases hg : vGet a with
      | none => rw [hg] at hr; cases hr
      | some x =>
        rw [hg] at hr hob
        cases hg2 : vGet b with
        | none => rw [hg2] at hr; cases hr
        | some y =>
          rw [hg2] at hr hob
          simp at hr
          obtain ⟨rfl, rfl⟩ := hr
          have h1 := hob _ rfl
          rw [isSo_t] at h1
          obtain ⟨⟨L, hL⟩, ⟨K, hK⟩, hC⟩ := h1
          rw [toksOf_is hL, toksOf_is hK] at hC ⊢
          obtain ⟨q1, q2⟩ := h L K hC
          have e1 := vGet_ok hg
          have e2 := vGet_ok hg2
          rw [e1, e2]
          refine ⟨Grow.refl _, ?_⟩
          have k := ((q2.mono fun v _ e => (⟨e ▸ q1, e⟩ : Free v ∧ v = v0 L K)).frame ⟨kv_free L, kv_free K, trivial⟩ M).mono fun v' M' (hx : M' = M ∧ v' = v0 L K) => (⟨hx.2, hx.1⟩ : v' = v0 L K ∧ M' = M)
          refine k.sub fun ρ us hr => ?_
          simp only [rels] at hr ⊢
          obtain ⟨u, us', r1, r2, u2, us2, r3, r4, r5⟩ := hr
          exact ⟨u, us', r1, view_kv hL r2, u2, us2, r3, view_kv hK r4, r5⟩
noncomputable abbrev Sy.cSame2 : Con Try.prog := conG2 10 (fun L K => boo (sameK L K)) (fun L K => L.length ≤ 17592186044416) fun L K h => ⟨trivial, tsm_t L K h⟩
noncomputable abbrev Sy.cTxt : Con Try.prog := atX 31 (fun args => match args with | [.agg [.lit (.int .i64 k), .lit (.string s), .lit (.int .i64 n)]] => some (⟨k, s, n⟩ : TokV) | _ => none) (fun t => [tokA t]) (fun t => .tup [.lit (.string (BA (txtL t))), boo true]) (fun t => GoodT t ∧ limT t.text.size) fun t h => ⟨⟨⟨⟨trivial, trivial, trivial, trivial⟩, trivial⟩, ⟨trivial, trivial, trivial⟩⟩, txt_t t h.1 h.2⟩
namespace Sy
abbrev p5F (l : List TokV) (s t : ByteArray) (k : Int) : Fr := (some ((@AV.view (l).length 3 (fun x13939 => (fun x944194 => (@AV.lit ([(@Value.int IntKind.i64 ((l.getD x13939 tok0)).kind), (@Value.string ((l.getD x13939 tok0)).text), (@Value.int IntKind.i64 ((l.getD x13939 tok0)).n)].getD x944194 (@Value.tuple (@Array.mk _ [])))))))) :: none :: some ((@AV.lit (@Value.string (@ByteArray.mk (@Array.mk _ []))))) :: some (.lit (.string s)) :: some (.lit (.string t)) :: some (int k) :: (nn39 []))
end Sy
theorem chain_at : ∀ {l : List TokV} (k : Nat), ChainT l → k + 1 < l.length → FolT (l.getD k tok0) (fbT (l.getD (k + 1) tok0))
  | [], k, _, h => by simp at h
  | [_], k, _, h => by simp at h
  | t :: u :: l, 0, hc, _ => hc.1
  | t :: u :: l, k + 1, hc, h => by
    have := chain_at (l := u :: l) k hc.2 (by simpa using h)
    simpa using this
theorem catL_app (a b : List TokV) : catL (a ++ b) = catL a ++ catL b := List.flatMap_append ..
theorem take_snoc (l : List TokV) (k : Nat) (h : k < l.length) : l.take (k + 1) = l.take k ++ [l.getD k tok0] := by
  rw [List.take_succ_eq_append_getElem h, List.getD_eq_getElem?_getD, List.getElem?_eq_getElem h]; rfl
theorem getD_in (l : List TokV) (k : Nat) (h : k < l.length) : l.getD k tok0 ∈ l := by
  rw [List.getD_eq_getElem?_getD, List.getElem?_eq_getElem h]
  exact List.getElem_mem h
theorem cat_part (l : List TokV) (k : Nat) : (catL (l.take k)).length ≤ (catL l).length := by
  have := catL_app (l.take k) (l.drop k)
  rw [List.take_append_drop] at this
  rw [this, List.length_append]
  omega
theorem Sy.p5_step (l : List TokV) (hg : ∀ t ∈ l, GoodT t ∧ limT t.text.size) (hc : ChainT l) (hsz : limB (catL l).length) (hl : l.length ≤ 1000000) (κ : Nat) (t : ByteArray) (m : Nat) (G : Ex → Fr → Mem → Prop) (hk : κ ≤ l.length) (ht : 0 < κ → t = BA (txtL (l.getD (κ - 1) tok0)))
    (c1 : κ < l.length → LoopTo Try.prog (theBody Try.prog 14 5) m (p5F l (BA (catL (l.take (κ + 1)))) (BA (txtL (l.getD κ tok0))) ((κ + 1 : Nat) : Int)) M0 G)
    (c2 : κ = l.length → G (.exit 0) (p5F l (BA (catL (l.take κ))) t (κ : Int)) M0) :
    LoopTo Try.prog (theBody Try.prog 14 5) (m + 1) (p5F l (BA (catL (l.take κ))) t (κ : Int)) M0 G := by
  unfold limB at hsz
  have hp0 := cat_part l κ
  have hss : (BA (catL (l.take κ))).size ≤ 100000000 := by rw [ba_size]; omega
  generalize hS : BA (catL (l.take κ)) = s at *
  generalize hkk : (κ : Int) = k at *
  refine roundL [cTxt, cCutA, cSame2] [] 400 30 14 5 Try.func14 rfl (by kernel_rfl) (true :: false :: true :: true :: true :: true :: (ff39 [])) (.br (.yes (.yes (.br (.auto 1 (.yes (.auto 0 (.yes (.auto 5 (.yes (.auto 0 (.yes (.auto 1 (.br (.yes (.yes .done)) (.yes .done))))))))))) (.auto 12 (.yes .done))))) .done) (let e1 := (@AV.agg [(int ((l.getD (k).toNat tok0)).kind), (@AV.lit (@Value.string ((l.getD (k).toNat tok0)).text)), (int ((l.getD (k).toNat tok0)).n)]); let e2 := (@TokV.mk ((l.getD (k).toNat tok0)).kind ((l.getD (k).toNat tok0)).text ((l.getD (k).toNat tok0)).n); let e3 := (@BA (@txtL e2)); let e4 := (@ByteArray.size e3); let e5 := (9223372036854775807 : Int); let e6 := (@AV.lit (@Value.string (@HAppend.hAppend _ _ _ _ t e3))); let e7 := (w64 (k - (1 : Int))); let e8 := (w64 (k + (1 : Int))); let e9 := (@cutT (@HAppend.hAppend _ _ _ _ t e3)); let e10 := (@Value.tuple (@Array.mk _ [])); let e11 := (fun y0 => (fun y1 => (@AV.lit ([(@Value.int IntKind.i64 ((e9.getD y0 tok0)).kind), (@Value.string ((e9.getD y0 tok0)).text), (@Value.int IntKind.i64 ((e9.getD y0 tok0)).n)].getD y1 e10)))); let e12 := (fun y0 => (fun y1 => (@AV.lit ([(@Value.int IntKind.i64 ((l.getD ((e7).toNat + y0) tok0)).kind), (@Value.string ((l.getD ((e7).toNat + y0) tok0)).text), (@Value.int IntKind.i64 ((l.getD ((e7).toNat + y0) tok0)).n)].getD y1 e10)))); let e13 := (some (@AV.view (l).length 3 (fun y0 => (fun y1 => (@AV.lit ([(@Value.int IntKind.i64 ((l.getD y0 tok0)).kind), (@Value.string ((l.getD y0 tok0)).text), (@Value.int IntKind.i64 ((l.getD y0 tok0)).n)].getD y1 e10)))))); let e14 := (some (@AV.lit (@Value.string (@ByteArray.mk (@Array.mk _ []))))); let e15 := (some (@AV.lit (@Value.string e3))); (.fork (!(leI (((l).length : Nat) : Int) k)) (.need (@inR k (l).length) (.need (@isSo (@And ((@HAppend.hAppend _ _ _ _ (@HAppend.hAppend _ _ _ _ [] [e1]) []) = [e1]) (@And (@GoodT e2) ((@ByteArray.size ((l.getD (k).toNat tok0)).text) ≤ 1000000)))) (.fork (!(leI k (0 : Int))) (.need (leI ((((@ByteArray.size t) + e4) : Nat) : Int) e5) (.need (@isSo (@And ((@HAppend.hAppend _ _ _ _ (@HAppend.hAppend _ _ _ _ [] [e6]) []) = [e6]) ((@ByteArray.size (@HAppend.hAppend _ _ _ _ t e3)) ≤ 100000000))) (.need ((leI (0 : Int) e7) && ((leI e7 e8) && (leI e8 (((l).length : Nat) : Int)))) (.need (@isSo (@And (@TokRows (e9).length e11) (@And (@TokRows ((e8).toNat - (e7).toNat) e12) (((@toksOf (e9).length e11)).length ≤ 17592186044416)))) (.fork (!(@sameK (@toksOf (e9).length e11) (@toksOf ((e8).toNat - (e7).toNat) e12))) (.need (leI ((((@ByteArray.size s) + 4) : Nat) : Int) e5) (.need (leI ((((@ByteArray.size (@HAppend.hAppend _ _ _ _ s (@ByteArray.mk (@Array.mk _ [(47 : UInt8), (42 : UInt8), (42 : UInt8), (47 : UInt8)])))) + e4) : Nat) : Int) e5) (.leaf (Ex.norm, ((e13 :: none :: e14 :: (some (@AV.lit (@Value.string (@HAppend.hAppend _ _ _ _ (@HAppend.hAppend _ _ _ _ s (@ByteArray.mk (@Array.mk _ [(47 : UInt8), (42 : UInt8), (42 : UInt8), (47 : UInt8)]))) e3)))) :: e15 :: (some (int e8)) :: (nn39 [])), (@Mem.mk 0 0 [])))))) (.need (leI ((((@ByteArray.size s) + e4) : Nat) : Int) e5) (.leaf (Ex.norm, ((e13 :: none :: e14 :: (some (@AV.lit (@Value.string (@HAppend.hAppend _ _ _ _ s e3)))) :: e15 :: (some (int e8)) :: (nn39 [])), (@Mem.mk 0 0 [])))))))))) (.need (leI ((((@ByteArray.size s) + e4) : Nat) : Int) e5) (.leaf (Ex.norm, ((e13 :: none :: e14 :: (some (@AV.lit (@Value.string (@HAppend.hAppend _ _ _ _ s e3)))) :: e15 :: (some (int e8)) :: (nn39 [])), (@Mem.mk 0 0 [])))))))) (.leaf ((@Ex.exit 0), ((e13 :: none :: e14 :: (some (@AV.lit (@Value.string s))) :: (some (@AV.lit (@Value.string t))) :: (some (int k)) :: (nn39 [])), (@Mem.mk 0 0 [])))))) (by kernel_rfl) ?_
  refine fork_ok (fun h => ?_) (fun h => ?_)
  · simp only [Bool.not_eq_true', Bool.not_eq_false', leI_t, leI_f, eqI_t, eqI_f, inR_t, inR_f, isSo_t, isSo_f] at h
    have hlt : κ < l.length := by omega
    have hr : inR k l.length = true := by rw [inR_t]; omega
    have ekn : k.toNat = κ := by omega
    replace c1 := c1 hlt
    have hin := getD_in l κ hlt
    obtain ⟨g1, g2⟩ := hg _ hin
    have hp1 := cat_part l (κ + 1)
    rw [take_snoc l κ hlt, catL_app] at c1 hp1
    have hone : catL [l.getD κ tok0] = txtL (l.getD κ tok0) := by rw [catL_cons]; exact List.append_nil _
    rw [hone, ← ba_cat, hS] at c1
    rw [hone, List.length_append] at hp1
    have hcs : (BA (txtL (l.getD κ tok0))).size ≤ 100000000 := by rw [ba_size]; omega
    have hw : w64 (k + 1) = ((κ + 1 : Nat) : Int) := by rw [w64_in (by omega)]; omega
    rw [← hw] at c1
    rw [ekn]
    generalize hcur : l.getD κ tok0 = cur at *
    have sum : ∀ a b : ByteArray, a.size ≤ 100000000 → b.size ≤ 100000000 → leI ((a.size + b.size : Nat) : Int) 9223372036854775807 = true := fun a b h1 h2 => by rw [leI_t]; omega
    refine need_t hr (need_so ⟨rfl, g1, g2⟩ (fork_ok (fun h1 => ?_) (fun h1 => ?_)))
    · simp only [Bool.not_eq_true', Bool.not_eq_false', leI_t, leI_f, eqI_t, eqI_f, inR_t, inR_f, isSo_t, isSo_f] at h1
      replace ht := ht (by omega)
      obtain ⟨q, rfl⟩ : ∃ q, κ = q + 1 := ⟨κ - 1, by omega⟩
      have eq1 : q + 1 - 1 = q := by omega
      rw [eq1] at ht
      obtain ⟨p1, p2⟩ := hg _ (getD_in l q (by omega))
      have hfol := chain_at q hc (by omega)
      rw [hcur] at hfol
      have hdv : CellIs ((w64 (k + 1)).toNat - (w64 (k - 1)).toNat) (fun i j => .lit ((TokV.cells (l.getD ((w64 (k - 1)).toNat + i) tok0)).getD j undef)) [l.getD q tok0, cur] := by
        have e1 : (w64 (k - 1)).toNat = q := by rw [w64_in (by omega)]; omega
        have e2 : (w64 (k + 1)).toNat = q + 2 := by rw [hw]; omega
        rw [e1, e2]
        refine ⟨by simp, fun i j hi hj => ?_⟩
        rcases i with _ | _ | i
        · rfl
        · show AV.lit ((TokV.cells (l.getD (q + (0 + 1)) tok0)).getD j undef) = AV.lit ((TokV.cells cur).getD j undef)
          rw [show q + (0 + 1) = q + 1 by omega, hcur]
        · omega
      have hps : (BA (txtL (l.getD q tok0))).size ≤ 100000000 := by
        have h9 := cat_part l (q + 1)
        rw [take_snoc l q (by omega), catL_app, List.length_append, show catL [l.getD q tok0] = txtL (l.getD q tok0) by rw [catL_cons]; exact List.append_nil _] at h9
        rw [ba_size]; omega
      have hsum : (txtL (l.getD q tok0)).length + (txtL cur).length ≤ (catL l).length := by
        have h9 : (catL (l.take (q + 1))).length + (txtL cur).length ≤ (catL l).length := hp1
        rw [take_snoc l q (by omega), catL_app, List.length_append, show catL [l.getD q tok0] = txtL (l.getD q tok0) by rw [catL_cons]; exact List.append_nil _] at h9
        omega
      generalize l.getD q tok0 = prev at *
      have hX : t ++ BA (txtL cur) = BA (catL [prev, cur]) := by
        rw [ht, ba_cat, catL_cons, catL_cons]
        show _ = BA (txtL prev ++ (txtL cur ++ []))
        rw [List.append_nil]
      have hcut : cutT (t ++ BA (txtL cur)) = [prev, cur] := by
        rw [hX]
        exact cut_cat (fun u hu => by
          rcases List.mem_cons.1 hu with rfl | hu
          · exact p1
          · simp at hu; subst hu; exact g1) ⟨hfol, trivial⟩
      have hts : t.size ≤ 100000000 := by rw [ht]; exact hps
      have hszX : limB (t ++ BA (txtL cur)).size := by
        unfold limB
        rw [ByteArray.size_append, ht, ba_size, ba_size]
        omega
      generalize hXX : t ++ BA (txtL cur) = X at *
      have k1 : toksOf (cutT X).length (kcell (cutT X)) = [prev, cur] := by rw [toksOf_is (CellIs.kc _), hcut]
      have hl1 : (toksOf (cutT X).length (kcell (cutT X))).length ≤ 17592186044416 := by rw [k1]; simp
      have hsame : sameK (toksOf (cutT X).length (kcell (cutT X))) (toksOf ((w64 (k + 1)).toNat - (w64 (k - 1)).toNat) (fun i j => .lit ((TokV.cells (l.getD ((w64 (k - 1)).toNat + i) tok0)).getD j undef))) = true := by
        rw [k1, toksOf_is hdv]
        exact sameK_refl _
      refine need_t (sum _ _ hts hcs) (need_so ⟨rfl, hszX⟩ (need_t (by rw [hw, w64_in (by omega)]; simp only [Bool.and_eq_true, leI_t]; omega) (need_so ⟨TokRows.kc _, hdv.rows, hl1⟩ (fork_ok (fun u => ?_) (fun u => need_t (sum _ _ hss hcs) c1)))))
      have u' : (!sameK (toksOf (cutT X).length (kcell (cutT X))) (toksOf ((w64 (k + 1)).toNat - (w64 (k - 1)).toNat) (fun i j => .lit ((TokV.cells (l.getD ((w64 (k - 1)).toNat + i) tok0)).getD j undef)))) = true := u
      rw [hsame] at u'
      cases u'
    · exact need_t (sum _ _ hss hcs) c1
  · simp only [Bool.not_eq_true', Bool.not_eq_false', leI_t, leI_f, eqI_t, eqI_f, inR_t, inR_f, isSo_t, isSo_f] at h
    exact c2 (by omega)
end Go.Proofs.Ytconlneohilnmaa
namespace Go.Proofs.Ytconlneohilnmaa
open Go Go.RowKit Pl Sy
def PrOk (l : List TokV) : Prop := (∀ t ∈ l, GoodT t ∧ limT t.text.size) ∧ ChainT l ∧ limB (catL l).length ∧ l.length ≤ 1000000
theorem Sy.p5_loop (l : List TokV) (h : PrOk l) : ∀ (m κ : Nat) (t : ByteArray), l.length - κ ≤ m → κ ≤ l.length → (0 < κ → t = BA (txtL (l.getD (κ - 1) tok0))) →
    LoopTo Try.prog (theBody Try.prog 14 5) (m + 1) (p5F l (BA (catL (l.take κ))) t (κ : Int)) M0 fun ex F' M' => M' = M0 ∧ ex = .exit 0 ∧ ∃ t' k', F' = p5F l (BA (catL l)) t' k' := by
  obtain ⟨h1, h2, h3, h4⟩ := h
  have last : ∀ (κ : Nat) (t : ByteArray), κ = l.length → p5F l (BA (catL (l.take κ))) t (κ : Int) = p5F l (BA (catL l)) t (κ : Int) := fun κ t e => by
    rw [e, List.take_length]
  intro m
  induction m with
  | zero =>
    intro κ t q1 q2 q3
    exact p5_step l h1 h2 h3 h4 κ t 0 _ q2 q3 (fun hh => absurd hh (by omega)) (fun e => ⟨rfl, rfl, _, _, last κ t e⟩)
  | succ m ih =>
    intro κ t q1 q2 q3
    exact p5_step l h1 h2 h3 h4 κ t (m + 1) _ q2 q3 (fun hh => ih (κ + 1) _ (by omega) (by omega) (fun _ => by rw [Nat.add_sub_cancel])) (fun e => ⟨rfl, rfl, _, _, last κ t e⟩)
namespace Sy
noncomputable abbrev lp_p5 (l : List TokV) : Lp Try.prog where
  f := 14
  key := 5
  S := formS (fun F M => some ()) (fun _ => p5F l ⟨⟨[]⟩⟩ ⟨⟨[]⟩⟩ 0) (fun _ => M0) (fun _ => PrOk l) (fun _ => .leaf (.exit 0, (some ((@AV.view (l).length 3 (fun x13939 => (fun x944194 => (@AV.lit ([(@Value.int IntKind.i64 ((l.getD x13939 tok0)).kind), (@Value.string ((l.getD x13939 tok0)).text), (@Value.int IntKind.i64 ((l.getD x13939 tok0)).n)].getD x944194 (@Value.tuple (@Array.mk _ [])))))))) :: none :: some ((@AV.lit (@Value.string (@ByteArray.mk (@Array.mk _ []))))) :: some (.lit (.string (BA (catL l)))) :: (nn41 [])), M0)) (true :: false :: true :: true :: true :: true :: (ff39 []))
  one := by kernel_rfl
  ok := formS_ok fun _ h1 => by
    refine ⟨l.length + 1, ?_⟩
    refine ((Sy.p5_loop l h1 l.length 0 ⟨⟨[]⟩⟩ (by omega) (Nat.zero_le _) (fun h => absurd h (by omega))).out (true :: false :: true :: true :: (ff41 []))).mono fun ex F M hg => ?_
    obtain ⟨F0, ⟨rfl, rfl, t', k', rfl⟩, rfl⟩ := hg
    rfl
end Sy
theorem Sy.pri5_t (l : List TokV) (h : PrOk l) : CallTo Try.prog 14 [kv l] M0 fun v _ => v = .lit (.string (BA (catL l))) :=
  toV [] [lp_p5 l] 400 30 .done (let e1 := (some (@AV.view (l).length 3 (fun y0 => (fun y1 => (@AV.lit ([(@Value.int IntKind.i64 ((l.getD y0 tok0)).kind), (@Value.string ((l.getD y0 tok0)).text), (@Value.int IntKind.i64 ((l.getD y0 tok0)).n)].getD y1 (@Value.tuple (@Array.mk _ [])))))))); let e2 := (some (@AV.lit (@Value.string (@ByteArray.mk (@Array.mk _ []))))); (.need (@isSo (@And ((e1 :: (none :: e2 :: e2 :: e2 :: (some (int (0 : Int))) :: (nn39 []))) = (e1 :: none :: e2 :: e2 :: e2 :: (some (int (0 : Int))) :: (nn39 []))) ((@Mem.mk 0 0 []) = M0))) (.need (@isSo (@PrOk l)) (.leaf (@AV.lit (@Value.string (@BA (@catL l)))))))) (by kernel_rfl) (need_so ⟨rfl, rfl⟩ (need_so h rfl))
noncomputable abbrev Sy.cPri5 (l : List TokV) : Con Try.prog := at1 14 [kv l] (.lit (.string (BA (catL l)))) (PrOk l) fun h => ⟨⟨⟨kv_free l, trivial⟩, trivial⟩, pri5_t l h⟩
end Go.Proofs.Ytconlneohilnmaa
namespace Go.Proofs.Ytconlneohilnmaa
open Go Go.RowKit Pl Sy
theorem mark_comb (T : List TokV) (a : Int) (p : PartV) : (markV T a p).2.1.comb = p.comb := by
  unfold markV
  repeat' split
  all_goals rfl
theorem marks_right (T : List TokV) (f0 : Int) : ∀ (n : Nat) (a : Int) (p : PartV), (marksV T f0 n a p).2.2 = true → wrongB (marksV T f0 n a p).1 = false ∧ (marksV T f0 n a p).1.comb = p.comb
  | 0, a, p, h => by cases h
  | n + 1, a, p, h => by
    have hc := mark_comb T a p
    have e : marksV T f0 (n + 1) a p = match (markV T a p).1 with
      | 2 => marksV T f0 n (markV T a p).2.2 (markV T a p).2.1
      | 1 => ((markV T a p).2.1, (markV T a p).2.2, !leI (markV T a p).2.2 f0 && !wrongB (markV T a p).2.1)
      | _ => ((markV T a p).2.1, (markV T a p).2.2, false) := rfl
    rw [e] at h ⊢
    generalize (markV T a p) = x at *
    obtain ⟨k, q, b⟩ := x
    simp only at hc h ⊢
    split at h
    · have := marks_right T f0 n b q h
      exact ⟨this.1, this.2.trans hc⟩
    · simp only [Bool.and_eq_true, Bool.not_eq_true'] at h
      exact ⟨h.2, hc⟩
    · cases h
theorem rprt_right (T : List TokV) (a c : Int) (h : (rprtV T a c).2.2 = true) : wrongB (rprtV T a c).1 = false ∧ (rprtV T a c).1.comb = c := by
  unfold rprtV at h ⊢
  split at h
  · rename_i q
    rw [if_pos q]
    exact marks_right T _ _ _ _ h
  · rename_i q
    rw [if_neg q]
    exact marks_right T _ _ _ _ h
theorem cmb_in (T : List TokV) (a : Int) : 0 ≤ cmbI T a ∧ cmbI T a ≤ 4 := by
  unfold cmbI
  repeat' split
  all_goals omega
theorem sels_right (T : List TokV) : ∀ (n : Nat) (a : Int) (ok : Bool) (ps : List PartV) (p : PartV), (ok = true → wrongB p = false) → (selsV T n a ok ps p).ret = true → (selsV T n a ok ps p).r = true →
    (selsV T n a ok ps p).ps.length ≤ 8 ∧ ∃ rest, (selsV T n a ok ps p).ps = ps ++ p :: rest ∧ wrongB p = false ∧ ∀ q ∈ rest, wrongB q = false ∧ 1 ≤ q.comb ∧ q.comb ≤ 4
  | 0, a, ok, ps, p, hw, h1, h2 => by cases h1
  | n + 1, a, ok, ps, p, hw, h1, h2 => by
    have e : selsV T (n + 1) a ok ps p = if ok = true then
      if eqI a T.length = true then ⟨true, leI (ps.length + 1 : Nat) 8, ok, ps ++ [p], p, a⟩
      else if eqI (cmbI T a) 0 = true then ⟨true, false, ok, ps ++ [p], p, cmbA T a⟩
      else selsV T n (rprtV T (cmbA T a) (cmbI T a)).2.1 (rprtV T (cmbA T a) (cmbI T a)).2.2 (ps ++ [p]) (rprtV T (cmbA T a) (cmbI T a)).1
    else ⟨false, false, ok, ps, p, a⟩ := rfl
    rw [e] at h1 h2 ⊢
    by_cases hk : ok = true
    · rw [if_pos hk] at h1 h2 ⊢
      by_cases ha : eqI a T.length = true
      · rw [if_pos ha] at h1 h2 ⊢
        have h2 : leI (ps.length + 1 : Nat) 8 = true := h2
        rw [leI_t] at h2
        refine ⟨?_, [], rfl, hw hk, fun q hq => by cases hq⟩
        show (ps ++ [p]).length ≤ 8
        simp only [List.length_append, List.length_cons, List.length_nil]
        omega
      · rw [if_neg ha] at h1 h2 ⊢
        by_cases hc : eqI (cmbI T a) 0 = true
        · rw [if_pos hc] at h2
          cases h2
        · rw [if_neg hc] at h1 h2 ⊢
          have hr := rprt_right T (cmbA T a) (cmbI T a)
          have hi := cmb_in T a
          generalize rprtV T (cmbA T a) (cmbI T a) = x at *
          obtain ⟨q, b, o⟩ := x
          simp only at hr h1 h2 ⊢
          obtain ⟨k1, rest, k2, k3, k4⟩ := sels_right T n b o (ps ++ [p]) q (fun ho => (hr ho).1) h1 h2
          refine ⟨k1, q :: rest, by rw [k2]; simp, hw hk, fun y hy => ?_⟩
          rcases List.mem_cons.1 hy with rfl | hy
          · have hcq : y.comb = cmbI T a := by
              cases ho : o with
              | true => exact (hr ho).2
              | false =>
                exfalso
                rw [ho] at h1
                cases n with
                | zero => cases h1
                | succ n => cases h1
            rw [Bool.not_eq_true, eqI_f] at hc
            exact ⟨k3, by omega, by omega⟩
          · exact k4 y hy
    · rw [if_neg hk] at h1
      cases h1
theorem rsel_right (T : List TokV) (h1 : (rselV T 0).ret = true) (h2 : (rselV T 0).r = true) : rightB (rselV T 0).ps = true := by
  unfold rselV at h1 h2 ⊢
  have hr := rprt_right T 0 0
  generalize rprtV T 0 0 = x at *
  obtain ⟨p, b, o⟩ := x
  simp only at hr h1 h2 ⊢
  have ho : o = true := by
    cases o with
    | true => rfl
    | false => cases h1
  obtain ⟨k1, rest, k2, k3, k4⟩ := sels_right T _ b o [] p (fun ho => (hr ho).1) h1 h2
  rw [List.nil_append] at k2
  rw [k2] at k1 ⊢
  unfold rightB
  rw [Bool.and_eq_true, Bool.and_eq_true, Bool.and_eq_true, Bool.not_eq_true', Bool.not_eq_true', Bool.not_eq_true', eqI_f, leI_t]
  refine ⟨by simp only [List.length_cons]; omega, by omega, ?_, ?_⟩
  · unfold anyP
    rw [List.any_eq_false]
    intro q hq
    rcases List.mem_cons.1 hq with rfl | hq
    · rw [k3]; simp
    · rw [(k4 q hq).1]; simp
  · unfold anyN
    rw [List.any_eq_false]
    intro k hk
    rw [List.mem_range] at hk
    unfold combs combB
    cases k with
    | zero =>
      rw [if_pos rfl]
      show ¬ (!eqI p.comb 0) = true
      rw [(hr ho).2]
      decide
    | succ k =>
      rw [if_neg (by omega)]
      have hm : (p :: rest).getD (k + 1) partNone ∈ rest := by
        have hk' : k < rest.length := by simpa using hk
        rw [List.getD_cons_succ, List.getD_eq_getElem?_getD, List.getElem?_eq_getElem hk']
        exact List.getElem_mem hk'
      obtain ⟨_, c1, c2⟩ := k4 _ hm
      rw [Bool.or_eq_true, Bool.not_eq_true', Bool.not_eq_true', leI_f, leI_f]
      omega
theorem name_size {s : ByteArray} (h : nameL s.data.toList = true) : s.size ≤ 32 := by
  unfold nameL at h
  simp only [Bool.and_eq_true, decide_eq_true_eq] at h
  have : s.data.toList.length = s.size := by simp
  omega
theorem text_size {s : ByteArray} (h : textL s.data.toList = true) : s.size ≤ 256 := by
  unfold textL at h
  simp only [Bool.and_eq_true, decide_eq_true_eq] at h
  have : s.data.toList.length = s.size := by simp
  omega
theorem partOk_of {p : PartV} (h : wrongB p = false) : PartOk p := by
  have hm : 256 ≤ maxLen := by decide
  have hw := wrong_no h
  unfold wrongB at h
  simp only [Bool.or_eq_false_iff, Bool.and_eq_false_imp, Bool.not_eq_true', Bool.not_eq_false'] at h
  obtain ⟨h1, h2, _, _, _, _, h3, h4⟩ := h
  have nm : ∀ s : ByteArray, (bytesEq s.data.toList [] = false → lacksB s = false) → s.size ≤ maxLen := fun s hs => by
    cases hb : bytesEq s.data.toList [] with
    | true =>
      rw [bytesEq_eq, decide_eq_true_eq] at hb
      have : s.data.toList.length = s.size := by simp
      rw [hb] at this
      simp at this
      omega
    | false =>
      have := hs hb
      unfold lacksB at this
      rw [Bool.not_eq_false'] at this
      have := name_size this
      omega
  refine ⟨nm _ h1, nm _ h2, ⟨by omega, fun s hs => ?_⟩, ⟨by omega, fun t ht => ?_⟩⟩
  · unfold anyS at h3
    rw [List.any_eq_false] at h3
    have := h3 s hs
    unfold lacksB at this
    rw [Bool.not_eq_true, Bool.not_eq_false'] at this
    have := name_size this
    omega
  · unfold anyT at h4
    rw [List.any_eq_false] at h4
    have := h4 t ht
    unfold oddB at this
    rw [Bool.not_eq_true, Bool.or_eq_false_iff, Bool.or_eq_false_iff, Bool.not_eq_false', Bool.not_eq_false'] at this
    have k1 := name_size this.1.1
    have k2 := text_size this.1.2
    exact ⟨by omega, by omega⟩
theorem partsOk_of {ps : List PartV} (h : rightB ps = true) : PartsOk ps := by
  obtain ⟨⟨_, r1⟩, r2, _⟩ := right_of h
  exact ⟨by omega, fun p hp => partOk_of (r2 p hp)⟩
theorem parse_right (l : List TokV) : ∀ ps ∈ parseV l, rightB ps = true := fun ps hp => by
  unfold parseV at hp
  split at hp
  · rename_i h
    rw [List.all_eq_true] at h
    obtain ⟨x, hx, rfl⟩ := List.mem_map.1 hp
    have := h x hx
    unfold selOk at this
    rw [Bool.and_eq_true] at this
    exact rsel_right _ this.1 this.2
  · cases hp
theorem parse_num (l : List TokV) : (parseV l).length ≤ l.length + 1 := by
  have := pieces_num comB _ l (Nat.le_refl _)
  unfold parseV
  split
  · rw [List.length_map]; omega
  · simp
theorem parse_selsR {l : List TokV} (h : limC l) : SelsR (parseV l) := by
  have := parse_num l
  unfold limC at h
  exact ⟨by omega, fun ps hp => partsOk_of (parse_right l ps hp)⟩
theorem parseE_cases (l : List TokV) : (parseE l = 0 ∧ (pieces comB l).all selOk = true) ∨ (parseE l = 20 ∧ (pieces comB l).all selOk = false ∧ parseV l = []) := by
  unfold parseE parseV
  cases h : (pieces comB l).all selOk with
  | true => exact .inl ⟨rfl, rfl⟩
  | false => exact .inr ⟨rfl, rfl, rfl⟩
end Go.Proofs.Ytconlneohilnmaa
namespace Go.Proofs.Ytconlneohilnmaa
open Go Go.RowKit Pl Sy
def AllG (l : List TokV) : Prop := ∀ t ∈ l, GoodT t ∧ t.text.size ≤ 256
theorem AllG.nil : AllG [] := fun t ht => by cases ht
theorem AllG.cons {t : TokV} {l : List TokV} (h : GoodT t ∧ t.text.size ≤ 256) (hl : AllG l) : AllG (t :: l) := fun u hu => by
  rcases List.mem_cons.1 hu with rfl | hu
  · exact h
  · exact hl u hu
theorem AllG.app {A B : List TokV} (hA : AllG A) (hB : AllG B) : AllG (A ++ B) := fun u hu => by
  rcases List.mem_append.1 hu with h | h
  · exact hA u h
  · exact hB u h
theorem AllG.flat {α : Type} (f : α → List TokV) : ∀ l : List α, (∀ x ∈ l, AllG (f x)) → AllG (l.flatMap f)
  | [], _ => AllG.nil
  | x :: l, h => by rw [List.flatMap_cons]; exact (h x (by simp)).app (AllG.flat f l (fun y hy => h y (by simp [hy])))
theorem gk {k : Int} {c : UInt8} (h : (k = 10 ∧ c = 58) ∨ (k = 12 ∧ c = 44) ∨ (k = 15 ∧ c = 91) ∨ (k = 16 ∧ c = 93)) : GoodT (tk k ⟨#[]⟩) ∧ (tk k ⟨#[]⟩).text.size ≤ 256 := ⟨GoodT.sg k c h, Nat.zero_le _⟩
theorem gid {x : ByteArray} (h : nameL x.data.toList = true) : GoodT (tk 1 x) ∧ (tk 1 x).text.size ≤ 256 := ⟨GoodT.id x h, by have := name_size h; show x.size ≤ 256; omega⟩
theorem gdl {c : UInt8} (h : c = 46 ∨ c = 61 ∨ c = 62 ∨ c = 43 ∨ c = 126 ∨ c = 42) : GoodT (tk 19 ⟨#[c]⟩) ∧ (tk 19 ⟨#[c]⟩).text.size ≤ 256 := ⟨GoodT.dl c h, by show 1 ≤ 256; decide⟩
theorem gsp : GoodT (tk 20 ⟨#[]⟩) ∧ (tk 20 ⟨#[]⟩).text.size ≤ 256 := ⟨GoodT.sp, Nat.zero_le _⟩
theorem g_test {t : TestV} (h : oddB t = false) : AllG (testT t) := by
  unfold oddB at h
  rw [Bool.or_eq_false_iff, Bool.or_eq_false_iff, Bool.not_eq_false', Bool.not_eq_false'] at h
  have hv : GoodT (tk 5 t.value) ∧ (tk 5 t.value).text.size ≤ 256 := ⟨GoodT.str _ h.1.2, text_size h.1.2⟩
  unfold testT
  split
  · exact AllG.cons (gk (c := 91) (by decide)) (AllG.cons (gid h.1.1) (AllG.cons (gdl (c := 61) (by decide)) (AllG.cons hv (AllG.cons (gk (c := 93) (by decide)) AllG.nil))))
  · exact AllG.cons (gk (c := 91) (by decide)) (AllG.cons (gid h.1.1) (AllG.cons (gk (c := 93) (by decide)) AllG.nil))
theorem g_state (n : Int) (b : Nat) (s : ByteArray) (h : nameL s.data.toList = true) : AllG (stateT n b s) := by
  rw [stateT_eq]
  split
  · exact AllG.nil
  · exact AllG.cons (gk (c := 58) (by decide)) (AllG.cons (gid h) AllG.nil)
theorem g_part {p : PartV} (h : wrongB p = false) : AllG (partT p) := by
  unfold wrongB at h
  simp only [Bool.or_eq_false_iff, Bool.and_eq_false_imp, Bool.not_eq_true', Bool.not_eq_false'] at h
  obtain ⟨h1, h2, _, _, _, _, h3, h4⟩ := h
  have hl : ∀ s : ByteArray, lacksB s = false → nameL s.data.toList = true := fun s hs => by unfold lacksB at hs; rw [Bool.not_eq_false'] at hs; exact hs
  unfold partT
  split
  · exact AllG.cons (gdl (c := 42) (by decide)) AllG.nil
  · rw [bodyT_eq]
    have r1 : AllG (idT p) := by
      unfold idT
      split
      · exact AllG.nil
      · rename_i q
        rw [Bool.not_eq_true] at q
        have := hl _ (h2 q)
        exact AllG.cons ⟨GoodT.hash _ this, by have := name_size this; show p.id.size ≤ 256; omega⟩ AllG.nil
    have r2 : AllG (clssT p.cls) := AllG.flat (fun s => [tk 19 ⟨#[46]⟩, tk 1 s]) p.cls fun s hs => by
      unfold anyS at h3
      rw [List.any_eq_false] at h3
      have := h3 s hs
      rw [Bool.not_eq_true] at this
      exact AllG.cons (gdl (c := 46) (by decide)) (AllG.cons (gid (hl _ this)) AllG.nil)
    have r3 : AllG (testsT p.tests) := AllG.flat testT p.tests fun t ht => by
      unfold anyT at h4
      rw [List.any_eq_false] at h4
      have := h4 t ht
      rw [Bool.not_eq_true] at this
      exact g_test this
    have r4 := g_state p.states 1 wRoot (by decide)
    have r5 := g_state p.states 2 wFirst (by decide)
    have r6 := g_state p.states 4 wLast (by decide)
    have r0 : AllG (tagT p) := by
      unfold tagT
      split
      · exact AllG.nil
      · rename_i q
        rw [Bool.not_eq_true] at q
        exact AllG.cons (gid (hl _ (h1 q))) AllG.nil
    unfold restT
    exact r0.app (r1.app (r2.app (r3.app (AllG.app (A := stateT p.states (1 : Nat) wRoot) r4 (AllG.app (A := stateT p.states (2 : Nat) wFirst) r5 r6)))))
theorem g_comb (c : Int) : AllG (combT c) := by
  unfold combT
  split
  · exact AllG.nil
  · split
    · exact AllG.cons gsp AllG.nil
    · refine AllG.cons gsp (AllG.cons ?_ (AllG.cons gsp AllG.nil))
      unfold signS
      split
      · exact gdl (c := 62) (by decide)
      · split
        · exact gdl (c := 43) (by decide)
        · exact gdl (c := 126) (by decide)
theorem g_parts : ∀ ps : List PartV, (∀ p ∈ ps, wrongB p = false) → AllG (partsT ps)
  | [], _ => AllG.nil
  | p :: ps, h => by
    rw [partsT_cons]
    exact AllG.app (A := combT p.comb ++ partT p) ((g_comb _).app (g_part (h p (by simp)))) (g_parts ps (fun q hq => h q (by simp [hq])))
theorem g_sels : ∀ (ss : List (List PartV)) (k : Int), (∀ ps ∈ ss, rightB ps = true) → AllG (selsT k ss)
  | [], _, _ => AllG.nil
  | ps :: l, k, h => by
    show AllG (sepT k ++ partsT ps ++ selsT (k + 1) l)
    refine AllG.app (A := sepT k ++ partsT ps) (AllG.app ?_ (g_parts ps (right_of (h ps (by simp))).2.1)) (g_sels l (k + 1) (fun q hq => h q (by simp [hq])))
    unfold sepT
    split
    · exact AllG.nil
    · exact AllG.cons (gk (c := 44) (by decide)) (AllG.cons gsp AllG.nil)
theorem sels_chain {ss : List (List PartV)} (h : ∀ ps ∈ ss, rightB ps = true) : ChainT (selsT 0 ss) := (adj_all h).chain fun t ht => (g_sels ss 0 h t ht).1
theorem sels_cut {ss : List (List PartV)} (h : ∀ ps ∈ ss, rightB ps = true) : cutT (BA (catL (selsT 0 ss))) = selsT 0 ss := cut_cat (fun t ht => (g_sels ss 0 h t ht).1) (sels_chain h)
theorem cat_size : ∀ l : List TokV, AllG l → (catL l).length ≤ 258 * l.length
  | [], _ => Nat.zero_le _
  | t :: l, h => by
    have ih := cat_size l (fun u hu => h u (by simp [hu]))
    have ht := (h t (by simp)).2
    have hl : t.text.data.toList.length = t.text.size := by simp
    have h1 : (txtL t).length ≤ 258 := by
      unfold txtL
      repeat' split
      all_goals (try simp only [List.length_cons, List.length_append, List.length_nil])
      all_goals omega
    rw [catL_cons, List.length_append, List.length_cons]
    omega
end Go.Proofs.Ytconlneohilnmaa
namespace Go.Proofs.Ytconlneohilnmaa
open Go Go.RowKit Pl Sy
theorem marks_gt (T : List TokV) (f0 : Int) : ∀ (n : Nat) (a : Int) (p : PartV), (marksV T f0 n a p).2.2 = true → f0 < (marksV T f0 n a p).2.1
  | 0, a, p, h => by cases h
  | n + 1, a, p, h => by
    have e : marksV T f0 (n + 1) a p = match (markV T a p).1 with
      | 2 => marksV T f0 n (markV T a p).2.2 (markV T a p).2.1
      | 1 => ((markV T a p).2.1, (markV T a p).2.2, !leI (markV T a p).2.2 f0 && !wrongB (markV T a p).2.1)
      | _ => ((markV T a p).2.1, (markV T a p).2.2, false) := rfl
    rw [e] at h ⊢
    generalize (markV T a p) = x at *
    obtain ⟨k, q, b⟩ := x
    simp only at h ⊢
    split at h
    · exact marks_gt T f0 n b q h
    · simp only [Bool.and_eq_true, Bool.not_eq_true', leI_f] at h
      show f0 < b
      omega
    · cases h
theorem rprt_gt (T : List TokV) (a c : Int) (h : (rprtV T a c).2.2 = true) : a < (rprtV T a c).2.1 := by
  unfold rprtV at h ⊢
  split at h
  · rename_i q
    rw [if_pos q]
    exact marks_gt T _ _ _ _ h
  · rename_i q
    rw [if_neg q]
    exact marks_gt T _ _ _ _ h
theorem cmbA_ge {T : List TokV} {a : Int} (h : InT T a) : a ≤ cmbA T a := by
  have i0 := skI_in h
  have h1 : InT T (cmB1 T a) := signA_in i0
  have h2 : InT T (cmB2 T a) := signA_in h1
  have h3 : InT T (cmB3 T a) := signA_in h2
  have k0 := (skI_le h.1.1 h.1.2).1
  have k1 : skI T a ≤ cmB1 T a := signA_ge T _ _
  have k2 : cmB1 T a ≤ cmB2 T a := signA_ge T _ _
  have k3 : cmB2 T a ≤ cmB3 T a := signA_ge T _ _
  have s1 := (skI_le h1.1.1 h1.1.2).1
  have s2 := (skI_le h2.1.1 h2.1.2).1
  have s3 := (skI_le h3.1.1 h3.1.2).1
  unfold cmbA
  repeat' split
  all_goals omega
theorem sels_num (T : List TokV) : ∀ (n : Nat) (a : Int) (ok : Bool) (ps : List PartV) (p : PartV), InT T a → (selsV T n a ok ps p).ret = true → (selsV T n a ok ps p).r = true →
    ((selsV T n a ok ps p).ps.length : Int) ≤ ps.length + 1 + (T.length - a)
  | 0, a, ok, ps, p, hi, h1, h2 => by cases h1
  | n + 1, a, ok, ps, p, hi, h1, h2 => by
    have e : selsV T (n + 1) a ok ps p = if ok = true then
      if eqI a T.length = true then ⟨true, leI (ps.length + 1 : Nat) 8, ok, ps ++ [p], p, a⟩
      else if eqI (cmbI T a) 0 = true then ⟨true, false, ok, ps ++ [p], p, cmbA T a⟩
      else selsV T n (rprtV T (cmbA T a) (cmbI T a)).2.1 (rprtV T (cmbA T a) (cmbI T a)).2.2 (ps ++ [p]) (rprtV T (cmbA T a) (cmbI T a)).1
    else ⟨false, false, ok, ps, p, a⟩ := rfl
    rw [e] at h1 h2 ⊢
    by_cases hk : ok = true
    · rw [if_pos hk] at h1 h2 ⊢
      by_cases ha : eqI a T.length = true
      · rw [if_pos ha]
        rw [eqI_t] at ha
        show ((ps ++ [p]).length : Int) ≤ _
        simp only [List.length_append, List.length_cons, List.length_nil]
        omega
      · rw [if_neg ha] at h1 h2 ⊢
        by_cases hc : eqI (cmbI T a) 0 = true
        · rw [if_pos hc] at h2
          cases h2
        · rw [if_neg hc] at h1 h2 ⊢
          have g1 := cmbA_ge hi
          have g2 := rprtV_ge (c := cmbI T a) (cmbA_in hi)
          have g3 := rprt_gt T (cmbA T a) (cmbI T a)
          generalize rprtV T (cmbA T a) (cmbI T a) = x at *
          obtain ⟨q, b, o⟩ := x
          simp only at g2 g3 h1 h2 ⊢
          have ho : o = true := by
            cases ho : o with
            | true => rfl
            | false =>
              rw [ho] at h1
              cases n with
              | zero => cases h1
              | succ n => cases h1
          have g3 := g3 ho
          have ih := sels_num T n b o (ps ++ [p]) q g2.2 h1 h2
          simp only [List.length_append, List.length_cons, List.length_nil] at ih
          omega
    · rw [if_neg hk] at h1
      cases h1
theorem rsel_num (T : List TokV) (hl : lim T) (h1 : (rselV T 0).ret = true) (h2 : (rselV T 0).r = true) : (rselV T 0).ps.length ≤ T.length := by
  unfold rselV at h1 h2 ⊢
  have hi : InT T 0 := ⟨⟨Int.le_refl _, by omega⟩, hl⟩
  have g2 := rprtV_ge (c := 0) hi
  have g3 := rprt_gt T 0 0
  generalize rprtV T 0 0 = x at *
  obtain ⟨p, b, o⟩ := x
  simp only at g2 g3 h1 h2 ⊢
  have ho : o = true := by
    cases o with
    | true => rfl
    | false => cases h1
  have g3 := g3 ho
  have := sels_num T _ b o [] p g2.2 h1 h2
  simp only [List.length_nil] at this
  omega
theorem trim_lenN (l : List TokV) : (trim l).length ≤ l.length := by
  unfold trim
  rw [List.length_reverse]
  have h1 := (List.dropWhile_sublist spB (l := (l.dropWhile spB).reverse)).length_le
  have h2 := (List.dropWhile_sublist spB (l := l)).length_le
  rw [List.length_reverse] at h1
  omega
def numP : List (List PartV) → Nat
  | [] => 0
  | ps :: l => ps.length + numP l
theorem pieces_sum : ∀ (n : Nat) (l : List TokV), l.length ≤ n → limC l → (∀ x ∈ pieces comB l, selOk x = true) → numP ((pieces comB l).map selPs) ≤ l.length := by
  intro n
  have one : ∀ x : List TokV, limC x → selOk x = true → (selPs x).length ≤ x.length := fun x hx h => by
    unfold selOk at h
    rw [Bool.and_eq_true] at h
    have hx : x.length ≤ 100000 := hx
    have := rsel_num (trim x) (by have := trim_lenN x; unfold lim; omega) h.1 h.2
    have := trim_lenN x
    unfold selPs
    omega
  induction n with
  | zero =>
    intro l h hc hs
    have hk := tops_le comB l 0 (Nat.zero_le _)
    rw [pieces_step, if_pos (by omega)] at hs ⊢
    have hc : l.length ≤ 100000 := hc
    have := one _ (show (l.take (tops comB l 0)).length ≤ 100000 by rw [List.length_take]; omega) (hs _ (by simp))
    rw [List.length_take] at this
    show (selPs (l.take (tops comB l 0))).length + 0 ≤ _
    omega
  | succ n ih =>
    intro l h hc hs
    have hk := tops_le comB l 0 (Nat.zero_le _)
    have hc : l.length ≤ 100000 := hc
    rw [pieces_step] at hs ⊢
    have h1 := one _ (show (l.take (tops comB l 0)).length ≤ 100000 by rw [List.length_take]; omega) (hs _ (by simp))
    rw [List.length_take] at h1
    split at hs
    · rename_i e
      rw [if_pos e]
      show (selPs (l.take (tops comB l 0))).length + 0 ≤ _
      omega
    · rename_i e
      rw [if_neg e]
      have h2 := ih (l.drop (tops comB l 0 + 1)) (by rw [List.length_drop]; omega) (show _ ≤ 100000 by rw [List.length_drop]; omega) (fun x hx => hs x (by simp [hx]))
      rw [List.length_drop] at h2
      show (selPs (l.take (tops comB l 0))).length + numP ((pieces comB (l.drop (tops comB l 0 + 1))).map selPs) ≤ _
      omega
theorem parse_parts {l : List TokV} (h : limC l) : numP (parseV l) ≤ l.length := by
  unfold parseV
  split
  · rename_i q
    exact pieces_sum _ l (Nat.le_refl _) h (List.all_eq_true.1 q)
  · exact Nat.zero_le _
theorem numP_ge : ∀ ss : List (List PartV), (∀ ps ∈ ss, rightB ps = true) → ss.length ≤ numP ss
  | [], _ => Nat.le_refl _
  | ps :: l, h => by
    have := numP_ge l (fun q hq => h q (by simp [hq]))
    have h1 := (right_of (h ps (by simp))).1.1
    simp only [List.length_cons, numP]
    omega
theorem sels_num2 : ∀ (ss : List (List PartV)) (k : Int), (∀ ps ∈ ss, rightB ps = true) → (selsT k ss).length ≤ 73 * numP ss + 2 * ss.length
  | [], _, _ => by simp [selsT]
  | ps :: l, k, h => by
    have ih := sels_num2 l (k + 1) (fun q hq => h q (by simp [hq]))
    have h1 := partsT_le ps (right_of (h ps (by simp))).2.1
    have h2 : (sepT k).length ≤ 2 := by unfold sepT; split <;> simp
    show (sepT k ++ partsT ps ++ selsT (k + 1) l).length ≤ _
    simp only [List.length_append, numP, List.length_cons]
    omega
end Go.Proofs.Ytconlneohilnmaa
namespace Go.Proofs.Ytconlneohilnmaa
open Go Go.RowKit Pl Sy
theorem Sy.print_f2 (ss : List (List PartV)) (h : SelsR ss) (hn : ss.length ≤ 1000) (hl : limT (selsT 0 ss).length) : CallTo Try.prog 7 [sview ss] M0 fun v M' => Frz true 0 M' v (.tup [kv (printT ss), int (printE ss)]) :=
  to (G := fun r => Frz true 0 r.2 r.1 (.tup [kv (printT ss), int (printE ss)])) [cAnySel ss] [lpPri ss] 400 30 (.br (.auto 0 (.yes (.auto 0 (.br .done .done)))) (.auto 2 .done)) (let e1 := (@AV.view (ss).length 1 (fun y0 => (fun y1 => (@AV.view ((ss.getD y0 [])).length 6 (@pcell (ss.getD y0 [])))))); let e2 := (@AV.lit (@Value.slice none 0 0)); let e3 := (some (int (((ss).length : Nat) : Int))); let e4 := (some (@Blk.mk [e2] 50 none)); let e5 := (@AV.own 1 ((@selsT (0 : Int) ss)).length 3); (.fork (!(eqI (((ss).length : Nat) : Int) (0 : Int))) (.need (@isSo (@And ((@HAppend.hAppend _ _ _ _ (@HAppend.hAppend _ _ _ _ [] [e1, (@AV.fn (@Fn.func 18) [] [])]) []) = [e1, (@AV.fn (@Fn.func 18) [] [])]) (@And ((ss).length ≤ 17592186044416) (∀ (ps : List PartV), ps ∈ ss → PartsOk ps)))) (.fork (@anyQ unrightB ss) (.leaf ((@AV.tup [e2, (int (20 : Int))]), (@Mem.mk 0 0 []))) (.need (@isSo (@And ((none :: (none :: none :: none :: (some (@AV.ptr 0 0)) :: (nn13 ((some e1) :: e3 :: (some (int (0 : Int))) :: (nn30 []))))) = (none :: none :: none :: none :: (some (@AV.ptr 0 0)) :: (nn13 ((some e1) :: e3 :: (some (int (Int.ofNat 0))) :: (nn30 []))))) ((@Mem.mk (0 + 1) 0 [e4]) = (@Mem.mk 1 0 [e4])))) (.need (@isSo (@And (@And ((ss).length ≤ 1000) (@And (∀ (ps : List PartV), ps ∈ ss → PutsOk ps) (((@selsT (0 : Int) ss)).length ≤ 1000000))) ((Int.ofNat 0) = (0 : Int)))) (.leaf ((@AV.tup [e5, (int (0 : Int))]), (@Mem.mk 2 0 [(some (@Blk.mk [] 39 (some (@Rw.mk ((@selsT (0 : Int) ss)).length 3 (@kcell (@selsT (0 : Int) ss)))))), (some (@Blk.mk [e5] 50 none))]))))))) (.leaf ((@AV.tup [e2, (int (20 : Int))]), (@Mem.mk 0 0 []))))) (by kernel_rfl) (by
    unfold printT printE
    unfold limT at hl
    refine fork_ok (fun h1 => need_so ⟨rfl, h⟩ (fork_ok (fun h2 => ?_) (fun h2 => ?_))) (fun h1 => ?_)
    · have e : allR ss = false := by unfold allR; rw [h2]; simp
      rw [if_neg (nt e), if_neg (nt e)]
      exact Frz.tup ⟨Frz.nil _ _ _ _ _, Frz.lit _ _ _ _, trivial⟩
    · have e : allR ss = true := by
        unfold allR; rw [h2, show (!eqI (ss.length : Int) 0) = true from h1]; rfl
      have r := anyQ_no h2
      rw [if_pos e, if_pos e]
      refine need_so ⟨rfl, rfl⟩ (need_so ⟨⟨by omega, fun ps hp => putsOk_of (r ps hp), by first | (unfold limT; omega) | omega⟩, rfl⟩ ?_)
      exact Frz.tup ⟨Frz.own (b := 1) (by decide) rfl rfl (Nat.le_refl _) rfl fun i j _ _ => Frz.free _ _ trivial, Frz.lit _ _ _ _, trivial⟩
    · have e : allR ss = false := by
        unfold allR; rw [show (!eqI (ss.length : Int) 0) = false from h1]; rfl
      rw [if_neg (nt e), if_neg (nt e)]
      exact Frz.tup ⟨Frz.nil _ _ _ _ _, Frz.lit _ _ _ _, trivial⟩)
theorem Sy.print_v2 (ss : List (List PartV)) (h : SelsR ss) (hn : ss.length ≤ 1000) (hl : limT (selsT 0 ss).length) : CallTo Try.prog 7 [sview ss] M0 fun v _ => v = .tup [kv (printT ss), int (printE ss)] :=
  CallTo.frz0 (print_f2 ss h hn hl) ⟨sview_free ss, trivial⟩ ⟨kv_free _, trivial, trivial⟩
noncomputable abbrev Sy.cPrint2 (ss : List (List PartV)) : Con Try.prog := at1 7 [sview ss] (.tup [kv (printT ss), int (printE ss)]) (SelsR ss ∧ ss.length ≤ 1000 ∧ limT (selsT 0 ss).length) fun h => ⟨⟨⟨sview_free ss, trivial⟩, ⟨kv_free _, trivial, trivial⟩⟩, print_v2 ss h.1 h.2.1 h.2.2⟩
theorem tk_kv (l : List TokV) : toksOf l.length (fun i j => AV.lit ([Value.int IntKind.i64 (l.getD i tok0).kind, Value.string (l.getD i tok0).text, Value.int IntKind.i64 (l.getD i tok0).n].getD j (Value.tuple ⟨[]⟩))) = l := toksOf_is (CellIs.kc l)
theorem Sy.tex_t (s : ByteArray) : CallTo Try.prog 4 [.lit (.string s)] M0 fun v _ => v = boo true :=
  toV [cKnown07, cCutA, cParseG, cPrint2 (parseV (cutT s)), cAll7 (parseV (cutT s)), cPri5 (printT (parseV (cutT s))), cSameQ (parseV (cutT (BA (catL (printT (parseV (cutT s))))))) (parseV (cutT s))] [] 400 30 (.br (.yes .done) (.yes (.yes (.br (.br (.auto 2 (.br (.yes (.auto 0 .done)) (.auto 0 .done))) (.auto 4 .done)) (.yes (.yes (.br (.auto 1 (.br .done (.yes (.yes (.yes (.br (.auto 1 (.yes (.auto 0 (.br (.yes (.auto 0 .done)) (.auto 0 .done))))) (.auto 4 .done))))))) (.auto 2 .done)))))))) (let e1 := (@Value.tuple (@Array.mk _ [])); let e2 := (fun y0 => (fun y1 => (@AV.lit ([(@Value.int IntKind.i64 (((@cutT s).getD y0 tok0)).kind), (@Value.string (((@cutT s).getD y0 tok0)).text), (@Value.int IntKind.i64 (((@cutT s).getD y0 tok0)).n)].getD y1 e1)))); let e3 := (@toksOf ((@cutT s)).length e2); let e4 := (@AV.view ((@parseV e3)).length 1 (fun y0 => (fun y1 => (@AV.view (((@parseV (@toksOf ((@cutT s)).length (fun y2 => (fun y3 => (@AV.lit ([(@Value.int IntKind.i64 (((@cutT s).getD y2 tok0)).kind), (@Value.string (((@cutT s).getD y2 tok0)).text), (@Value.int IntKind.i64 (((@cutT s).getD y2 tok0)).n)].getD y3 e1)))))).getD y0 [])).length 6 (@pcell ((@parseV (@toksOf ((@cutT s)).length (fun y2 => (fun y3 => (@AV.lit ([(@Value.int IntKind.i64 (((@cutT s).getD y2 tok0)).kind), (@Value.string (((@cutT s).getD y2 tok0)).text), (@Value.int IntKind.i64 (((@cutT s).getD y2 tok0)).n)].getD y3 e1)))))).getD y0 [])))))); let e5 := (@parseV (@cutT s)); let e6 := (@AV.view (e5).length 1 (fun y0 => (fun y1 => (@AV.view ((e5.getD y0 [])).length 6 (@pcell (e5.getD y0 [])))))); let e7 := ((@HAppend.hAppend _ _ _ _ (@HAppend.hAppend _ _ _ _ [] [e4]) []) = [e6]); let e8 := (@AV.view ((if ((@allR e5) = true) then (@selsT (0 : Int) e5) else [])).length 3 (fun y0 => (fun y1 => (@AV.lit ([(@Value.int IntKind.i64 (((if ((@allR e5) = true) then (@selsT (0 : Int) e5) else []).getD y0 tok0)).kind), (@Value.string (((if ((@allR e5) = true) then (@selsT (0 : Int) e5) else []).getD y0 tok0)).text), (@Value.int IntKind.i64 (((if ((@allR e5) = true) then (@selsT (0 : Int) e5) else []).getD y0 tok0)).n)].getD y1 e1))))); let e9 := (@BA (@catL (if ((@allR e5) = true) then (@selsT (0 : Int) e5) else []))); let e10 := (fun y0 => (fun y1 => (@AV.lit ([(@Value.int IntKind.i64 (((@cutT e9).getD y0 tok0)).kind), (@Value.string (((@cutT e9).getD y0 tok0)).text), (@Value.int IntKind.i64 (((@cutT e9).getD y0 tok0)).n)].getD y1 e1)))); let e11 := (@toksOf ((@cutT e9)).length e10); let e12 := (@parseV (@cutT e9)); (.fork (!(leI (((@ByteArray.size s) : Nat) : Int) (1000 : Int))) (.need (@isSo (@And ((@HAppend.hAppend _ _ _ _ (@HAppend.hAppend _ _ _ _ ([] : List AV) ([] : List AV)) []) = []) True)) (.leaf (boo true))) (.need (@isSo (@And ((@HAppend.hAppend _ _ _ _ (@HAppend.hAppend _ _ _ _ [] [(@AV.lit (@Value.string s))]) []) = [(@AV.lit (@Value.string s))]) ((@ByteArray.size s) ≤ 100000000))) (.need (@isSo (@And (((@cutT s)).length ≤ ((@cutT s)).length) (@And (@TokRows ((@cutT s)).length e2) (@And ((e3).length ≤ 100000) (@ToksOk e3))))) (.fork (!(eqI (@parseE e3) (0 : Int))) (.fork (eqI (@parseE e3) (20 : Int)) (.fork (eqI ((((@parseV e3)).length : Nat) : Int) (0 : Int)) (.need (@isSo (@And ((@HAppend.hAppend _ _ _ _ (@HAppend.hAppend _ _ _ _ ([] : List AV) ([] : List AV)) []) = []) True)) (.leaf (boo true))) (.leaf (boo false))) (.leaf (boo false))) (.need (@isSo (@And e7 (@And (@SelsR e5) (@And ((e5).length ≤ 1000) (((@selsT (0 : Int) e5)).length ≤ 1000000))))) (.need (@isSo (@And e7 (@SelsR e5))) (.fork (!(!(@all7 e5))) (.fork (!(eqI (@printE e5) (0 : Int))) (.leaf (boo false)) (.need (@isSo (@And ((@HAppend.hAppend _ _ _ _ (@HAppend.hAppend _ _ _ _ [] [e8]) []) = [e8]) (@PrOk (if ((@allR e5) = true) then (@selsT (0 : Int) e5) else [])))) (.need (@isSo (@And ((@HAppend.hAppend _ _ _ _ (@HAppend.hAppend _ _ _ _ [] [(@AV.lit (@Value.string e9))]) []) = [(@AV.lit (@Value.string e9))]) ((@ByteArray.size e9) ≤ 100000000))) (.need (@isSo (@And (((@cutT e9)).length ≤ ((@cutT e9)).length) (@And (@TokRows ((@cutT e9)).length e10) (@And ((e11).length ≤ 100000) (@ToksOk e11))))) (.fork (eqI (@parseE e11) (0 : Int)) (.need (@isSo (@And ((@HAppend.hAppend _ _ _ _ (@HAppend.hAppend _ _ _ _ [] [(@AV.view ((@parseV e11)).length 1 (fun y0 => (fun y1 => (@AV.view (((@parseV (@toksOf ((@cutT e9)).length (fun y2 => (fun y3 => (@AV.lit ([(@Value.int IntKind.i64 (((@cutT e9).getD y2 tok0)).kind), (@Value.string (((@cutT e9).getD y2 tok0)).text), (@Value.int IntKind.i64 (((@cutT e9).getD y2 tok0)).n)].getD y3 e1)))))).getD y0 [])).length 6 (@pcell ((@parseV (@toksOf ((@cutT e9)).length (fun y2 => (fun y3 => (@AV.lit ([(@Value.int IntKind.i64 (((@cutT e9).getD y2 tok0)).kind), (@Value.string (((@cutT e9).getD y2 tok0)).text), (@Value.int IntKind.i64 (((@cutT e9).getD y2 tok0)).n)].getD y3 e1)))))).getD y0 [])))))), e4]) []) = [(@AV.view (e12).length 1 (fun y0 => (fun y1 => (@AV.view ((e12.getD y0 [])).length 6 (@pcell (e12.getD y0 [])))))), e6]) (@SelsR e12))) (.fork (@sameQ e12 e5) (.need (@isSo (@And ((@HAppend.hAppend _ _ _ _ (@HAppend.hAppend _ _ _ _ ([] : List AV) ([] : List AV)) []) = []) True)) (.leaf (boo true))) (.leaf (boo false)))) (.leaf (boo false))))))) (.leaf (boo false)))))))))) (by kernel_rfl) (by
    conv => zeta
    refine fork_ok (fun q => need_so ⟨rfl, trivial⟩ rfl) (fun q => ?_)
    simp only [Bool.not_eq_false', leI_t] at q
    have hs : limB s.size := by unfold limB; omega
    have hx := cutT_len s
    have ox := cutT_ok hs
    generalize cutT s = x at *
    have hxl : limC x := show x.length ≤ 100000 by omega
    have hsr := parse_selsR hxl
    have hr := parse_right x
    have hnp := parse_parts hxl
    rw [tk_kv x]
    refine need_so ⟨rfl, hs⟩ (need_so ⟨Nat.le_refl _, TokRows.kc x, hxl, ox⟩ ?_)
    rcases parseE_cases x with ⟨e, hall⟩ | ⟨e, _, ev⟩
    · have hne : (parseV x).length ≠ 0 := by
        unfold parseV
        rw [if_pos hall, pieces_step]
        simp
      rw [e]
      clear hall e
      generalize parseV x = ss at *
      have hge := numP_ge ss hr
      have hnum := sels_num2 ss 0 hr
      have hs1 : ss.length ≤ 1000 := by omega
      have hs2 : (selsT 0 ss).length ≤ 100000 := by omega
      have ra : allR ss = true := by
        unfold allR
        rw [Bool.and_eq_true, Bool.not_eq_true', Bool.not_eq_true', eqI_f]
        refine ⟨by omega, ?_⟩
        unfold anyQ
        rw [List.any_eq_false]
        intro ps hp
        unfold unrightB
        rw [hr ps hp]; simp
      have e1 : printE ss = 0 := by unfold printE; rw [ra]; rfl
      have e2 : (if allR ss = true then selsT 0 ss else []) = selsT 0 ss := by rw [ra]; rfl
      have e3 : all7 ss = true := by rw [all7_eq]; exact ra
      have hcut := sels_cut hr
      obtain ⟨p1, p2⟩ := parse_law hne hr
      have hg := g_sels ss 0 hr
      have hsz := cat_size _ hg
      have hpr : PrOk (selsT 0 ss) := ⟨fun t ht => ⟨(hg t ht).1, by have := (hg t ht).2; unfold limT; omega⟩, sels_chain hr, by unfold limB; omega, by omega⟩
      rw [e1, e2, e3, hcut, tk_kv (selsT 0 ss), p1, p2]
      refine fork_ok (fun z => by simp only [Bool.not_eq_true', eqI_f] at z; exact absurd trivial z) (fun _ => ?_)
      refine need_so ⟨rfl, hsr, hs1, show (selsT 0 ss).length ≤ 1000000 by omega⟩ (need_so ⟨rfl, hsr⟩ ?_)
      refine fork_ok (fun _ => ?_) (fun z => by cases z)
      refine fork_ok (fun z => by simp only [Bool.not_eq_true', eqI_f] at z; exact absurd trivial z) (fun _ => ?_)
      have hb : (BA (catL (selsT 0 ss))).size ≤ 100000000 := by rw [ba_size]; omega
      have ht2 := toksOk_sels ss 0 hsr.2
      refine need_so ⟨rfl, hpr⟩ (need_so ⟨rfl, hb⟩ (need_so ⟨Nat.le_refl _, TokRows.kc _, show _ ≤ 100000 from hs2, ht2⟩ ?_))
      refine fork_ok (fun _ => ?_) (fun z => by rw [eqI_f] at z; exact absurd rfl z)
      refine need_so ⟨rfl, hsr⟩ ?_
      refine fork_ok (fun _ => ?_) (fun z => by rw [sameQ_refl] at z; cases z)
      exact need_so ⟨rfl, trivial⟩ rfl
    · rw [e, ev]
      refine fork_ok (fun _ => ?_) (fun z => by simp only [Bool.not_eq_false', eqI_t] at z; exact absurd z (by decide))
      refine fork_ok (fun _ => ?_) (fun z => by rw [eqI_f] at z; exact absurd rfl z)
      refine fork_ok (fun _ => ?_) (fun z => by rw [eqI_f] at z; exact absurd rfl z)
      exact need_so ⟨rfl, trivial⟩ rfl)
end Go.Proofs.Ytconlneohilnmaa
namespace Go.Proofs.Ytconlneohilnmaa
open Go Go.RowKit Go.ChangeShapes Go.WideShapes Go.ChangeAt Go.Deep
theorem texts_walk {W : World} (s : ByteArray) : Calls Try.prog 4 #[.string s] W fun e w' => e = .returned (.bool true) ∧ Below W.heap.size W w' :=
  law_trueS (Sy.tex_t s) (us := [_]) ⟨_, _, rfl, rfl, rfl⟩
end Go.Proofs.Ytconlneohilnmaa
