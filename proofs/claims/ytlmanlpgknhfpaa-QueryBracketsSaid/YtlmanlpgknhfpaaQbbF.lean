/-
  Lemmas for QueryBrackets, part 6; no conditions.
-/
import Derived.Test.YtlmanlpgknhfpaaQbbE
set_option linter.unusedVariables false
set_option linter.unusedSimpArgs false
namespace Go.Proofs.Ytlmanlpgknhfpaa
open Go Go.RowKit Pl Sy
theorem trm_inn {K : CnK} {T : List TokV} {a : Int} (h : trmB K T a = true) : innB T a = true := by
  unfold trmB at h
  rw [Bool.and_eq_true] at h
  exact h.1
theorem Vw.trm {K : CnK} {T P R : List TokV} {a b : Int} (h : Vw T a P b R) (hT : lim T) (hP : lim P) (hb : trmB K T a = true) : trmB K P b = true ∧ trmN K P b = trmN K T a ∧ Vw T (innA T a) P (innA P b) R := by
  have h0 := trm_inn hb
  obtain ⟨h1, h2, h3⟩ := h.inn hT hP h0
  refine ⟨?_, ?_, h3⟩
  · unfold trmB at hb ⊢
    rw [h1, h2]
    rw [h0] at hb
    exact hb
  · unfold trmN
    rw [h1, h2, h0]
theorem Vw.chn {K : CnK} {T P R : List TokV} (hR : ∀ t ∈ R, t.kind = 20) (hT : lim T) (hP : lim P) (s : ByteArray) : ∀ (n m : Nat) {a b : Int} (xs : List QNodeV) (c : Int), n ≤ m → Vw T a P b R → (chnE K T s n a xs c).ok = true →
    ∃ e, chnE K P s m b xs c = ⟨(chnE K T s n a xs c).N, (chnE K T s n a xs c).c, e, true⟩ ∧ doneB P e = doneB T (chnE K T s n a xs c).a
  | 0, m, a, b, xs, c, hn, h, ho => by
    unfold chnE at ho
    cases ho
  | n + 1, m, a, b, xs, c, hn, h, ho => by
    obtain ⟨m, rfl⟩ : ∃ k, m = k + 1 := ⟨m - 1, by omega⟩
    unfold chnE at ho ⊢
    rw [h.wrd hR]
    by_cases hw : wordB T a s = true
    · rw [if_pos hw] at ho ⊢
      rw [if_pos hw]
      have h1 := h.wrdA hR hw
      by_cases ht : trmB K T (wordA T a s) = true
      · rw [if_pos ht] at ho ⊢
        obtain ⟨h2, h3, h4⟩ := h1.trm hT hP ht
        rw [if_pos h2, h3]
        exact Vw.chn hR hT hP s n m _ _ (by omega) h4 ho
      · rw [if_neg ht] at ho
        cases ho
    · rw [if_neg hw] at ho ⊢
      rw [if_neg hw]
      refine ⟨_, rfl, ?_⟩
      have e1 : wordA T a s = skI T a := by unfold wordA; rw [if_neg hw]
      have e2 : wordA P b s = skI P b := by unfold wordA; rw [if_neg (by rw [h.wrd hR]; exact hw)]
      show doneB P (wordA P b s) = doneB T (wordA T a s)
      rw [e1, e2]
      have e3 := h.dn hR
      unfold doneB at e3 ⊢
      rw [skI_idem ⟨h.1, hT⟩, skI_idem ⟨h.nn, hP⟩]
      exact e3
theorem Vw.c0 {T P R : List TokV} (hR : ∀ t ∈ R, t.kind = 20) {a b : Int} (h : Vw T a P b R) (hi : innB T (cn0 T a) = true) : Vw T (cn0 T a) P (cn0 P b) R := by
  by_cases hw : wordB T a ⟨⟨[110, 111, 116]⟩⟩ = true
  · exact h.wrdA hR hw
  · have e1 : cn0 T a = skI T a := by unfold cn0 wordA; rw [if_neg hw]
    have e2 : cn0 P b = skI P b := by unfold cn0 wordA; rw [if_neg (by rw [h.wrd hR]; exact hw)]
    rw [e1] at hi ⊢
    rw [e2]
    have h1 := skI_le h.1.1 h.1.2
    obtain ⟨h2, _⟩ := inn_open (T := T) (a := skI T a) (by have := h.1; omega) hi
    have h3 := skI_le (T := T) (a := skI T a) (by have := h.1; omega) h1.2
    exact h.skv (by omega)
theorem cond_cases {K : CnK} {T : List TokV} {a : Int} (h : cndB K T a = true) : trmB K T (cn0 T a) = true ∧ (
    (wordB T a ⟨⟨[110, 111, 116]⟩⟩ = true ∧ doneB T (innA T (cn0 T a)) = true ∧ cndN K T a = qNode 3 1 :: trmN K T (cn0 T a)) ∨
    (wordB T a ⟨⟨[110, 111, 116]⟩⟩ = false ∧ doneB T (innA T (cn0 T a)) = true ∧ cndN K T a = trmN K T (cn0 T a)) ∨
    (wordB T a ⟨⟨[110, 111, 116]⟩⟩ = false ∧ doneB T (innA T (cn0 T a)) = false ∧ andB T a = true ∧ andT K T a = true ∧ (cnAnd K T a).ok = true ∧ doneB T (cnAnd K T a).a = true ∧ cndN K T a = qNode 1 (cnAnd K T a).c :: (cnAnd K T a).N) ∨
    (wordB T a ⟨⟨[110, 111, 116]⟩⟩ = false ∧ doneB T (innA T (cn0 T a)) = false ∧ andB T a = false ∧ orB T a = true ∧ orT K T a = true ∧ (cnOr K T a).ok = true ∧ doneB T (cnOr K T a).a = true ∧ cndN K T a = qNode 2 (cnOr K T a).c :: (cnOr K T a).N)) := by
  unfold cndN
  unfold cndB at h
  unfold cnG at h ⊢
  by_cases c1 : wordB T a ⟨⟨[110, 111, 116]⟩⟩ = true
  · simp only [c1, if_true, Bool.and_eq_true] at h ⊢
    exact ⟨h.1, .inl ⟨trivial, h.2, trivial⟩⟩
  · have c1 : wordB T a ⟨⟨[110, 111, 116]⟩⟩ = false := by simpa using c1
    simp only [c1, Bool.false_eq_true, if_false] at h ⊢
    by_cases c2 : trmB K T (cn0 T a) = true
    · simp only [c2, if_true] at h ⊢
      refine ⟨trivial, .inr ?_⟩
      by_cases c3 : doneB T (innA T (cn0 T a)) = true
      · simp only [c3, if_true] at h ⊢
        exact .inl ⟨trivial, trivial, trivial⟩
      · have c3 : doneB T (innA T (cn0 T a)) = false := by simpa using c3
        simp only [c3, Bool.false_eq_true, if_false] at h ⊢
        refine .inr ?_
        by_cases c4 : andB T a = true
        · simp only [c4, if_true] at h ⊢
          by_cases c5 : andT K T a = true
          · simp only [c5, if_true] at h ⊢
            by_cases c6 : (cnAnd K T a).ok = true
            · simp only [c6, if_true] at h ⊢
              exact .inl ⟨trivial, trivial, trivial, trivial, trivial, h, trivial⟩
            · simp [c6] at h
          · simp [c5] at h
        · have c4 : andB T a = false := by simpa using c4
          simp only [c4, Bool.false_eq_true, if_false] at h ⊢
          by_cases c7 : orB T a = true
          · simp only [c7, if_true] at h ⊢
            by_cases c5 : orT K T a = true
            · simp only [c5, if_true] at h ⊢
              by_cases c6 : (cnOr K T a).ok = true
              · simp only [c6, if_true] at h ⊢
                exact .inr ⟨trivial, trivial, trivial, trivial, trivial, trivial, h, trivial⟩
              · simp [c6] at h
            · simp [c5] at h
          · simp [c7] at h
    · simp [c2] at h
theorem Vw.cond {K : CnK} {T P R : List TokV} (hR : ∀ t ∈ R, t.kind = 20) (hT : lim T) (hP : lim P) {a b : Int} (hab : a ≤ b) (h : Vw T a P b R) (hc : cndB K T a = true) : cndB K P b = true ∧ cndN K P b = cndN K T a := by
  obtain ⟨h1, hcs⟩ := cond_cases hc
  have h2 := h.c0 hR (trm_inn h1)
  obtain ⟨h3, h4, h5⟩ := h2.trm hT hP h1
  have hd := h5.dn hR
  have hlen := h.len
  have hb := h.nn
  have ha := h.1
  rcases hcs with ⟨c1, c2, c3⟩ | ⟨c1, c2, c3⟩ | ⟨c1, c2, c3, c4, c5, c6, c7⟩ | ⟨c1, c2, c3, c3', c4, c5, c6, c7⟩
  · obtain ⟨r1, r2⟩ := cond_not (K := K) (T := P) (a := b) (by rw [h.wrd hR]; exact c1) h3 (by rw [hd]; exact c2)
    exact ⟨r1, by rw [r2, c3, h4]⟩
  · obtain ⟨r1, r2⟩ := cond_one (K := K) (T := P) (a := b) (by rw [h.wrd hR]; exact c1) h3 (by rw [hd]; exact c2)
    exact ⟨r1, by rw [r2, c3, h4]⟩
  · have i1 : InT T (innA T (cn0 T a)) := ⟨h5.1, hT⟩
    have i2 : InT P (innA P (cn0 P b)) := ⟨h5.nn, hP⟩
    obtain ⟨l1, l2⟩ := word_lt (T := T) (a := cn1 T a) (skI_in i1).1 c3
    have e0 : skI T (cn1 T a) = cn1 T a := skI_idem i1
    have h6 : Vw T (cn1 T a) P (cn1 P b) R := h5.skv (by rw [e0] at l1; exact l1)
    have w1 : andB P b = true := (h6.wrd hR _).trans c3
    have h7 := h6.wrdA hR c3
    obtain ⟨t1, t2, t3⟩ := h7.trm hT hP c4
    obtain ⟨e, q1, q2⟩ := Vw.chn hR hT hP ⟨⟨[97, 110, 100]⟩⟩ (T.length + 1) (P.length + 1) (trmN K T (cn0 T a) ++ trmN K T (wordA T (cn1 T a) ⟨⟨[97, 110, 100]⟩⟩)) 2 (by omega) t3 c5
    obtain ⟨r1, r2⟩ := cond_and (K := K) (T := P) (a := b) (by rw [h.wrd hR]; exact c1) h3 (by rw [hd]; exact c2) w1 t1 (N := (cnAnd K T a).N) (c := (cnAnd K T a).c) (e := e) (by
      unfold cnAnd chnR
      rw [h4, t2, q1]) (by rw [q2]; exact c6)
    exact ⟨r1, by rw [r2, c7]⟩
  · have i1 : InT T (innA T (cn0 T a)) := ⟨h5.1, hT⟩
    have i2 : InT P (innA P (cn0 P b)) := ⟨h5.nn, hP⟩
    have c3o : wordB T (cn1 T a) ⟨⟨[111, 114]⟩⟩ = true := orB_here (skI_in i1) c3 c3'
    obtain ⟨l1, l2⟩ := word_lt (T := T) (a := cn1 T a) (skI_in i1).1 c3o
    have e0 : skI T (cn1 T a) = cn1 T a := skI_idem i1
    have h6 : Vw T (cn1 T a) P (cn1 P b) R := h5.skv (by rw [e0] at l1; exact l1)
    have w0 : andB P b = false := (h6.wrd hR _).trans c3
    have hw2 : wordA P (cn1 P b) ⟨⟨[97, 110, 100]⟩⟩ = skI P (cn1 P b) := by unfold wordA; rw [if_neg (by rw [show wordB P (cn1 P b) ⟨⟨[97, 110, 100]⟩⟩ = false from w0]; decide)]
    have w1 : orB P b = true := by
      unfold orB
      rw [hw2]
      exact (wordB_skip (skI_in i2) _).trans ((h6.wrd hR _).trans c3o)
    have h7 := h6.wrdA hR c3o
    obtain ⟨t1, t2, t3⟩ := h7.trm hT hP c4
    obtain ⟨e, q1, q2⟩ := Vw.chn hR hT hP ⟨⟨[111, 114]⟩⟩ (T.length + 1) (P.length + 1) (trmN K T (cn0 T a) ++ trmN K T (wordA T (cn1 T a) ⟨⟨[111, 114]⟩⟩)) 2 (by omega) t3 c5
    obtain ⟨r1, r2⟩ := cond_or (K := K) (T := P) (a := b) (by rw [h.wrd hR]; exact c1) h3 (by rw [hd]; exact c2) w0 w1 t1 (N := (cnOr K T a).N) (c := (cnOr K T a).c) (e := e) (by
      unfold cnOr chnR
      rw [h4, t2, q1]) (by rw [q2]; exact c6)
    exact ⟨r1, by rw [r2, c7]⟩
theorem innL_lt (T : List TokV) (a : Int) (hb : innB T a = true) : (innL T a).length < T.length := by
  have h0 : 0 ≤ skI T a := by unfold skI; omega
  have h1 : kindI T (skI T a) = 13 := by
    unfold innB at hb
    rw [Bool.and_eq_true, eqI_t] at hb
    exact hb.1
  have h2 := kindI_in h0 (by rw [h1]; decide)
  unfold innL
  rw [if_pos hb, List.length_take, List.length_drop]
  omega
theorem cnd_congr {K K' : CnK} {T : List TokV} (h : ∀ L : List TokV, L.length < T.length → K.B L = K'.B L ∧ K.N L = K'.N L) (a : Int) : cndB K T a = cndB K' T a ∧ cndN K T a = cndN K' T a := by
  have hB : trmB K T = trmB K' T := by
    funext x
    unfold trmB
    by_cases hb : innB T x = true
    · rw [(h _ (innL_lt T x hb)).1]
    · rw [show innB T x = false by simpa using hb]; rfl
  have hN : trmN K T = trmN K' T := by
    funext x
    unfold trmN
    by_cases hb : innB T x = true
    · rw [(h _ (innL_lt T x hb)).2]
    · rw [if_neg hb, if_neg hb]
  have hC : ∀ (s : ByteArray) (n : Nat) (x : Int) (xs : List QNodeV) (c : Int), chnE K T s n x xs c = chnE K' T s n x xs c := by
    intro s n
    induction n with
    | zero => intro x xs c; rfl
    | succ n ih =>
      intro x xs c
      unfold chnE
      rw [hB, hN]
      split
      · split
        · exact ih _ _ _
        · rfl
      · rfl
  have hR : ∀ (s : ByteArray) (x : Int) (xs : List QNodeV), chnR K T s x xs = chnR K' T s x xs := fun s x xs => by
    unfold chnR
    rw [hN, hC]
  unfold cndB cndN cnG
  unfold cnAnd cnOr andT orT
  rw [hB, hN]
  simp only [hR]
  exact ⟨trivial, trivial⟩
theorem cndK_same : ∀ (m : Nat) (L : List TokV), L.length ≤ m → ∀ n, L.length ≤ n → cndB (cndK n) L 0 = cdB L 0 ∧ cndN (cndK n) L 0 = cdN L 0
  | 0, L, hm, n, hn => by
    exact cnd_congr (fun L' h => by omega) 0
  | m + 1, L, hm, n, hn => by
    refine cnd_congr (fun L' h => ?_) 0
    obtain ⟨n, rfl⟩ : ∃ k, n = k + 1 := ⟨n - 1, by omega⟩
    obtain ⟨k, hk⟩ : ∃ k, L.length = k + 1 := ⟨L.length - 1, by omega⟩
    rw [hk]
    have h1 := cndK_same m L' (by omega) n (by omega)
    have h2 := cndK_same m L' (by omega) k (by omega)
    exact ⟨h1.1.trans h2.1.symm, h1.2.trans h2.2.symm⟩
def cdK : CnK := ⟨fun L => cdN L 0, fun L => cdB L 0, fun L => 0, fun L => False⟩
theorem cd_eq (T : List TokV) (a : Int) : cdB T a = cndB cdK T a ∧ cdN T a = cndN cdK T a := by
  refine cnd_congr (fun L h => ?_) a
  obtain ⟨k, hk⟩ : ∃ k, T.length = k + 1 := ⟨T.length - 1, by omega⟩
  rw [hk]
  exact cndK_same L.length L (Nat.le_refl _) k (by omega)
end Go.Proofs.Ytlmanlpgknhfpaa
namespace Go.Proofs.Ytlmanlpgknhfpaa
open Go Go.RowKit Pl Sy
theorem trim_ends {T l r : List TokV} {t u : TokV} (h1 : T = t :: l) (h2 : T = r ++ [u]) (ht : spB t = false) (hu : spB u = false) : trim T = T := by
  unfold trim
  have e1 : T.dropWhile spB = T := by rw [h1, List.dropWhile_cons, if_neg (by rw [ht]; decide)]
  rw [e1]
  have e2 : T.reverse.dropWhile spB = T.reverse := by rw [h2, List.reverse_append]; show List.dropWhile spB (u :: r.reverse) = _; rw [List.dropWhile_cons, if_neg (by rw [hu]; decide)]; rfl
  rw [e2, List.reverse_reverse]
end Go.Proofs.Ytlmanlpgknhfpaa
namespace Go.Proofs.Ytlmanlpgknhfpaa
open Go Go.RowKit Pl Sy
def GoR (T : List TokV) (a c : Int) : Prop := (0 ≤ a ∧ a ≤ c ∧ c ≤ T.length) ∧ ∀ (P : List TokV) (b : Int) (R : List TokV) (st : List Int), Vw T a P b R → Pl.runs (kindsT P) b.toNat (14 :: st) = Pl.runs (kindsT P) (b + (c - a)).toNat (14 :: st)
theorem GoR.refl {T : List TokV} {a : Int} (h : 0 ≤ a ∧ a ≤ T.length) : GoR T a a := ⟨by omega, fun P b R st hv => by rw [show b + (a - a) = b by omega]⟩
theorem GoR.trans {T : List TokV} {a c d : Int} (h : GoR T a c) (h' : GoR T c d) : GoR T a d := by
  obtain ⟨h1, h2⟩ := h
  obtain ⟨h3, h4⟩ := h'
  refine ⟨by omega, fun P b R st hv => ?_⟩
  rw [h2 P b R st hv, h4 P _ R st (hv.to h1.2.1 h1.2.2)]
  congr 2
  omega
theorem GoR.one {T : List TokV} {a : Int} (h0 : 0 ≤ a) (hl : a < T.length) (hc : clo (kindI T a) = 0) (hk : kindI T a ≠ 14) : GoR T a (a + 1) := by
  refine ⟨by omega, fun P b R st hv => ?_⟩
  have hP := hv.cons hl
  have ek : (T.getD a.toNat tok0).kind = kindI T a := ((Vw.refl hv.1).cons hl).kind.symm
  have hb := hv.nn
  rw [runs_step _ hP.kin, hP.kget hP.kin, ek, if_neg (by rw [hc]; decide)]
  show (if _ then _ else _) = _
  rw [if_neg hk]
  congr 1
  omega
theorem GoR.sk {T : List TokV} : ∀ (n : Nat) {a : Int}, T.length - a.toNat ≤ n → 0 ≤ a → a ≤ T.length → GoR T a (skI T a)
  | n, a, hn, h0, h1 => by
    by_cases ha : a < T.length
    · have hT := (Vw.refl (T := T) ⟨h0, h1⟩).cons ha
      by_cases hs : (T.getD a.toNat tok0).kind = 20
      · rw [hT.sp hs]
        cases n with
        | zero => omega
        | succ n =>
          have hk : kindI T a = 20 := hT.kind.trans hs
          exact (GoR.one h0 ha (by rw [hk]; decide) (by rw [hk]; decide)).trans (GoR.sk n (a := a + 1) (by omega) (by omega) (by omega))
      · rw [hT.ns hs]
        exact GoR.refl ⟨h0, h1⟩
    · have h2 := skI_le h0 h1
      rw [show skI T a = a by omega]
      exact GoR.refl ⟨h0, h1⟩
theorem GoR.wrd {T : List TokV} {a : Int} (h : 0 ≤ a ∧ a ≤ T.length) (s : ByteArray) : GoR T a (wordA T a s) := by
  have hs := GoR.sk _ (Nat.le_refl _) h.1 h.2
  by_cases hw : wordB T a s = true
  · obtain ⟨h1, h2⟩ := word_lt h hw
    rw [h2]
    have hk : kindI T (skI T a) = 1 := by
      unfold wordB at hw
      rw [Bool.and_eq_true, eqI_t] at hw
      exact hw.1
    have hle := skI_le h.1 h.2
    have h0 := h.1
    exact hs.trans (GoR.one (by omega) h1 (by rw [hk]; decide) (by rw [hk]; decide))
  · have e : wordA T a s = skI T a := by unfold wordA; rw [if_neg hw]
    rw [e]
    exact hs
theorem GoR.inn {T : List TokV} {a : Int} (h : InT T a) (hb : innB T a = true) : GoR T a (innA T a) := by
  have hs := GoR.sk _ (Nat.le_refl _) h.1.1 h.1.2
  obtain ⟨h1, h2⟩ := inn_open h.1 hb
  have h3 := inn_in h hb
  have h4 := skI_le h.1.1 h.1.2
  have h0 := h.1.1
  refine hs.trans ?_
  unfold innA
  rw [if_pos hb]
  refine ⟨by omega, fun P b R st hv => ?_⟩
  have hP := hv.cons h1
  have ek : (T.getD (skI T a).toNat tok0).kind = 13 := ((Vw.refl hv.1).cons h1).kind.symm.trans h2
  have hb := hv.nn
  have hlen := hv.len
  have e1 : innE T a = (Pl.runs (kindsT T) ((skI T a).toNat + 1) [14] : Nat) := mt_open ⟨by omega, h1⟩ h2
  have h5 := Vw.runs _ (a := skI T a + 1) (b := b + 1) [14] (Nat.le_refl _) (hv.add (by omega) (by omega))
  rw [show (skI T a + 1).toNat = (skI T a).toNat + 1 by omega, show (b + 1).toNat = b.toNat + 1 by omega] at h5
  have h6 := h5 (by omega)
  have hkP := kindsT_len P
  rw [runs_step _ hP.kin, hP.kget hP.kin, ek, if_pos (by decide)]
  show Pl.runs (kindsT P) (b.toNat + 1) (14 :: 14 :: st) = _
  rw [runs_under _ _ _ _ _ _ (Nat.le_refl _), if_pos (by omega)]
  congr 1
  omega
theorem GoR.chn {K : CnK} {T : List TokV} (hT : lim T) (s : ByteArray) : ∀ (n : Nat) {a : Int} (xs : List QNodeV) (c : Int), 0 ≤ a ∧ a ≤ T.length → (chnE K T s n a xs c).ok = true → GoR T a (chnE K T s n a xs c).a
  | 0, a, xs, c, h, ho => by
    unfold chnE at ho
    cases ho
  | n + 1, a, xs, c, h, ho => by
    unfold chnE at ho ⊢
    have h1 := GoR.wrd h s
    by_cases hw : wordB T a s = true
    · rw [if_pos hw] at ho ⊢
      by_cases ht : trmB K T (wordA T a s) = true
      · rw [if_pos ht] at ho ⊢
        have h0 := h1.1
        have h2 := GoR.inn (T := T) (a := wordA T a s) ⟨by omega, hT⟩ (trm_inn ht)
        have h3 := h2.1
        exact (h1.trans h2).trans (GoR.chn hT s n _ _ (by omega) ho)
      · rw [if_neg ht] at ho
        cases ho
    · rw [if_neg hw]
      exact h1
theorem GoR.dn {T : List TokV} {a : Int} (h : 0 ≤ a ∧ a ≤ T.length) (hd : doneB T a = true) : GoR T a T.length := by
  have hs := GoR.sk _ (Nat.le_refl _) h.1 h.2
  unfold doneB at hd
  rw [eqI_t] at hd
  rw [hd] at hs
  exact hs
theorem GoR.cond {K : CnK} {T : List TokV} {a : Int} (h : InT T a) (hc : cndB K T a = true) : GoR T a T.length := by
  obtain ⟨h1, hcs⟩ := cond_cases hc
  have g0 : GoR T a (cn0 T a) := GoR.wrd h.1 _
  have g0' := g0.1
  have g1 := GoR.inn (T := T) (a := cn0 T a) ⟨by omega, h.2⟩ (trm_inn h1)
  have g1' := g1.1
  have g := g0.trans g1
  have gd : doneB T (innA T (cn0 T a)) = true → GoR T a T.length := fun hd => g.trans (GoR.dn (by omega) hd)
  have gc : ∀ s, wordB T (cn1 T a) s = true → trmB K T (wordA T (cn1 T a) s) = true → (chnR K T s (cn1 T a) (trmN K T (cn0 T a))).ok = true → doneB T (chnR K T s (cn1 T a) (trmN K T (cn0 T a))).a = true → GoR T a T.length := fun s q1 q2 q3 q4 => by
    have g2 : GoR T (innA T (cn0 T a)) (cn1 T a) := GoR.sk _ (Nat.le_refl _) (by omega) (by omega)
    have g2' := g2.1
    have g3 := GoR.wrd (T := T) (a := cn1 T a) (by omega) s
    have g3' := g3.1
    have g4 := GoR.inn (T := T) (a := wordA T (cn1 T a) s) ⟨by omega, h.2⟩ (trm_inn q2)
    have g4' := g4.1
    have g5 := GoR.chn h.2 s (T.length + 1) (trmN K T (cn0 T a) ++ trmN K T (wordA T (cn1 T a) s)) 2 (a := innA T (wordA T (cn1 T a) s)) (by omega) q3
    have g5' := g5.1
    exact g.trans (g2.trans (g3.trans (g4.trans (g5.trans (GoR.dn (by omega) q4)))))
  rcases hcs with ⟨c1, c2, c3⟩ | ⟨c1, c2, c3⟩ | ⟨c1, c2, c3, c4, c5, c6, c7⟩ | ⟨c1, c2, c3, c3', c4, c5, c6, c7⟩
  · exact gd c2
  · exact gd c2
  · exact gc _ c3 c4 c5 c6
  · have i1 : InT T (innA T (cn0 T a)) := ⟨by omega, h.2⟩
    exact gc _ (orB_here (skI_in i1) c3 c3') c4 c5 c6
theorem noft_k {T : List TokV} {a : Int} (h : InT T a) (hk : kindI T (skI T a) = 13) : ftB T a = false := by
  have b0 : ftB0 T a = false := by
    unfold ftB0
    rw [hk]
    rfl
  have s1 : skI T (skI T a) = skI T a := skI_idem h
  unfold ftB
  rw [b0]
  simp only [Bool.false_eq_true, if_false]
  have n1 : numbB T (skI T a) = false := by unfold numbB; rw [hk]; rfl
  have n2 : pxB T (skI T a) = false := by unfold pxB; rw [hk]; rfl
  have hv : ∀ f, f ≠ 6 → bnB T (skI T a) f = false := by
    intro f hf
    unfold bnB
    rw [s1, show eqI f 6 = false by rw [eqI_f]; exact hf]
    simp only [Bool.false_eq_true, if_false]
    split
    · unfold ratB
      rw [n1]
      split <;> rfl
    · unfold lenB
      rw [n1, n2]
      rfl
  unfold bkB bkG
  split
  · rfl
  · split
    · rfl
    · split
      · rfl
      · rename_i h6
        rw [hv _ (by intro e; rw [eqI_t] at h6; exact h6 e)]
        rfl
theorem noft_n {T : List TokV} {a : Int} (hw : wordB T a ⟨⟨[110, 111, 116]⟩⟩ = true) : ftB T a = false := by
  unfold wordB at hw
  rw [Bool.and_eq_true, byE_t] at hw
  have b0 : ftB0 T a = true := hw.1
  unfold ftB
  rw [b0]
  simp only [if_true]
  unfold frB frG
  have f1 : frF T (skI T a) = 0 := by
    unfold frF
    have e : (T.getD (skI T a).toNat tok0).text = ⟨⟨[110, 111, 116]⟩⟩ := by
      generalize (T.getD (skI T a).toNat tok0).text = x at hw
      obtain ⟨⟨l⟩⟩ := x
      have := hw.2
      simp only at this
      rw [this]
    rw [e]
    decide
  rw [f1]
  rfl
theorem noft {K : CnK} {T : List TokV} {a : Int} (h : InT T a) (hc : cndB K T a = true) : ftB T a = false := by
  obtain ⟨h1, hcs⟩ := cond_cases hc
  by_cases hw : wordB T a ⟨⟨[110, 111, 116]⟩⟩ = true
  · exact noft_n hw
  · have e : cn0 T a = skI T a := by unfold cn0 wordA; rw [if_neg hw]
    rw [e] at h1
    have h2 := skI_in h
    obtain ⟨_, h3⟩ := inn_open h2.1 (trm_inn h1)
    rw [skI_idem h] at h3
    exact noft_k h h3
def brk (l : List TokV) : List TokV := opnT :: (l ++ [cloT])
theorem brk_len (l : List TokV) : (brk l).length = l.length + 2 := by
  unfold brk
  simp only [List.length_cons, List.length_append, List.length_nil]
theorem brk_cond {l : List TokV} (hl : lim l) (hc : cdB l 0 = true) : cdB (brk l) 0 = true ∧ cdN (brk l) 0 = cdN l 0 := by
  have hB := brk_len l
  have a0 : At (brk l) 0 (opnT :: (l ++ [cloT])) := At.zero _
  have i0 : InT l 0 := ⟨⟨Int.le_refl 0, by omega⟩, hl⟩
  have hc' : cndB cdK l 0 = true := by rw [← (cd_eq l 0).1]; exact hc
  have hg := GoR.cond i0 hc'
  have hv : Vw l 0 (brk l) 1 [cloT] := ⟨i0.1, a0.tail⟩
  have hr := hg.2 (brk l) 1 [cloT] [] hv
  rw [show (1 + ((l.length : Int) - 0)).toNat = 1 + l.length by omega] at hr
  have a1 : At (brk l) (1 + l.length) [cloT] := hv.2.app
  have e : (1 + l.length : Nat) = (1 + (l.length : Int)).toNat := by omega
  have hm : mtI (brk l) 0 = 1 + l.length := by
    rw [mt_open ⟨Int.le_refl 0, by omega⟩ a0.kind]
    show ((Pl.runs (kindsT (brk l)) (1 : Int).toNat [14] : Nat) : Int) = _
    rw [hr, runs_step (k := 1 + l.length) _ (by rw [e]; exact a1.kin)]
    have ek : (kindsT (brk l))[1 + l.length]'(by rw [e]; exact a1.kin) = 14 := by
      have := a1.kget a1.kin
      simp only [← e] at this
      exact this
    rw [ek, if_neg (by decide)]
    show ((1 + l.length : Nat) : Int) = _
    omega
  have s0 : skI (brk l) 0 = 0 := a0.ns (by decide)
  have hE : innE (brk l) 0 = 1 + l.length := by unfold innE; rw [s0]; exact hm
  have b : innB (brk l) 0 = true := by
    unfold innB
    rw [s0, a0.kind, hE, Bool.and_eq_true]
    exact ⟨rfl, by rw [Bool.not_eq_true', eqI_f]; omega⟩
  have hL : innL (brk l) 0 = l := by
    unfold innL
    rw [if_pos b, hE, s0, show (1 : Int) + l.length - (0 + 1) = l.length by omega, Int.toNat_natCast]
    show (List.drop 1 (brk l)).take l.length = l
    exact List.take_left
  have hA : innA (brk l) 0 = 1 + l.length + 1 := by
    unfold innA
    rw [if_pos b, hE]
  have w := At.noword (T := brk l) (a := 0) (s := ⟨⟨[110, 111, 116]⟩⟩) (by rw [s0]; exact a0) (.inl (by decide))
  have c0 : cn0 (brk l) 0 = 0 := w.2.trans s0
  have hf := noft i0 hc'
  have ht : trmB cdK (brk l) 0 = true := by
    unfold trmB
    rw [b, hL, hf]
    exact hc
  have hN : trmN cdK (brk l) 0 = cdN l 0 := by
    unfold trmN
    rw [if_pos b, hL, if_neg (by rw [hf]; decide)]
    rfl
  obtain ⟨r1, r2⟩ := cond_one (K := cdK) w.1 (by rw [c0]; exact ht) (by rw [c0, hA]; exact a1.tail.done)
  rw [(cd_eq _ 0).1, (cd_eq _ 0).2]
  exact ⟨r1, by rw [r2, c0, hN]⟩
theorem cnd_sk {K : CnK} {T : List TokV} {a b : Int} (h : skI T a = skI T b) : cndB K T a = cndB K T b ∧ cndN K T a = cndN K T b := by
  have e1 : ∀ s, wordB T a s = wordB T b s := fun s => by unfold wordB; rw [h]
  have e2 : cn0 T a = cn0 T b := by unfold cn0 wordA; rw [e1, h]
  have e3 : cn1 T a = cn1 T b := by unfold cn1; rw [e2]
  unfold cndB cndN cnG cnAnd cnOr andT orT andB orB
  simp only [e1, e2, e3]
  exact ⟨trivial, trivial⟩
theorem sk_pre {P : List TokV} : ∀ {L r : List TokV} {b : Int}, (∀ t ∈ L, t.kind = 20) → At P b (L ++ r) → skI P b = skI P (b + L.length)
  | [], r, b, _, h => by rw [List.length_nil, show b + ((0 : Nat) : Int) = b by omega]
  | t :: L, r, b, hL, h => by
    have h : At P b (t :: (L ++ r)) := h
    rw [h.sp (hL t List.mem_cons_self), sk_pre (fun u hu => hL u (List.mem_cons_of_mem _ hu)) h.tail, List.length_cons]
    congr 1
    omega
theorem sp_while : ∀ (l : List TokV), ∀ t ∈ l.takeWhile spB, t.kind = 20
  | [], t, ht => by cases ht
  | x :: l, t, ht => by
    rw [List.takeWhile_cons] at ht
    split at ht
    · rename_i hx
      rcases List.mem_cons.mp ht with rfl | h1
      · unfold spB at hx
        rw [eqI_t] at hx
        exact hx
      · exact sp_while l t h1
    · cases ht
theorem trim_mid (l : List TokV) : ∃ pre post, l = pre ++ (trim l ++ post) ∧ (∀ t ∈ pre, t.kind = 20) ∧ ∀ t ∈ post, t.kind = 20 := by
  refine ⟨l.takeWhile spB, ((l.dropWhile spB).reverse.takeWhile spB).reverse, ?_, sp_while l, fun t ht => sp_while _ t (List.mem_reverse.1 ht)⟩
  unfold trim
  rw [← List.reverse_append, List.takeWhile_append_dropWhile, List.reverse_reverse, List.takeWhile_append_dropWhile]
theorem trim_cond {l : List TokV} (hl : lim l) (hc : cdB (trim l) 0 = true) : cdB l 0 = true ∧ cdN l 0 = cdN (trim l) 0 := by
  obtain ⟨pre, post, e, h1, h2⟩ := trim_mid l
  have hlen : pre.length + ((trim l).length + post.length) = l.length := by
    have := congrArg List.length e
    simp only [List.length_append] at this
    omega
  have a0 : At l 0 (pre ++ (trim l ++ post)) := ⟨⟨Int.le_refl 0, by omega⟩, by show List.drop 0 l = _; rw [List.drop_zero]; exact e⟩
  have a1 := a0.app
  have hT : lim (trim l) := by unfold lim at hl ⊢; omega
  have hv : Vw (trim l) 0 l (0 + pre.length) post := ⟨⟨Int.le_refl 0, by omega⟩, a1⟩
  have hc' : cndB cdK (trim l) 0 = true := by rw [← (cd_eq _ 0).1]; exact hc
  obtain ⟨r1, r2⟩ := hv.cond h2 hT hl (by omega) hc'
  obtain ⟨q1, q2⟩ := cnd_sk (K := cdK) (sk_pre h1 a0)
  rw [(cd_eq l 0).1, (cd_eq l 0).2, (cd_eq (trim l) 0).2, q1, q2]
  exact ⟨r1, r2⟩
def brkN : Nat → List TokV → List TokV
  | 0, l => l
  | n + 1, l => brkN n (brk l)
theorem brkN_succ : ∀ (n : Nat) (l : List TokV), brkN (n + 1) l = brk (brkN n l)
  | 0, _ => rfl
  | n + 1, l => brkN_succ n (brk l)
theorem brkN_len : ∀ (n : Nat) (l : List TokV), (brkN n l).length = l.length + 2 * n
  | 0, _ => rfl
  | n + 1, l => by
    show (brkN n (brk l)).length = _
    rw [brkN_len n, brk_len]
    omega
theorem brkN_cond : ∀ (n : Nat) {l : List TokV}, lim (brkN n l) → cdB l 0 = true → cdB (brkN n l) 0 = true ∧ cdN (brkN n l) 0 = cdN l 0
  | 0, l, _, h => ⟨h, rfl⟩
  | n + 1, l, hl, h => by
    have h0 := brkN_len (n + 1) l
    have hl' : lim l := by unfold lim at hl ⊢; omega
    obtain ⟨r1, r2⟩ := brk_cond hl' h
    obtain ⟨q1, q2⟩ := brkN_cond n hl r1
    exact ⟨q1, q2.trans r2⟩
theorem brk_read {l : List TokV} (n : Nat) (hl : lim (brkN n l)) (hq : qName (trim l) = false) (he : rdE l = 0) : rdS (brkN n l) = rdS l ∧ rdN (brkN n l) = rdN l ∧ rdE (brkN n l) = 0 := by
  cases n with
  | zero => exact ⟨rfl, rfl, he⟩
  | succ n =>
    have h0 := brkN_len (n + 1) l
    have hl' : lim l := by unfold lim at hl ⊢; omega
    have hp : psB (trim l) = true := by
      unfold rdE at he
      by_cases hb : psB (trim l) = true
      · exact hb
      · rw [if_neg hb] at he
        exact absurd he (by decide)
    have eA : psA (trim l) = 0 := by unfold psA; rw [if_neg (by rw [hq]; decide)]
    have eS : psS (trim l) = ⟨#[]⟩ := by unfold psS; rw [if_neg (by rw [hq]; decide)]
    have hp' := hp
    unfold psB psN at hp'
    rw [eA, eS, Bool.and_eq_true] at hp'
    obtain ⟨t1, t2⟩ := trim_cond hl' hp'.1
    obtain ⟨r1, r2⟩ := brkN_cond (n + 1) hl t1
    rw [brkN_succ] at r1 r2 ⊢
    generalize hM : brkN n l = M at r1 r2
    have hz : At (brk M) 0 (opnT :: (M ++ [cloT])) := At.zero _
    have eT : trim (brk M) = brk M := trim_ends (t := opnT) (u := cloT) (l := M ++ [cloT]) (r := opnT :: M) rfl rfl rfl rfl
    have eq : qName (brk M) = false := by unfold qName; rw [hz.kind]; rfl
    have eA' : psA (brk M) = 0 := by unfold psA; rw [if_neg (by rw [eq]; decide)]
    have eS' : psS (brk M) = ⟨#[]⟩ := by unfold psS; rw [if_neg (by rw [eq]; decide)]
    have eN : cdN (brk M) 0 = cdN (trim l) 0 := r2.trans t2
    have hB : psB (brk M) = true := by
      unfold psB psN
      rw [eA', eS', eN, r1, hp'.2]
      rfl
    unfold rdS rdN rdE
    rw [eT, if_pos hB, if_pos hB, if_pos hB, if_pos hp, if_pos hp, eS', eS]
    refine ⟨rfl, ?_, rfl⟩
    unfold psN
    rw [eA', eA, eN]
end Go.Proofs.Ytlmanlpgknhfpaa
namespace Go.Proofs.Ytlmanlpgknhfpaa
open Go Go.RowKit Pl Sy
namespace Sy
abbrev seF (s t : ByteArray) (xs ys : List QNodeV) (k : Int) : Fr := (none :: none :: some ((@AV.ptr 0 0)) :: some ((@AV.ptr (0 + 1) 0)) :: some ((boo false)) :: some (int k) :: (nn32 []))
abbrev seM (s t : ByteArray) (xs ys : List QNodeV) : Mem := (@Mem.mk ((0 + 1) + 1) 0 [(some (@Blk.mk [(@AV.lit (@Value.string t)), (@qview ys)] 24 none)), (some (@Blk.mk [(@AV.lit (@Value.string s)), (@qview xs)] 24 none))])
abbrev seG (s t : ByteArray) (xs ys : List QNodeV) : Fr := (none :: none :: some ((@AV.ptr 0 0)) :: some ((@AV.ptr (0 + 1) 0)) :: some ((boo false)) :: (nn33 []))
end Sy
noncomputable def eqN (x y : QNodeV) : Bool := ((eqI x.kind y.kind) && ((eqI x.count y.count) && ((eqI x.feat y.feat) && (((eqI x.lo y.lo) && ((eqI x.ln y.ln) && ((eqI x.ld y.ld) && true))) && (((eqI x.ho y.ho) && ((eqI x.hn y.hn) && ((eqI x.hd y.hd) && true))) && true)))))
noncomputable def eqFrom : List QNodeV → List QNodeV → Bool
  | x :: l, y :: m => eqN x y && eqFrom l m
  | _, _ => true
theorem eqFrom_self : ∀ l, eqFrom l l = true
  | [] => rfl
  | x :: l => by rw [eqFrom, eqFrom_self l]; unfold eqN; simp only [eqI_self]; rfl
theorem bytesEq_self : ∀ l, bytesEq l l = true := fun l => by
  induction l with
  | nil => rfl
  | cons x l ih => simp [bytesEq, ih]
theorem Sy.loopSe (s t : ByteArray) (xs ys : List QNodeV) (hx : xs.length ≤ 17592186044416) : ∀ (r r2 pre pre2 : List QNodeV) (k : Int), xs = pre ++ r → ys = pre2 ++ r2 → k = pre.length → pre2.length = pre.length → r2.length = r.length →
    LoopTo Try.prog (theBody Try.prog 12 5) (r.length + 1) (seF s t xs ys k) (seM s t xs ys) fun ex F M => M = seM s t xs ys ∧ ((eqFrom r r2 = true ∧ ex = .exit 0 ∧ ∃ j, F = seF s t xs ys j) ∨ (eqFrom r r2 = false ∧ ex = .ret ∧ ∃ j, F = seF s t xs ys j)) := by
  intro r
  induction r with
  | nil =>
    intro r2 pre pre2 k hxs hys hk hp hr
    have hl : xs.length = pre.length := by rw [hxs]; simp
    refine roundL [] [] 400 30 12 5 Try.func12 rfl (by kernel_rfl) (false :: false :: true :: true :: true :: true :: (ff32 [])) (.br (.yes (.yes (.br .done .done))) .done) (let e1 := (@Mem.mk 2 0 [(some (@Blk.mk [(@AV.lit (@Value.string t)), (@qview ys)] 24 none)), (some (@Blk.mk [(@AV.lit (@Value.string s)), (@qview xs)] 24 none))]); (.fork (!(leI (((xs).length : Nat) : Int) k)) (.need (@inR k (xs).length) (.need (@inR k (ys).length) (.fork (!((eqI ((xs.getD (k).toNat QNodeV.zero)).kind ((ys.getD (k).toNat QNodeV.zero)).kind) && ((eqI ((xs.getD (k).toNat QNodeV.zero)).count ((ys.getD (k).toNat QNodeV.zero)).count) && ((eqI ((xs.getD (k).toNat QNodeV.zero)).feat ((ys.getD (k).toNat QNodeV.zero)).feat) && (((eqI ((xs.getD (k).toNat QNodeV.zero)).lo ((ys.getD (k).toNat QNodeV.zero)).lo) && ((eqI ((xs.getD (k).toNat QNodeV.zero)).ln ((ys.getD (k).toNat QNodeV.zero)).ln) && ((eqI ((xs.getD (k).toNat QNodeV.zero)).ld ((ys.getD (k).toNat QNodeV.zero)).ld) && true))) && (((eqI ((xs.getD (k).toNat QNodeV.zero)).ho ((ys.getD (k).toNat QNodeV.zero)).ho) && ((eqI ((xs.getD (k).toNat QNodeV.zero)).hn ((ys.getD (k).toNat QNodeV.zero)).hn) && ((eqI ((xs.getD (k).toNat QNodeV.zero)).hd ((ys.getD (k).toNat QNodeV.zero)).hd) && true))) && true)))))) (.leaf (Ex.ret, ((none :: none :: (some (@AV.ptr 0 0)) :: (some (@AV.ptr 1 0)) :: (some (boo false)) :: (some (int k)) :: (nn32 [])), e1))) (.leaf (Ex.norm, ((none :: none :: (some (@AV.ptr 0 0)) :: (some (@AV.ptr 1 0)) :: (some (boo false)) :: (some (int (w64 (k + (1 : Int))))) :: (nn32 [])), e1)))))) (.leaf ((@Ex.exit 0), ((none :: none :: (some (@AV.ptr 0 0)) :: (some (@AV.ptr 1 0)) :: (some (boo false)) :: (some (int k)) :: (nn32 [])), e1))))) (by kernel_rfl) ?_
    refine fork_ok (fun h => ?_) (fun h => ⟨rfl, .inl ⟨rfl, rfl, k, rfl⟩⟩)
    simp only [Bool.not_eq_true', Bool.not_eq_false', leI_t, leI_f, eqI_t, eqI_f, inR_t, inR_f, isSo_t, isSo_f] at h
    omega
  | cons x r ih =>
    intro r2 pre pre2 k hxs hys hk hp hr
    cases r2 with
    | nil => simp at hr
    | cons y r2 =>
      have hl : xs.length = pre.length + r.length + 1 := by rw [hxs]; simp; omega
      have hl2 : ys.length = pre.length + r.length + 1 := by
        rw [hys]
        simp only [List.length_append, List.length_cons] at hr ⊢
        omega
      have hg : xs.getD k.toNat QNodeV.zero = x := by rw [hxs]; exact getD_at _ _ _ _ _ hk
      have hg2 : ys.getD k.toNat QNodeV.zero = y := by rw [hys]; exact getD_at _ _ _ _ _ (by omega)
      refine roundL [] [] 400 30 12 5 Try.func12 rfl (by kernel_rfl) (false :: false :: true :: true :: true :: true :: (ff32 [])) (.br (.yes (.yes (.br .done .done))) .done) (let e1 := (@Mem.mk 2 0 [(some (@Blk.mk [(@AV.lit (@Value.string t)), (@qview ys)] 24 none)), (some (@Blk.mk [(@AV.lit (@Value.string s)), (@qview xs)] 24 none))]); (.fork (!(leI (((xs).length : Nat) : Int) k)) (.need (@inR k (xs).length) (.need (@inR k (ys).length) (.fork (!((eqI ((xs.getD (k).toNat QNodeV.zero)).kind ((ys.getD (k).toNat QNodeV.zero)).kind) && ((eqI ((xs.getD (k).toNat QNodeV.zero)).count ((ys.getD (k).toNat QNodeV.zero)).count) && ((eqI ((xs.getD (k).toNat QNodeV.zero)).feat ((ys.getD (k).toNat QNodeV.zero)).feat) && (((eqI ((xs.getD (k).toNat QNodeV.zero)).lo ((ys.getD (k).toNat QNodeV.zero)).lo) && ((eqI ((xs.getD (k).toNat QNodeV.zero)).ln ((ys.getD (k).toNat QNodeV.zero)).ln) && ((eqI ((xs.getD (k).toNat QNodeV.zero)).ld ((ys.getD (k).toNat QNodeV.zero)).ld) && true))) && (((eqI ((xs.getD (k).toNat QNodeV.zero)).ho ((ys.getD (k).toNat QNodeV.zero)).ho) && ((eqI ((xs.getD (k).toNat QNodeV.zero)).hn ((ys.getD (k).toNat QNodeV.zero)).hn) && ((eqI ((xs.getD (k).toNat QNodeV.zero)).hd ((ys.getD (k).toNat QNodeV.zero)).hd) && true))) && true)))))) (.leaf (Ex.ret, ((none :: none :: (some (@AV.ptr 0 0)) :: (some (@AV.ptr 1 0)) :: (some (boo false)) :: (some (int k)) :: (nn32 [])), e1))) (.leaf (Ex.norm, ((none :: none :: (some (@AV.ptr 0 0)) :: (some (@AV.ptr 1 0)) :: (some (boo false)) :: (some (int (w64 (k + (1 : Int))))) :: (nn32 [])), e1)))))) (.leaf ((@Ex.exit 0), ((none :: none :: (some (@AV.ptr 0 0)) :: (some (@AV.ptr 1 0)) :: (some (boo false)) :: (some (int k)) :: (nn32 [])), e1))))) (by kernel_rfl) ?_
      have hr1 : inR k xs.length = true := by rw [inR_t]; omega
      have hr2 : inR k ys.length = true := by rw [inR_t]; omega
      rw [hg, hg2]
      refine fork_ok (fun h => need_t hr1 (need_t hr2 (fork_ok (fun h2 => ?_) (fun h2 => ?_)))) (fun h => ?_)
      · have h3 : (!eqN x y) = true := h2
        have hw : eqFrom (x :: r) (y :: r2) = false := by rw [eqFrom]; cases he : eqN x y with
          | false => rfl
          | true => rw [he] at h3; cases h3
        exact ⟨rfl, .inr ⟨hw, rfl, k, rfl⟩⟩
      · have h3 : (!eqN x y) = false := h2
        have hw : eqFrom (x :: r) (y :: r2) = eqFrom r r2 := by rw [eqFrom]; cases he : eqN x y with
          | true => rfl
          | false => rw [he] at h3; cases h3
        rw [w64_in (r := k + 1) (by omega)]
        refine (ih r2 (pre ++ [x]) (pre2 ++ [y]) (k + 1) (by rw [hxs]; simp) (by rw [hys]; simp) (by simp; omega) (by simp; omega) (by simpa using hr)).mono fun ex F M hg => ?_
        rw [hw]
        exact hg
      · simp only [Bool.not_eq_true', Bool.not_eq_false', leI_t, leI_f, eqI_t, eqI_f, inR_t, inR_f, isSo_t, isSo_f] at h
        omega
namespace Sy
noncomputable abbrev lpSe (s t : ByteArray) (xs ys : List QNodeV) : Lp Try.prog where
  f := 12
  key := 5
  S := formS (fun F M => slotI F 5) (fun k => seF s t xs ys k) (fun _ => seM s t xs ys) (fun k => xs.length ≤ 17592186044416 ∧ k = 0 ∧ ys.length = xs.length) (fun k => .fork (eqFrom xs ys) (.leaf (.exit 0, seG s t xs ys, seM s t xs ys)) (.leaf (.ret, seG s t xs ys, seM s t xs ys))) (false :: false :: true :: true :: true :: true :: (ff32 []))
  one := by kernel_rfl
  ok := formS_ok fun k ⟨h1, h2, h3⟩ => by
    subst h2
    refine ⟨xs.length + 1, ?_⟩
    have h6 := Sy.loopSe s t xs ys h1 xs ys [] [] 0 rfl rfl rfl rfl h3
    refine (h6.out (false :: false :: true :: true :: true :: (ff33 []))).mono fun ex F M hg => ?_
    obtain ⟨F0, ⟨hM, hg⟩, rfl⟩ := hg
    rcases hg with ⟨q1, rfl, k', rfl⟩ | ⟨q1, rfl, k', rfl⟩
    · exact .inl ⟨q1, by rw [hM]; rfl⟩
    · exact .inr ⟨q1, by rw [hM]; rfl⟩
end Sy
noncomputable def sameQ (s t : ByteArray) (xs ys : List QNodeV) : Bool := bytesEq s.data.toList t.data.toList && (decide (xs.length = ys.length) && eqFrom xs ys)
theorem Sy.ser_t (s t : ByteArray) (xs ys : List QNodeV) (hx : xs.length ≤ 17592186044416) : CallTo Try.prog 12 [Sy.query s xs, Sy.query t ys] M0 fun v _ => v = boo (sameQ s t xs ys) :=
  toV [] [lpSe s t xs ys] 400 30 (.br (.auto 6 (.br .done (.br .done .done))) (.auto 7 .done)) (let e1 := (some (@Blk.mk [(@AV.lit (@Value.string t)), (@qview ys)] 24 none)); let e2 := (some (@Blk.mk [(@AV.lit (@Value.string s)), (@qview xs)] 24 none)); (.fork (!(!(@bytesEq (@Array.toList _ (@ByteArray.data s)) (@Array.toList _ (@ByteArray.data t))))) (.fork (!(eqI (((xs).length : Nat) : Int) (((ys).length : Nat) : Int))) (.leaf (boo false)) (.need (@isSo (@And ((none :: none :: ((some (@AV.ptr 0 0)) :: (some (@AV.ptr (0 + 1) 0)) :: (some (boo false)) :: (some (int (0 : Int))) :: (nn32 []))) = (none :: none :: (some (@AV.ptr 0 0)) :: (some (@AV.ptr 1 0)) :: (some (boo false)) :: (some (int (0 : Int))) :: (nn32 []))) ((@Mem.mk ((0 + 1) + 1) 0 [e1, e2]) = (@Mem.mk 2 0 [e1, e2])))) (.need (@isSo (@And ((xs).length ≤ 17592186044416) (@And ((0 : Int) = (0 : Int)) ((ys).length = (xs).length)))) (.fork (@eqFrom xs ys) (.leaf (boo true)) (.leaf (boo false)))))) (.leaf (boo false)))) (by kernel_rfl) (by
    unfold sameQ
    refine fork_ok (fun h0 => fork_ok (fun h => ?_) (fun h => need_so ⟨rfl, rfl⟩ (need_so ⟨hx, rfl, ?_⟩ (fork_ok (fun h2 => ?_) (fun h2 => ?_))))) (fun h0 => ?_)
    · simp only [Bool.not_eq_true', Bool.not_eq_false', leI_t, leI_f, eqI_t, eqI_f, inR_t, inR_f, isSo_t, isSo_f] at h
      rw [decide_eq_false (by omega), Bool.false_and, Bool.and_false]; exact rfl
    · simp only [Bool.not_eq_true', Bool.not_eq_false', leI_t, leI_f, eqI_t, eqI_f, inR_t, inR_f, isSo_t, isSo_f] at h
      omega
    · simp only [Bool.not_eq_true', Bool.not_eq_false', leI_t, leI_f, eqI_t, eqI_f, inR_t, inR_f, isSo_t, isSo_f] at h
      have h0' : bytesEq s.data.toList t.data.toList = true := by simpa using h0
      rw [decide_eq_true (by omega), h2, h0']; exact rfl
    · simp only [Bool.not_eq_true', Bool.not_eq_false', leI_t, leI_f, eqI_t, eqI_f, inR_t, inR_f, isSo_t, isSo_f] at h
      rw [h2, Bool.and_false, Bool.and_false]; exact rfl
    · have h0' : bytesEq s.data.toList t.data.toList = false := by simpa using h0
      rw [h0']; exact rfl)
namespace Sy
end Sy
theorem sameQ_self (s : ByteArray) (xs : List QNodeV) : sameQ s s xs xs = true := by
  unfold sameQ
  rw [bytesEq_self, decide_eq_true rfl, eqFrom_self]
  rfl
end Go.Proofs.Ytlmanlpgknhfpaa
namespace Go.Proofs.Ytlmanlpgknhfpaa
open Go Go.RowKit Go.ChangeShapes Go.WideShapes Go.ChangeAt Go.Deep
section
variable {H : Type} {enc : TypeId × Value → H} {W : World}
end
theorem Sy.law_true {f : FuncId} {args : List Sy.AV} {us : List Value} {W : World} (h : Sy.CallTo Try.prog f args Sy.M0 fun v _ => v = Sy.boo true) (hr : Sy.rels (Sy.rho0 W) args us) : Calls Try.prog f us.toArray W fun e w' => e = .returned (.bool true) ∧ Below W.heap.size W w' :=
  ((h.mono (H := fun v _ => ∃ u, v = .lit u ∧ u = .bool true) fun v _ e => ⟨_, e, rfl⟩).calls hr).mono fun e w' ⟨⟨u, h1, h2⟩, h3⟩ => ⟨by rw [h1, h2], h3⟩
end Go.Proofs.Ytlmanlpgknhfpaa
namespace Go.Proofs.Ytlmanlpgknhfpaa
open Go Go.RowKit Pl Sy
noncomputable abbrev Sy.cKnown08 : Con Try.prog := at1 6 [] (boo true) True fun _ => ⟨⟨trivial, trivial⟩, (CallTo.of_calls (us := []) known08 M0).mono fun _ _ h => h.1⟩
noncomputable abbrev Sy.cSer (s t : ByteArray) (xs ys : List QNodeV) : Con Try.prog := at1 12 [Sy.query s xs, Sy.query t ys] (boo (sameQ s t xs ys)) (xs.length ≤ 17592186044416) fun h => ⟨⟨⟨qv_free s xs, qv_free t ys, trivial⟩, trivial⟩, ser_t s t xs ys h⟩
noncomputable abbrev Sy.cQpsG : Con Try.prog := conG 9 (fun l => .tup [query (rdS l) (rdN l), int (rdE l)]) (fun l => limC l ∧ TxtOk l) fun l h => ⟨⟨query_free _ _, trivial, trivial⟩, qps_v l h.1 h.2⟩
namespace Sy
abbrev brV (L : List TokV) (c i : Int) : Fr := (none :: some (int c) :: none :: none :: none :: some (kv L) :: some ((@AV.ptr 0 0)) :: none :: some (int i) :: (nn5 (nn48 [])))
abbrev brO (b n : Nat) (c i : Int) : Fr := (none :: some (int c) :: none :: none :: none :: some (.own b n 3) :: some ((@AV.ptr 0 0)) :: none :: some (int i) :: (nn5 (nn48 [])))
abbrev qBk (s : ByteArray) (xs : List QNodeV) : Blk := ⟨[.lit (.string s), qview xs], 24, none⟩
abbrev brM0 (s : ByteArray) (xs : List QNodeV) (t : Nat) : Mem := ⟨1, t, [some (qBk s xs)]⟩
abbrev brM1 (s : ByteArray) (xs : List QNodeV) (L : List TokV) : Mem := ⟨2, 0, [some (rowB L.length (kcell L)), some (qBk s xs)]⟩
end Sy
theorem Sy.brO_ren (b b' n n' : Nat) (c i i' : Int) (σ : Nat → Option Nat) (h : i = i') (hn : n = n') (h0 : σ 0 = some 0) (h1 : σ b' = some b) : RenF σ (brO b n c i) (brO b' n' c i') := by
  subst h hn
  simp only [RenF, and_true]
  exact ⟨rfl, ⟨h1, rfl, rfl⟩, ⟨h0, rfl⟩, rfl⟩
theorem Sy.brM_ren {M : Mem} {s : ByteArray} {xs : List QNodeV} {l : List Nat} {b n : Nat} {cell : Nat → Nat → AV} {L : List TokV} (hl : l = [0, b]) (hb0 : b ≠ 0) (h0 : M.get 0 = some (qBk s xs)) (h2 : M.get b = some (rowB n cell)) (hc : CellIs n cell L) : RenM (nm l) M (brM1 s xs L) := by
  subst hl
  exact .of rfl rfl (by simp; omega) ⟨⟨b, _, rfl, h2, rfl, trivial, hc.1.symm, rfl, fun i j hi hj => rowsAt hc _ hi hj⟩, ⟨0, _, rfl, h0, rfl, RenVs.free _ ⟨trivial, qview_free xs, trivial⟩, trivial⟩, trivial⟩
theorem brk_mid (L : List TokV) : [opnT] ++ L ++ [cloT] = brk L := rfl
theorem Sy.br_own (s : ByteArray) (xs : List QNodeV) (c : Int) (hc : c ≤ 7) : ∀ (n : Nat) (i : Int) (L : List TokV), c - i = n → 0 ≤ i → L.length + 2 * n ≤ 1000 →
    LoopToT 1 Try.prog (theBody Try.prog 5 10) (n + 1) (brO 1 L.length c i) (brM1 s xs L) fun ex F2 M2 => ex = .exit 0 ∧ F2 = brO 1 (brkN n L).length c c ∧ M2 = brM1 s xs (brkN n L) := by
  intro n
  induction n with
  | zero =>
    intro i L h1 h2 h3
    refine roundT plain mixed 1 [] [] 400 30 5 10 Try.func5 rfl (by kernel_rfl) (false :: true :: false :: false :: false :: true :: true :: false :: true :: (ff5 (ff48 []))) (.br (.yes (.yes .done)) .done) (let e1 := (some (@Blk.mk [] 40 (some (@Rw.mk (L).length 3 (@kcell L))))); let e2 := (1 + (L).length); let e3 := (@Value.string (@ByteArray.mk (@Array.mk _ []))); let e4 := (@Value.int IntKind.i64 (0 : Int)); let e5 := (@Array.toList _ (@Array.mk _ [e4, e3, e4])); let e6 := (@List.drop _ 1 (@List.map _ _ AV.lit e5)); let e7 := (@List.map _ _ AV.lit (@Array.toList _ (@Array.mk _ [(@List.get _ e5 (@Fin.mk _ 0 (@Nat.le_of_ble_eq_true _ _ (@Eq.refl _ true)))), (@List.get _ e5 (@Fin.mk _ 1 (@Nat.le_of_ble_eq_true _ _ (@Eq.refl _ true)))), (@List.get _ e5 (@Fin.mk _ 2 (@Nat.le_of_ble_eq_true _ _ (@Eq.refl _ true))))]))); let e8 := ((int (14 : Int)) :: (@AV.lit e3) :: (int (0 : Int)) :: (@List.drop _ (0 + (((int (14 : Int)) :: e6)).length) e7)); let e9 := (some (@Blk.mk [(@AV.lit (@Value.string s)), (@qview xs)] 24 none)); (.fork (!(leI c i)) (.need ((@Option.rec _ (fun _ => Bool) true (fun y0 => (@Option.rec _ (fun _ => Bool) true (fun y1 => (@Nat.ble (L).length (y1).n)) (y0).rows)) e1) && ((@Nat.ble 1 1) && ((@Nat.ble (e2 * 32) 140737488355328) && (@Nat.ble e2 17592186044416)))) (.need (Bool.true && ((@Nat.ble e2 e2) && ((@Nat.ble ((e2 + 1) * 32) 140737488355328) && (@Nat.ble (e2 + 1) 17592186044416)))) (.leaf (Ex.norm, ((none :: (some (int c)) :: none :: none :: none :: (some (@AV.own (((2 + 1) + 1) + 1) (e2 + 1) 3)) :: (some (@AV.ptr 0 0)) :: none :: (some (int (w64 (i + (1 : Int))))) :: (nn5 (nn48 []))), (@Mem.mk ((((2 + 1) + 1) + 1) + 1) (((0 + 1) + 1) + 1) ((some (@Blk.mk [] 40 (some (@Rw.mk (e2 + 1) 3 (@appc e2 (@appc 1 (fun y0 => (fun y1 => (@getA ((int (13 : Int)) :: (@AV.lit e3) :: (int (0 : Int)) :: (@List.drop _ (0 + (((int (13 : Int)) :: e6)).length) e7)) ((y0 * 3) + y1)))) (@kcell L)) (fun y0 => (fun y1 => (@getA (@List.take _ 3 e8) ((y0 * 3) + y1))))))))) :: ((some (@Blk.mk e8 40 none)) :: none :: [none, e1, e9])))))))) (.leaf ((@Ex.exit 0), ((none :: (some (int c)) :: none :: none :: none :: (some (@AV.own 1 (L).length 3)) :: (some (@AV.ptr 0 0)) :: none :: (some (int i)) :: (nn5 (nn48 []))), (@Mem.mk 2 0 [e1, e9])))))) (by kernel_rfl) ?_
    refine fork_ok (fun q => ?_) (fun q => ?_)
    · simp only [Bool.not_eq_true', Bool.not_eq_false', leI_t, leI_f, eqI_t, eqI_f, inR_t, inR_f, isSo_t, isSo_f] at q
      omega
    · exact ⟨rfl, by rw [show i = c by omega]; rfl, rfl⟩
  | succ n ih =>
    intro i L h1 h2 h3
    refine roundT plain mixed 1 [] [] 400 30 5 10 Try.func5 rfl (by kernel_rfl) (false :: true :: false :: false :: false :: true :: true :: false :: true :: (ff5 (ff48 []))) (.br (.yes (.yes .done)) .done) (let e1 := (some (@Blk.mk [] 40 (some (@Rw.mk (L).length 3 (@kcell L))))); let e2 := (1 + (L).length); let e3 := (@Value.string (@ByteArray.mk (@Array.mk _ []))); let e4 := (@Value.int IntKind.i64 (0 : Int)); let e5 := (@Array.toList _ (@Array.mk _ [e4, e3, e4])); let e6 := (@List.drop _ 1 (@List.map _ _ AV.lit e5)); let e7 := (@List.map _ _ AV.lit (@Array.toList _ (@Array.mk _ [(@List.get _ e5 (@Fin.mk _ 0 (@Nat.le_of_ble_eq_true _ _ (@Eq.refl _ true)))), (@List.get _ e5 (@Fin.mk _ 1 (@Nat.le_of_ble_eq_true _ _ (@Eq.refl _ true)))), (@List.get _ e5 (@Fin.mk _ 2 (@Nat.le_of_ble_eq_true _ _ (@Eq.refl _ true))))]))); let e8 := ((int (14 : Int)) :: (@AV.lit e3) :: (int (0 : Int)) :: (@List.drop _ (0 + (((int (14 : Int)) :: e6)).length) e7)); let e9 := (some (@Blk.mk [(@AV.lit (@Value.string s)), (@qview xs)] 24 none)); (.fork (!(leI c i)) (.need ((@Option.rec _ (fun _ => Bool) true (fun y0 => (@Option.rec _ (fun _ => Bool) true (fun y1 => (@Nat.ble (L).length (y1).n)) (y0).rows)) e1) && ((@Nat.ble 1 1) && ((@Nat.ble (e2 * 32) 140737488355328) && (@Nat.ble e2 17592186044416)))) (.need (Bool.true && ((@Nat.ble e2 e2) && ((@Nat.ble ((e2 + 1) * 32) 140737488355328) && (@Nat.ble (e2 + 1) 17592186044416)))) (.leaf (Ex.norm, ((none :: (some (int c)) :: none :: none :: none :: (some (@AV.own (((2 + 1) + 1) + 1) (e2 + 1) 3)) :: (some (@AV.ptr 0 0)) :: none :: (some (int (w64 (i + (1 : Int))))) :: (nn5 (nn48 []))), (@Mem.mk ((((2 + 1) + 1) + 1) + 1) (((0 + 1) + 1) + 1) ((some (@Blk.mk [] 40 (some (@Rw.mk (e2 + 1) 3 (@appc e2 (@appc 1 (fun y0 => (fun y1 => (@getA ((int (13 : Int)) :: (@AV.lit e3) :: (int (0 : Int)) :: (@List.drop _ (0 + (((int (13 : Int)) :: e6)).length) e7)) ((y0 * 3) + y1)))) (@kcell L)) (fun y0 => (fun y1 => (@getA (@List.take _ 3 e8) ((y0 * 3) + y1))))))))) :: ((some (@Blk.mk e8 40 none)) :: none :: [none, e1, e9])))))))) (.leaf ((@Ex.exit 0), ((none :: (some (int c)) :: none :: none :: none :: (some (@AV.own 1 (L).length 3)) :: (some (@AV.ptr 0 0)) :: none :: (some (int i)) :: (nn5 (nn48 []))), (@Mem.mk 2 0 [e1, e9])))))) (by kernel_rfl) ?_
    refine fork_ok (fun q => ?_) (fun q => ?_)
    · refine need_t (by show (Nat.ble L.length L.length && (Nat.ble 1 1 && (Nat.ble ((1 + L.length) * 32) 140737488355328 && Nat.ble (1 + L.length) 17592186044416))) = true; simp only [Bool.and_eq_true, Nat.ble_eq]; omega) (need_t (by simp only [Bool.and_eq_true, Nat.ble_eq, true_and]; omega) ?_)
      have key := ih (i + 1) (brk L) (by omega) (by omega) (by rw [brk_len]; omega)
      exact LoopToT.ren [0, 5] rfl (brO_ren 5 1 _ _ c _ _ _ (w64_in (by omega)) (by rw [brk_len]; omega) rfl rfl) (brM_ren (b := 5) rfl (by decide) rfl rfl (CellIs.cast (CellIs.app3 (X := [cloT]) (CellIs.app (L := [opnT]) (X := L) ⟨rfl, (fun i j hi hj => by
        rcases i with _ | i
        · rcases j with _ | _ | _ | j
          · exact rfl
          · exact rfl
          · exact rfl
          · omega
        · omega)⟩ (CellIs.kc L)) rfl (fun i j hi hj => by
        rcases i with _ | i
        · rcases j with _ | _ | _ | j
          · exact rfl
          · exact rfl
          · exact rfl
          · omega
        · omega)) (brk_mid L))) key
    · simp only [Bool.not_eq_true', Bool.not_eq_false', leI_t, leI_f, eqI_t, eqI_f, inR_t, inR_f, isSo_t, isSo_f] at q
      omega
theorem Sy.br_all (s : ByteArray) (xs : List QNodeV) (L : List TokV) (c i : Int) (m : Nat) (hm : m ≤ 7) (hcm : c = m) (hi : i = 0) (hL : L.length ≤ 500) (t : Nat) :
    LoopToT 1 Try.prog (theBody Try.prog 5 10) (m + 1) (brV L c i) (brM0 s xs t) fun ex F2 M2 => ex = .exit 0 ∧ ((m = 0 ∧ F2 = brV L c i ∧ M2 = brM0 s xs 0) ∨ (0 < m ∧ F2 = brO 1 (brkN m L).length c c ∧ M2 = brM1 s xs (brkN m L))) := by
  refine LoopToT.stamp 0 ?_
  refine roundT plain mixed 1 [] [] 400 30 5 10 Try.func5 rfl (by kernel_rfl) (false :: true :: false :: false :: false :: true :: true :: false :: true :: (ff5 (ff48 []))) (.br (.yes (.yes .done)) .done) (let e1 := (1 + (L).length); let e2 := (@Value.string (@ByteArray.mk (@Array.mk _ []))); let e3 := (@Value.int IntKind.i64 (0 : Int)); let e4 := (@Array.toList _ (@Array.mk _ [e3, e2, e3])); let e5 := (@List.drop _ 1 (@List.map _ _ AV.lit e4)); let e6 := (@List.map _ _ AV.lit (@Array.toList _ (@Array.mk _ [(@List.get _ e4 (@Fin.mk _ 0 (@Nat.le_of_ble_eq_true _ _ (@Eq.refl _ true)))), (@List.get _ e4 (@Fin.mk _ 1 (@Nat.le_of_ble_eq_true _ _ (@Eq.refl _ true)))), (@List.get _ e4 (@Fin.mk _ 2 (@Nat.le_of_ble_eq_true _ _ (@Eq.refl _ true))))]))); let e7 := (fun y0 => (fun y1 => (@AV.lit ([(@Value.int IntKind.i64 ((L.getD y0 tok0)).kind), (@Value.string ((L.getD y0 tok0)).text), (@Value.int IntKind.i64 ((L.getD y0 tok0)).n)].getD y1 (@Value.tuple (@Array.mk _ [])))))); let e8 := ((int (14 : Int)) :: (@AV.lit e2) :: (int (0 : Int)) :: (@List.drop _ (0 + (((int (14 : Int)) :: e5)).length) e6)); let e9 := (some (@Blk.mk [(@AV.lit (@Value.string s)), (@qview xs)] 24 none)); (.fork (!(leI c i)) (.need (Bool.true && ((@Nat.ble 1 1) && ((@Nat.ble (e1 * 32) 140737488355328) && (@Nat.ble e1 17592186044416)))) (.need (Bool.true && ((@Nat.ble e1 e1) && ((@Nat.ble ((e1 + 1) * 32) 140737488355328) && (@Nat.ble (e1 + 1) 17592186044416)))) (.leaf (Ex.norm, ((none :: (some (int c)) :: none :: none :: none :: (some (@AV.own (((1 + 1) + 1) + 1) (e1 + 1) 3)) :: (some (@AV.ptr 0 0)) :: none :: (some (int (w64 (i + (1 : Int))))) :: (nn5 (nn48 []))), (@Mem.mk ((((1 + 1) + 1) + 1) + 1) (((0 + 1) + 1) + 1) ((some (@Blk.mk [] 40 (some (@Rw.mk (e1 + 1) 3 (@appc e1 (@appc 1 (fun y0 => (fun y1 => (@getA ((int (13 : Int)) :: (@AV.lit e2) :: (int (0 : Int)) :: (@List.drop _ (0 + (((int (13 : Int)) :: e5)).length) e6)) ((y0 * 3) + y1)))) e7) (fun y0 => (fun y1 => (@getA (@List.take _ 3 e8) ((y0 * 3) + y1))))))))) :: ((some (@Blk.mk e8 40 none)) :: none :: [none, e9])))))))) (.leaf ((@Ex.exit 0), ((none :: (some (int c)) :: none :: none :: none :: (some (@AV.view (L).length 3 e7)) :: (some (@AV.ptr 0 0)) :: none :: (some (int i)) :: (nn5 (nn48 []))), (@Mem.mk 1 0 [e9])))))) (by kernel_rfl) ?_
  refine fork_ok (fun q => ?_) (fun q => ?_)
  · simp only [Bool.not_eq_true', Bool.not_eq_false', leI_t, leI_f, eqI_t, eqI_f, inR_t, inR_f, isSo_t, isSo_f] at q
    obtain ⟨n, rfl⟩ : ∃ n, m = n + 1 := ⟨m - 1, by omega⟩
    refine need_t (by simp only [Bool.and_eq_true, Nat.ble_eq, true_and]; omega) (need_t (by simp only [Bool.and_eq_true, Nat.ble_eq, true_and]; omega) ?_)
    have key := br_own s xs c (by omega) n (i + 1) (brk L) (by omega) (by omega) (by rw [brk_len]; omega)
    exact LoopToT.ren [0, 4] rfl (brO_ren 4 1 _ _ _ _ _ _ (w64_in (by omega)) (by rw [brk_len]; omega) rfl rfl) (brM_ren (b := 4) rfl (by decide) rfl rfl (CellIs.cast (CellIs.app3 (X := [cloT]) (CellIs.app (L := [opnT]) (X := L) ⟨rfl, (fun i j hi hj => by
        rcases i with _ | i
        · rcases j with _ | _ | _ | j
          · exact rfl
          · exact rfl
          · exact rfl
          · omega
        · omega)⟩ (CellIs.kc L)) rfl (fun i j hi hj => by
        rcases i with _ | i
        · rcases j with _ | _ | _ | j
          · exact rfl
          · exact rfl
          · exact rfl
          · omega
        · omega)) (brk_mid L))) (key.mono fun ex F M hg => ⟨hg.1, .inr ⟨by omega, hg.2.1, hg.2.2⟩⟩)
  · simp only [Bool.not_eq_true', Bool.not_eq_false', leI_t, leI_f, eqI_t, eqI_f, inR_t, inR_f, isSo_t, isSo_f] at q
    exact ⟨rfl, .inl ⟨by omega, rfl, rfl⟩⟩
namespace Sy
noncomputable abbrev lpBr0 (s : ByteArray) (xs : List QNodeV) (L : List TokV) (c : Int) : Lp Try.prog where
  f := 5
  key := 10
  S := formS (fun F M => some M.stamp) (fun _ => brV L c 0) (fun t => brM0 s xs t) (fun _ => c = 0 ∧ L.length ≤ 500) (fun _ => .leaf (.exit 0, brV L c 0, brM0 s xs 0)) (false :: true :: false :: false :: false :: true :: true :: false :: true :: (ff5 (ff48 [])))
  one := by kernel_rfl
  ok := formS_ok fun t h => by
    refine ⟨0 + 1, ?_⟩
    refine (LoopToT.to (br_all s xs L c 0 0 (by omega) h.1 rfl h.2 t) (Nat.le_refl _)).mono fun ex F M hg => ?_
    obtain ⟨rfl, ⟨_, rfl, rfl⟩ | ⟨h1, _⟩⟩ := hg
    · rfl
    · omega
noncomputable abbrev lpBr1 (s : ByteArray) (xs : List QNodeV) (L : List TokV) (c : Int) : Lp Try.prog where
  f := 5
  key := 10
  S := formS (fun F M => some M.stamp) (fun _ => brV L c 0) (fun t => brM0 s xs t) (fun _ => (1 ≤ c ∧ c ≤ 7) ∧ L.length ≤ 500) (fun _ => .leaf (.exit 0, brO 1 (brkN c.toNat L).length c c, brM1 s xs (brkN c.toNat L))) (false :: true :: false :: false :: false :: true :: true :: false :: true :: (ff5 (ff48 [])))
  one := by kernel_rfl
  ok := formS_ok fun t h => by
    refine ⟨c.toNat + 1, ?_⟩
    refine (LoopToT.to (br_all s xs L c 0 c.toNat (by omega) (by omega) rfl h.2 t) (Nat.le_refl _)).mono fun ex F M hg => ?_
    obtain ⟨rfl, ⟨h1, _⟩ | ⟨_, rfl, rfl⟩⟩ := hg
    · omega
    · rfl
end Sy
def nibI (n : Int) : Int := IntKind.i64.wrap ((Nat.land (n % 18446744073709551616).toNat 7 : Nat) : Int)
theorem nibI_le (n : Int) : 0 ≤ nibI n ∧ nibI n ≤ 7 := by
  have h : Nat.land (n % 18446744073709551616).toNat 7 ≤ 7 := Nat.and_le_right
  unfold nibI
  generalize Nat.land (n % 18446744073709551616).toNat 7 = x at *
  rw [show IntKind.i64.wrap (x : Int) = (x : Int) from IntWalk.i64_in _ (by omega)]
  omega
theorem tk_kv (l : List TokV) : toksOf l.length (fun i j => AV.lit ([Value.int IntKind.i64 (l.getD i tok0).kind, Value.string (l.getD i tok0).text, Value.int IntKind.i64 (l.getD i tok0).n].getD j (Value.tuple ⟨[]⟩))) = l := toksOf_is (CellIs.kc l)
theorem name_pos (s : ByteArray) (a : Int) (h0 : 0 ≤ a) (h1 : a < s.size) (hk : (nameT s a).1.kind = 1) : 1 ≤ (nameT s a).1.text.size := by
  unfold nameT at hk ⊢
  split at hk
  · rename_i c
    rw [if_pos c]
    have h2 := spnI_pos goesB s a h0 h1 (starts_lt c).2
    have h3 := (spnI_bd goesB s a h0).2.1 (by omega)
    split at hk
    · exact absurd (show (2 : Int) = 1 from hk) (by decide)
    · rename_i c2
      rw [if_neg c2]
      show 1 ≤ (s.extract a.toNat (a + spnI goesB s a).toNat).size
      rw [ByteArray.size_extract]
      omega
  · split at hk
    · exfalso
      have hk : sgnI (byteAt s a.toNat) = 1 := hk
      unfold sgnI at hk
      repeat' (split at hk)
      all_goals exact absurd hk (by decide)
    · exact absurd (show (19 : Int) = 1 from hk) (by decide)
theorem one_id (s : ByteArray) (a : Int) (h0 : 0 ≤ a) (h1 : a < s.size) (hk : oneK s a = 1) : 1 ≤ (oneX s a).size := by
  unfold oneK oneT at hk
  unfold oneX oneT
  split at hk
  · exact absurd (show (0 : Int) = 1 from hk) (by decide)
  · rename_i c1
    rw [if_neg c1]
    split at hk
    · exact absurd (show (20 : Int) = 1 from hk) (by decide)
    · rename_i c2
      rw [if_neg c2]
      split at hk
      · exfalso
        have hk : quoK s a = 1 := hk
        unfold quoK at hk
        repeat' (split at hk)
        all_goals exact absurd hk (by decide)
      · rename_i c3
        rw [if_neg c3]
        split at hk
        · exfalso
          have hk : meaK s a (numI s a) = 1 := hk
          unfold meaK at hk
          repeat' (split at hk)
          all_goals exact absurd hk (by decide)
        · rename_i c4
          rw [if_neg c4]
          unfold hashT atT at hk ⊢
          split at hk
          · exact absurd (show (4 : Int) = 1 from hk) (by decide)
          · rename_i c5
            rw [if_neg c5]
            split at hk
            · exact absurd (show (3 : Int) = 1 from hk) (by decide)
            · rename_i c6
              rw [if_neg c6]
              exact name_pos s a h0 h1 hk
theorem cuN_id (s : ByteArray) : ∀ (n : Nat) (a : Int), 0 ≤ a → ∀ t ∈ cuN s n a, t.kind = 1 → 1 ≤ t.text.size
  | 0, _, _, _, h, _ => by cases h
  | n + 1, a, h0, t, h, hk => by
    unfold cuN at h
    split at h
    · rename_i h1
      rcases List.mem_append.1 h with h | h
      · split at h
        · cases h
        · simp only [List.mem_cons, List.not_mem_nil, or_false] at h
          subst h
          exact one_id s a h0 h1 hk
      · have := one_le s a h0 h1
        exact cuN_id s n _ (by omega) t h hk
    · cases h
theorem trim_mem {l : List TokV} {t : TokV} (h : t ∈ trim l) : t ∈ l := by
  obtain ⟨pre, post, e, _, _⟩ := trim_mid l
  rw [e]
  exact List.mem_append_right _ (List.mem_append_left _ h)
theorem noname {s : ByteArray} (he : rdE (cutT s) = 0) (hs : (rdS (cutT s)).data.toList = []) : qName (trim (cutT s)) = false := by
  have hp : psB (trim (cutT s)) = true := by
    unfold rdE at he
    by_cases hb : psB (trim (cutT s)) = true
    · exact hb
    · rw [if_neg hb] at he
      exact absurd he (by decide)
  by_cases hq : qName (trim (cutT s)) = true
  · exfalso
    unfold rdS psS at hs
    rw [if_pos hp, if_pos hq] at hs
    have hq' := hq
    unfold qName at hq'
    rw [Bool.and_eq_true, eqI_t] at hq'
    have hlt := kindI_in (T := trim (cutT s)) (a := 0) (Int.le_refl 0) (by rw [hq'.1]; decide)
    have hm : (trim (cutT s)).getD 0 tok0 ∈ trim (cutT s) := by
      rw [List.getD_eq_getElem?_getD, List.getElem?_eq_getElem (by omega)]
      exact List.getElem_mem _
    have hk : ((trim (cutT s)).getD 0 tok0).kind = 1 := by
      have := hq'.1
      unfold kindI at this
      rw [if_neg (by rw [leI_t]; omega)] at this
      exact this
    have h1 := cuN_id s s.size 0 (Int.le_refl 0) _ (trim_mem hm) hk
    have h2 : ((trim (cutT s)).getD 0 tok0).text.data.toList = [] := hs
    have h3 : ((trim (cutT s)).getD 0 tok0).text.size = 0 := by
      generalize ((trim (cutT s)).getD 0 tok0).text = x at h2
      obtain ⟨⟨l⟩⟩ := x
      simp only at h2
      subst h2
      rfl
    omega
  · simpa using hq
theorem rdN_len {l : List TokV} (h : limC l) (ht : TxtOk l) : (rdN l).length ≤ 100000 := by
  have h1 := trim_len l
  unfold limC at h
  unfold rdN
  split
  · have := cdN_len (trim l) (by unfold limC; omega) ht.trim (a := psA (trim l)) ⟨by
      unfold psA qName
      split
      · rename_i hq
        rw [Bool.and_eq_true, eqI_t] at hq
        have hlt := kindI_in (T := trim l) (a := 0) (Int.le_refl 0) (by rw [hq.1]; decide)
        omega
      · omega, by unfold lim; omega⟩
    unfold psN
    omega
  · exact Nat.zero_le _
theorem brkN_txt {l : List TokV} (h : TxtOk l) : ∀ (n : Nat), TxtOk (brkN n l)
  | 0 => h
  | n + 1 => by
    rw [brkN_succ]
    intro t ht
    unfold brk at ht
    rcases List.mem_cons.mp ht with rfl | ht
    · decide
    · rcases List.mem_append.mp ht with ht | ht
      · exact brkN_txt h n t ht
      · simp only [List.mem_cons, List.not_mem_nil, or_false] at ht
        subst ht
        decide
theorem Sy.brk0_t (s : ByteArray) (n : Int) (hn : nibI n = 0) : CallTo Try.prog 5 [.lit (.string s), int n] M0 fun v _ => v = boo true :=
  toV [cKnown08, cCut s, cQpsG, cSer (rdS (cutT s)) (rdS (cutT s)) (rdN (cutT s)) (rdN (cutT s))] [lpBr0 (rdS (cutT s)) (rdN (cutT s)) (cutT s) (nibI n)] 400 30 (.br (.yes .done) (.yes (.yes (.br (.auto 2 (.br (.yes .done) (.yes (.br (.auto 1 (.yes (.auto 0 (.br (.yes (.auto 0 .done)) (.auto 0 .done))))) (.auto 4 .done))))) (.auto 3 (.yes .done)))))) (let e1 := (fun y0 => (fun y1 => (@AV.lit ([(@Value.int IntKind.i64 (((@cutT s).getD y0 tok0)).kind), (@Value.string (((@cutT s).getD y0 tok0)).text), (@Value.int IntKind.i64 (((@cutT s).getD y0 tok0)).n)].getD y1 (@Value.tuple (@Array.mk _ [])))))); let e2 := (@toksOf ((@cutT s)).length e1); let e3 := (@isSo (@And (((@cutT s)).length ≤ ((@cutT s)).length) (@And (@TokRows ((@cutT s)).length e1) (@And ((e2).length ≤ 100000) (@TxtOk e2))))); let e4 := (@ByteArray.mk (@Array.mk _ [])); let e5 := (some (@AV.view ((@cutT s)).length 3 e1)); let e6 := (@AV.lit (@Value.string (@rdS e2))); let e7 := (e6 :: (@qview (@rdN e2)) :: (@List.drop _ (0 + ([e6, (@qview (@rdN e2))]).length) [(@AV.lit (@Value.string e4)), (@AV.lit (@Value.slice none 0 0))])); let e8 := (@rdS (@cutT s)); let e9 := (@rdN (@cutT s)); (.fork (!(leI (((@ByteArray.size s) : Nat) : Int) (300 : Int))) (.need (@isSo (@And ((@HAppend.hAppend _ _ _ _ (@HAppend.hAppend _ _ _ _ ([] : List AV) ([] : List AV)) []) = []) True)) (.leaf (boo true))) (.need (@isSo (@And ((@HAppend.hAppend _ _ _ _ (@HAppend.hAppend _ _ _ _ [] [(@AV.lit (@Value.string s))]) []) = [(@AV.lit (@Value.string s))]) ((@ByteArray.size s) ≤ 100000000))) (.need e3 (.fork (!(!(eqI (@rdE e2) (0 : Int)))) (.fork (!(@bytesEq (@Array.toList _ (@ByteArray.data (@rdS e2))) (@Array.toList _ (@ByteArray.data e4)))) (.need (@isSo (@And ((@HAppend.hAppend _ _ _ _ (@HAppend.hAppend _ _ _ _ ([] : List AV) ([] : List AV)) []) = []) True)) (.leaf (boo true))) (.need (@isSo (@And ((none :: (some (int (IntKind.i64.wrap (((@Nat.land ((@HMod.hMod _ _ _ _ n (18446744073709551616 : Int))).toNat 7) : Nat) : Int)))) :: (none :: none :: none :: e5 :: (some (@AV.ptr 0 0)) :: none :: (some (int (0 : Int))) :: (nn5 (nn48 [])))) = (none :: (some (int (@nibI n))) :: none :: none :: none :: e5 :: (some (@AV.ptr 0 0)) :: none :: (some (int (0 : Int))) :: (nn5 (nn48 [])))) ((@Mem.mk (0 + 1) (0 + 1) [(some (@Blk.mk e7 24 none))]) = (@Mem.mk 1 (0 + 1) [(some (@Blk.mk [(@AV.lit (@Value.string e8)), (@qview e9)] 24 none))])))) (.need (@isSo (@And ((@nibI n) = (0 : Int)) (((@cutT s)).length ≤ 500))) (.need e3 (.fork (eqI (@rdE e2) (0 : Int)) (.need (@isSo (@And ((@HAppend.hAppend _ _ _ _ (@HAppend.hAppend _ _ _ _ [] [(@AV.agg (@List.take _ 2 e7)), (@AV.agg [(@AV.lit (@Value.string e8)), (@qview e9)])]) []) = [(@query e8 e9), (@query e8 e9)]) ((e9).length ≤ 17592186044416))) (.fork (@sameQ e8 e8 e9 e9) (.need (@isSo (@And ((@HAppend.hAppend _ _ _ _ (@HAppend.hAppend _ _ _ _ ([] : List AV) ([] : List AV)) []) = []) True)) (.leaf (boo true))) (.leaf (boo false)))) (.leaf (boo false))))))) (.need (@isSo (@And ((@HAppend.hAppend _ _ _ _ (@HAppend.hAppend _ _ _ _ ([] : List AV) ([] : List AV)) []) = []) True)) (.leaf (boo true)))))))) (by kernel_rfl) (by
    conv => zeta
    refine fork_ok (fun q => need_so ⟨rfl, trivial⟩ rfl) (fun q => ?_)
    simp only [Bool.not_eq_false', leI_t] at q
    have hs : limB s.size := by unfold limB; omega
    have hx := cutT_len s
    have ox : TxtOk (cutT s) := fun t ht => by
      have := cutT_ok hs t ht
      have hm : maxLen ≤ 9223372036854775807 := by decide
      omega
    generalize cutT s = x at *
    have hxl : limC x := show x.length ≤ 100000 by omega
    have hnl := rdN_len hxl ox
    rw [tk_kv x]
    refine need_so ⟨rfl, hs⟩ (need_so ⟨Nat.le_refl _, TokRows.kc x, hxl, ox⟩ (fork_ok (fun c1 => fork_ok (fun c2 => need_so ⟨rfl, trivial⟩ rfl) (fun c2 => ?_)) (fun c1 => need_so ⟨rfl, trivial⟩ rfl)))
    simp only [Bool.not_eq_true', Bool.not_eq_false', leI_t, leI_f, eqI_t, eqI_f, inR_t, inR_f, isSo_t, isSo_f] at c1
    refine need_so ⟨rfl, rfl⟩ (need_so ⟨hn, by omega⟩ (need_so ⟨Nat.le_refl _, TokRows.kc x, hxl, ox⟩ (fork_t (by rw [eqI_t]; exact c1) (need_so ⟨rfl, by omega⟩ (fork_t (sameQ_self _ _) (need_so ⟨rfl, trivial⟩ rfl)))))))
theorem Sy.brk1_t (s : ByteArray) (n : Int) (hn : nibI n ≠ 0) : CallTo Try.prog 5 [.lit (.string s), int n] M0 fun v _ => v = boo true :=
  toV [cKnown08, cCut s, cQpsG, cSer (rdS (brkN (nibI n).toNat (cutT s))) (rdS (cutT s)) (rdN (brkN (nibI n).toNat (cutT s))) (rdN (cutT s))] [lpBr1 (rdS (cutT s)) (rdN (cutT s)) (cutT s) (nibI n)] 400 30 (.br (.yes .done) (.yes (.yes (.br (.auto 2 (.br (.yes .done) (.yes (.br (.auto 1 (.yes (.auto 0 (.br (.yes (.auto 0 .done)) (.auto 0 .done))))) (.auto 4 .done))))) (.auto 3 (.yes .done)))))) (let e1 := (fun y0 => (fun y1 => (@AV.lit ([(@Value.int IntKind.i64 (((@cutT s).getD y0 tok0)).kind), (@Value.string (((@cutT s).getD y0 tok0)).text), (@Value.int IntKind.i64 (((@cutT s).getD y0 tok0)).n)].getD y1 (@Value.tuple (@Array.mk _ [])))))); let e2 := (@toksOf ((@cutT s)).length e1); let e3 := (@ByteArray.mk (@Array.mk _ [])); let e4 := (some (@AV.view ((@cutT s)).length 3 e1)); let e5 := (@AV.lit (@Value.string (@rdS e2))); let e6 := (@AV.lit (@Value.slice none 0 0)); let e7 := (@AV.lit (@Value.string (@rdS (@cutT s)))); let e8 := (@brkN ((@nibI n)).toNat (@cutT s)); let e9 := (@toksOf (e8).length (@kcell e8)); let e10 := (@AV.lit (@Value.string (@rdS e9))); (.fork (!(leI (((@ByteArray.size s) : Nat) : Int) (300 : Int))) (.need (@isSo (@And ((@HAppend.hAppend _ _ _ _ (@HAppend.hAppend _ _ _ _ ([] : List AV) ([] : List AV)) []) = []) True)) (.leaf (boo true))) (.need (@isSo (@And ((@HAppend.hAppend _ _ _ _ (@HAppend.hAppend _ _ _ _ [] [(@AV.lit (@Value.string s))]) []) = [(@AV.lit (@Value.string s))]) ((@ByteArray.size s) ≤ 100000000))) (.need (@isSo (@And (((@cutT s)).length ≤ ((@cutT s)).length) (@And (@TokRows ((@cutT s)).length e1) (@And ((e2).length ≤ 100000) (@TxtOk e2))))) (.fork (!(!(eqI (@rdE e2) (0 : Int)))) (.fork (!(@bytesEq (@Array.toList _ (@ByteArray.data (@rdS e2))) (@Array.toList _ (@ByteArray.data e3)))) (.need (@isSo (@And ((@HAppend.hAppend _ _ _ _ (@HAppend.hAppend _ _ _ _ ([] : List AV) ([] : List AV)) []) = []) True)) (.leaf (boo true))) (.need (@isSo (@And ((none :: (some (int (IntKind.i64.wrap (((@Nat.land ((@HMod.hMod _ _ _ _ n (18446744073709551616 : Int))).toNat 7) : Nat) : Int)))) :: (none :: none :: none :: e4 :: (some (@AV.ptr 0 0)) :: none :: (some (int (0 : Int))) :: (nn5 (nn48 [])))) = (none :: (some (int (@nibI n))) :: none :: none :: none :: e4 :: (some (@AV.ptr 0 0)) :: none :: (some (int (0 : Int))) :: (nn5 (nn48 [])))) ((@Mem.mk (0 + 1) (0 + 1) [(some (@Blk.mk (e5 :: (@qview (@rdN e2)) :: (@List.drop _ (0 + ([e5, (@qview (@rdN e2))]).length) [(@AV.lit (@Value.string e3)), e6])) 24 none))]) = (@Mem.mk 1 (0 + 1) [(some (@Blk.mk [e7, (@qview (@rdN (@cutT s)))] 24 none))])))) (.need (@isSo (@And (@And ((1 : Int) ≤ (@nibI n)) ((@nibI n) ≤ (7 : Int))) (((@cutT s)).length ≤ 500))) (.need (@isSo (@And ((e8).length ≤ (e8).length) (@And (@TokRows (e8).length (@kcell e8)) (@And ((e9).length ≤ 100000) (@TxtOk e9))))) (.fork (eqI (@rdE e9) (0 : Int)) (.need (@isSo (@And ((@HAppend.hAppend _ _ _ _ (@HAppend.hAppend _ _ _ _ [] [(@AV.agg (@List.take _ 2 (e10 :: (@qview (@rdN e9)) :: (@List.drop _ (0 + ([e10, (@qview (@rdN e9))]).length) [(@AV.lit (@Value.string e3)), e6])))), (@AV.agg [e7, (@qview (@rdN (@cutT s)))])]) []) = [(@query (@rdS e8) (@rdN e8)), (@query (@rdS (@cutT s)) (@rdN (@cutT s)))]) (((@rdN e8)).length ≤ 17592186044416))) (.fork (@sameQ (@rdS e8) (@rdS (@cutT s)) (@rdN e8) (@rdN (@cutT s))) (.need (@isSo (@And ((@HAppend.hAppend _ _ _ _ (@HAppend.hAppend _ _ _ _ ([] : List AV) ([] : List AV)) []) = []) True)) (.leaf (boo true))) (.leaf (boo false)))) (.leaf (boo false))))))) (.need (@isSo (@And ((@HAppend.hAppend _ _ _ _ (@HAppend.hAppend _ _ _ _ ([] : List AV) ([] : List AV)) []) = []) True)) (.leaf (boo true)))))))) (by kernel_rfl) (by
    conv => zeta
    have hnn := nibI_le n
    refine fork_ok (fun q => need_so ⟨rfl, trivial⟩ rfl) (fun q => ?_)
    simp only [Bool.not_eq_false', leI_t] at q
    have hs : limB s.size := by unfold limB; omega
    have hx := cutT_len s
    have ox : TxtOk (cutT s) := fun t ht => by
      have := cutT_ok hs t ht
      have hm : maxLen ≤ 9223372036854775807 := by decide
      omega
    have hno := fun a b => noname (s := s) a b
    generalize cutT s = x at *
    have hxl : limC x := show x.length ≤ 100000 by omega
    have hnl := rdN_len hxl ox
    have hbl := brkN_len (nibI n).toNat x
    have hb5 : (brkN (nibI n).toNat x).length ≤ 400 := by omega
    have oy := brkN_txt ox (nibI n).toNat
    have hyl : limC (brkN (nibI n).toNat x) := show _ ≤ 100000 by omega
    have hyn := rdN_len hyl oy
    rw [tk_kv x, toksOf_is (CellIs.kc (brkN (nibI n).toNat x))]
    refine need_so ⟨rfl, hs⟩ (need_so ⟨Nat.le_refl _, TokRows.kc x, hxl, ox⟩ (fork_ok (fun c1 => fork_ok (fun c2 => need_so ⟨rfl, trivial⟩ rfl) (fun c2 => ?_)) (fun c1 => need_so ⟨rfl, trivial⟩ rfl)))
    simp only [Bool.not_eq_true', Bool.not_eq_false', leI_t, leI_f, eqI_t, eqI_f, inR_t, inR_f, isSo_t, isSo_f] at c1
    have c2 := n_f c2
    rw [byE_t] at c2
    obtain ⟨r1, r2, r3⟩ := brk_read (nibI n).toNat (l := x) (by unfold lim; omega) (hno c1 c2) c1
    refine need_so ⟨rfl, rfl⟩ (need_so ⟨by omega, by omega⟩ (need_so ⟨Nat.le_refl _, TokRows.kc _, hyl, oy⟩ (fork_t (by rw [eqI_t]; exact r3) (need_so ⟨rfl, by omega⟩ (fork_t ?_ (need_so ⟨rfl, trivial⟩ rfl))))))
    rw [r1, r2]
    exact sameQ_self _ _)
theorem brackets_walk {W : World} (s : ByteArray) (n : Int) : Calls Try.prog 5 #[.string s, .int .i64 n] W fun e w' => e = .returned (.bool true) ∧ Below W.heap.size W w' := by
  by_cases hn : nibI n = 0
  · exact Sy.law_true (Sy.brk0_t s n hn) (us := [_, _]) ⟨_, _, rfl, rfl, _, _, rfl, rfl, rfl⟩
  · exact Sy.law_true (Sy.brk1_t s n hn) (us := [_, _]) ⟨_, _, rfl, rfl, _, _, rfl, rfl, rfl⟩
end Go.Proofs.Ytlmanlpgknhfpaa
