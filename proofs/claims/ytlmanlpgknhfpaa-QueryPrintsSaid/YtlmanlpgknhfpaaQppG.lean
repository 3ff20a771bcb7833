/-
  Lemmas for QueryPrints, part 7; no conditions.
-/
import Derived.Test.YtlmanlpgknhfpaaQppF
set_option linter.unusedVariables false
set_option linter.unusedSimpArgs false
namespace Go.Proofs.Ytlmanlpgknhfpaa
open Go Go.RowKit Pl Sy
def nsK (xs : List QNodeV) : Nat → Int → List QNodeV
  | 0 => fun _ => []
  | f + 1 => nsG xs (nsK xs f)
def cutN (xs : List QNodeV) (a b : Int) : List QNodeV := (xs.drop a.toNat).take (b - a).toNat
theorem cutN_app (xs : List QNodeV) {a b c : Int} (h0 : 0 ≤ a) (h1 : a ≤ b) (h2 : b ≤ c) : cutN xs a b ++ cutN xs b c = cutN xs a c := by
  unfold cutN
  rw [show b.toNat = a.toNat + (b - a).toNat by omega, ← List.drop_drop, show (c - a).toNat = (b - a).toNat + (c - b).toNat by omega, List.take_add]
theorem cutN_one (xs : List QNodeV) {a : Int} (h0 : 0 ≤ a) (h1 : a < xs.length) : cutN xs a (a + 1) = [nodeN xs a] := by
  unfold cutN nodeN
  rw [drop_at xs a.toNat (by omega) QNodeV.zero, show (a + 1 - a).toNat = 1 by omega]
  rfl
def SmT (l : List TokV) : Prop := ∀ t ∈ l, t.text.size ≤ 100
theorem SmT.app {a b : List TokV} (h : SmT a) (h' : SmT b) : SmT (a ++ b) := fun t ht => by
  rcases List.mem_append.mp ht with h1 | h1
  · exact h t h1
  · exact h' t h1
theorem SmT.cons {t : TokV} {b : List TokV} (h : t.text.size ≤ 100) (h' : SmT b) : SmT (t :: b) := fun u hu => by
  rcases List.mem_cons.mp hu with rfl | h1
  · exact h
  · exact h' u h1
theorem SmT.nil : SmT [] := fun t ht => absurd ht (by simp)
structure Vd (xs : List QNodeV) (f : Nat) (i : Int) : Prop where
  inr : inR i xs.length = true
  sp : i < spanI xs i ∧ spanI xs i ≤ xs.length
  len : (((ndK xs f).T i).length : Int) + 5 ≤ 26 * (spanI xs i - i)
  nd : (ndK xs f).C i
  rd : (rdK xs f).C i
  bal : Bal ((ndK xs f).T i)
  hd : ∃ t l, (ndK xs f).T i = t :: l ∧ t.kind ≠ 20
  tm : ∀ n, (tmT xs (ndK xs f).T i).length ≤ n → TmOk (cndK n) xs (ndK xs f).T i (nsK xs f i)
  rd2 : ∀ n T a, ((ndK xs f).T i).length ≤ n → At T (skI T a) ((ndK xs f).T i) → cndB (cndK n) T a = true ∧ cndN (cndK n) T a = nsK xs f i
  ns : nsK xs f i = cutN xs i (spanI xs i)
  last : ∃ l, (ndK xs f).T i = l ++ [cloT]
  sm : SmT ((ndK xs f).T i)
def SeqP (xs : List QNodeV) (P : Int → Prop) : Nat → Int → Prop
  | 0, _ => True
  | m + 1, j => P j ∧ SeqP xs P m (spanI xs j)
theorem seq_of {xs : List QNodeV} {P : Int → Prop} {i : Int} (h : ∀ j, i < j → j < xs.length → spanI xs j ≠ 0 → P j) (hi : 0 ≤ i) : ∀ (m : Nat) (j : Int), i < j → (m ≠ 0 → posI xs j m ≠ 0) → SeqP xs P m j ∧ spE xs m j = posI xs j m
  | 0, j, hj, hm => ⟨trivial, (posI_zero xs j).symm⟩
  | m + 1, j, hj, hm => by
    have h1 := hm (by omega)
    have h2 := posI_succ xs j m (by omega)
    have es : spanI xs j = posI xs j 1 := by rw [spanI_eq, if_neg (by omega)]
    by_cases h3 : posI xs j 1 = 0
    · rw [if_pos h3] at h2
      exact absurd h2 h1
    · rw [if_neg h3] at h2
      obtain ⟨k, hk, hp, hk1, hk2⟩ := posI_pos (by omega) (Nat.le_refl 1) h3
      obtain ⟨q1, q2⟩ := seq_of h hi m (spanI xs j) (by rw [es]; omega) (fun _ => by rw [es, ← h2]; exact h1)
      refine ⟨⟨h j hj (by omega) (by rw [es]; exact h3), q1⟩, ?_⟩
      show spE xs m (spanI xs j) = _
      rw [q2, h2, es]
theorem SeqP.spans {xs : List QNodeV} {f : Nat} : ∀ {m : Nat} {j : Int}, SeqP xs (Vd xs f) m j → Spans (ndK xs f) xs m j ∧ SpansR (rdK xs f) xs m j
  | 0, j, h => ⟨trivial, trivial⟩
  | m + 1, j, h => by
    obtain ⟨q1, q2⟩ := SeqP.spans h.2
    exact ⟨⟨⟨h.1.inr, h.1.nd⟩, q1⟩, ⟨⟨h.1.inr, h.1.rd⟩, q2⟩⟩
theorem tmT_len (xs : List QNodeV) (g : Int → List TokV) (i : Int) : (tmT xs g i).length ≤ (g i).length + 2 := by
  unfold tmT
  split
  · omega
  · simp only [List.length_append, List.length_cons, List.length_nil]
    omega
theorem SeqP.facts {xs : List QNodeV} {f : Nat} (w : ByteArray) : ∀ {m : Nat} {j : Int}, SeqP xs (Vd xs f) m j → 0 ≤ j → j ≤ spE xs m j ∧ ((lpT xs (ndK xs f).T w m j).length : Int) ≤ 26 * (spE xs m j - j) ∧ lpN xs (nsK xs f) m j = cutN xs j (spE xs m j)
  | 0, j, h, hj => by
    refine ⟨Int.le_refl _, ?_, ?_⟩
    · show ((0 : Nat) : Int) ≤ 26 * (j - j)
      omega
    · show [] = cutN xs j j
      unfold cutN
      rw [show (j - j).toNat = 0 by omega, List.take_zero]
  | m + 1, j, h, hj => by
    have hs := h.1.sp
    obtain ⟨q1, q2, q3⟩ := SeqP.facts w h.2 (by omega)
    have hl := h.1.len
    have ht := tmT_len xs (ndK xs f).T j
    have e : spE xs (m + 1) j = spE xs m (spanI xs j) := rfl
    rw [e]
    refine ⟨by omega, ?_, ?_⟩
    · have e2 : lpT xs (ndK xs f).T w (m + 1) j = spT :: idT w :: spT :: (tmT xs (ndK xs f).T j ++ lpT xs (ndK xs f).T w m (spanI xs j)) := rfl
      rw [e2]
      simp only [List.length_cons, List.length_append]
      omega
    · show nsK xs f j ++ lpN xs (nsK xs f) m (spanI xs j) = _
      rw [q3, h.1.ns, cutN_app xs hj (by omega) q1]
theorem SeqP.tms {xs : List QNodeV} {f : Nat} (w : ByteArray) {n : Nat} : ∀ {m : Nat} {j : Int}, SeqP xs (Vd xs f) m j → (lpT xs (ndK xs f).T w m j).length ≤ n → TmsOk (cndK n) xs (ndK xs f).T (nsK xs f) m j
  | 0, j, h, hn => trivial
  | m + 1, j, h, hn => by
    have e2 : lpT xs (ndK xs f).T w (m + 1) j = spT :: idT w :: spT :: (tmT xs (ndK xs f).T j ++ lpT xs (ndK xs f).T w m (spanI xs j)) := rfl
    rw [e2] at hn
    simp only [List.length_cons, List.length_append] at hn
    exact ⟨h.1.tm n (by omega), SeqP.tms w h.2 (by omega)⟩
theorem feaT_len (q : QNodeV) : (feaT q).length ≤ 21 := by
  have h1 : (loT q).length ≤ 9 := by
    unfold loT
    have := valT_len q.feat q.ln q.ld
    have := opT_len q.lo
    split
    · simp
    · simp only [List.length_append, List.length_cons, List.length_nil]
      omega
  have h2 : (hiT q).length ≤ 9 := by
    unfold hiT trnT
    have := valT_len q.feat q.hn q.hd
    have := opT_len q.ho
    split
    · simp
    · split
      · simp
      · simp only [List.length_append, List.length_cons, List.length_nil]
        omega
  unfold feaT
  simp only [List.length_append, List.length_cons, List.length_nil]
  omega
theorem fea_ok {q : QNodeV} (hk : q.kind = 4) (h : rightV q.kind q.count q.feat q.lo q.ln q.ld q.ho q.hn q.hd = true) : FeaOk q := by
  obtain ⟨k, c, f, lo, ln, ld, ho, hn, hd⟩ := q
  simp only at hk h
  subst hk
  unfold rightV at h
  rw [decide_eq_true_eq] at h
  unfold FeaOk OpsIn
  simp only
  rcases h with ⟨_, rfl, h1, h6, hfit⟩ | ⟨h, _⟩
  · rcases fits_cases hfit with hz | ⟨rfl, hb, hz⟩ | ⟨hf, ho1, hv, hz | ⟨lo1, hw⟩⟩ <;> exact ⟨⟨trivial, rfl, by omega, by omega⟩, ⟨fun _ => by omega, fun _ => by omega⟩, fun _ => by omega⟩
  · exact absurd rfl h
theorem TmOk.hd {K : CnK} {xs : List QNodeV} {g : Int → List TokV} {i : Int} {ns : List QNodeV} (h : TmOk K xs g i ns) (r : List TokV) : ∃ l, tmT xs g i ++ r = opnT :: l := by
  obtain ⟨l, hl⟩ := tmT_cons h
  exact ⟨l ++ r, by rw [hl]; rfl⟩
theorem TmOk.last {K : CnK} {xs : List QNodeV} {g : Int → List TokV} {i : Int} {ns : List QNodeV} (h : TmOk K xs g i ns) : ∃ l, tmT xs g i = l ++ [cloT] := by
  unfold tmT
  rcases h with ⟨h1, h2, h3, h4⟩ | ⟨h1, _⟩
  · rw [if_pos h1, h2, feaT_fi]
    exact ⟨opnT :: fiT (nodeN xs i), rfl⟩
  · rw [if_neg h1]
    exact ⟨opnT :: g i, rfl⟩
theorem TmsOk.last {K : CnK} {xs : List QNodeV} {g : Int → List TokV} {ns : Int → List QNodeV} (w : ByteArray) : ∀ (m : Nat) (j : Int), TmsOk K xs g ns (m + 1) j → ∃ l, lpT xs g w (m + 1) j = l ++ [cloT]
  | 0, j, h => by
    obtain ⟨l, hl⟩ := h.1.last
    refine ⟨[spT, idT w, spT] ++ l, ?_⟩
    show [spT, idT w, spT] ++ (tmT xs g j ++ []) = _
    rw [hl, List.append_nil, List.append_assoc]
  | m + 1, j, h => by
    obtain ⟨l, hl⟩ := TmsOk.last w m (spanI xs j) h.2
    refine ⟨[spT, idT w, spT] ++ (tmT xs g j ++ l), ?_⟩
    show [spT, idT w, spT] ++ (tmT xs g j ++ lpT xs g w (m + 1) (spanI xs j)) = _
    rw [hl]
    simp [List.append_assoc]
theorem SmT.tm {xs : List QNodeV} {g : Int → List TokV} {i : Int} (h : SmT (g i)) : SmT (tmT xs g i) := by
  unfold tmT
  split
  · exact h
  · exact SmT.app (SmT.cons (by decide) SmT.nil) (h.app (SmT.cons (by decide) SmT.nil))
theorem wdS_len (k : Int) : (wdS k).size ≤ 100 := by
  unfold wdS
  split <;> decide
theorem SeqP.sm {xs : List QNodeV} {f : Nat} (w : ByteArray) (hw : w.size ≤ 100) : ∀ {m : Nat} {j : Int}, SeqP xs (Vd xs f) m j → SmT (lpT xs (ndK xs f).T w m j)
  | 0, j, h => SmT.nil
  | m + 1, j, h => by
    have e2 : lpT xs (ndK xs f).T w (m + 1) j = spT :: idT w :: spT :: (tmT xs (ndK xs f).T j ++ lpT xs (ndK xs f).T w m (spanI xs j)) := rfl
    rw [e2]
    exact .cons (by decide) (.cons hw (.cons (by decide) (h.1.sm.tm.app (SeqP.sm w hw h.2))))
theorem featS_len (f : Int) : (featS f).size ≤ 100 := by
  unfold featS
  (repeat' split) <;> decide
theorem feaT_sm (q : QNodeV) : SmT (feaT q) := by
  have hv : ∀ f n d, SmT (valT f n d) := by
    intro f n d
    unfold valT
    split
    · exact .cons (Nat.le_of_ble_eq_true rfl) (.cons (Nat.le_of_ble_eq_true rfl) (.cons (Nat.le_of_ble_eq_true rfl) (.cons (Nat.le_of_ble_eq_true rfl) (.cons (Nat.le_of_ble_eq_true rfl) .nil))))
    · exact .cons (Nat.le_of_ble_eq_true rfl) .nil
  have ho : ∀ o, SmT (opT o) := by
    intro o
    unfold opT
    (repeat' split) <;> (repeat' (first | exact SmT.nil | refine SmT.cons (by decide) ?_))
  have hs : SmT [spT] := .cons (by decide) .nil
  have h1 : SmT (loT q) := by
    unfold loT
    split
    · exact .nil
    · exact (hv _ _ _).app (hs.app ((ho _).app hs))
  have h2 : SmT (hiT q) := by
    unfold hiT trnT
    split
    · exact .nil
    · split
      · exact .cons (by decide) (.cons (by decide) (.cons (by split <;> decide) .nil))
      · exact hs.app ((ho _).app (hs.app (hv _ _ _)))
  unfold feaT
  exact SmT.app (.cons (by decide) .nil) (h1.app (SmT.app (.cons (featS_len _) .nil) (h2.app (.cons (by decide) .nil))))
end Go.Proofs.Ytlmanlpgknhfpaa
namespace Go.Proofs.Ytlmanlpgknhfpaa
open Go Go.RowKit Pl Sy
abbrev rgtN (q : QNodeV) : Bool := rightV q.kind q.count q.feat q.lo q.ln q.ld q.ho q.hn q.hd
theorem rgt_cases {q : QNodeV} (h : rgtN q = true) : (q.kind = 4 ∧ q.count = 0) ∨ (q.kind = 3 ∧ q = qNode 3 1) ∨ ((q.kind = 1 ∨ q.kind = 2) ∧ 2 ≤ q.count ∧ q = qNode q.kind q.count) := by
  obtain ⟨k, c, f, lo, ln, ld, ho, hn, hd⟩ := q
  unfold rgtN rightV at h
  rw [decide_eq_true_eq] at h
  simp only at h ⊢
  rcases h with ⟨h1, h2, _⟩ | ⟨h1, rfl, rfl, rfl, rfl, rfl, rfl, rfl, ⟨rfl, rfl⟩ | ⟨h2, h3⟩⟩
  · exact .inl ⟨h1, h2⟩
  · exact .inr (.inl ⟨rfl, rfl⟩)
  · exact .inr (.inr ⟨h2, h3, rfl⟩)
theorem tm_of {xs : List QNodeV} {g : Int → List TokV} {i : Int} {ns : List QNodeV} (hb : Bal (g i)) (hd : ∃ t l, g i = t :: l ∧ t.kind ≠ 20) (hft : (nodeN xs i).kind ≠ 4 → ftB (g i) 0 = false) (h4 : (nodeN xs i).kind = 4 → g i = feaT (nodeN xs i) ∧ ns = [nodeN xs i]) (hr : rgtN (nodeN xs i) = true)
    (hrd : ∀ n T a, (g i).length ≤ n → At T (skI T a) (g i) → cndB (cndK n) T a = true ∧ cndN (cndK n) T a = ns) : ∀ n, (tmT xs g i).length ≤ n → TmOk (cndK n) xs g i ns := by
  intro n hn
  unfold tmT at hn
  by_cases hk : (nodeN xs i).kind = 4
  · exact .inl ⟨hk, (h4 hk).1, hr, (h4 hk).2⟩
  · rw [if_neg hk] at hn
    simp only [List.length_append, List.length_cons, List.length_nil] at hn
    obtain ⟨n, rfl⟩ : ∃ m, n = m + 1 := ⟨n - 1, by omega⟩
    have h0 : At (g i) (skI (g i) 0) (g i) := by
      have := At.zero (g i)
      rw [this.sk (by obtain ⟨t, l, e, ht⟩ := hd; rw [e]; exact ht)]
      exact this
    obtain ⟨r1, r2⟩ := hrd n (g i) 0 (by omega) h0
    exact .inr ⟨hk, hb, hft hk, r1, r2⟩
theorem vd_all (xs : List QNodeV) (hx : xs.length ≤ 32) (hR : ∀ i : Int, 0 ≤ i → i < xs.length → rgtN (nodeN xs i) = true) : ∀ (f : Nat) (i : Int), 0 ≤ i → i < xs.length → xs.length - i ≤ f → spanI xs i ≠ 0 → Vd xs f i := by
  intro f
  induction f with
  | zero => intro i h0 h1 h2; omega
  | succ f ih =>
    intro i h0 h1 h2 h3
    have inr : inR i xs.length = true := by rw [inR_t]; omega
    have es : spanI xs i = posI xs i 1 := by rw [spanI_eq, if_neg (by omega)]
    have h3' := h3
    rw [es] at h3'
    obtain ⟨k, hk, hp, hk1, hk2⟩ := posI_pos h0 (Nat.le_refl 1) h3'
    have hsp : i < spanI xs i ∧ spanI xs i ≤ xs.length := by rw [es]; omega
    have po := posI_one xs i h0 h1
    have hr := hR i h0 h1
    have hih : ∀ j, i < j → j < xs.length → spanI xs j ≠ 0 → Vd xs f j := fun j q1 q2 q3 => ih j (by omega) q2 (by omega) q3
    have eT : (ndK xs (f + 1)).T i = ndG xs (ndK xs f).T i := rfl
    have eN : nsK xs (f + 1) i = nsG xs (nsK xs f) i := rfl
    have e0 : cutN xs i (i + 1) = [nodeN xs i] := cutN_one xs h0 h1
    rcases rgt_cases hr with ⟨k4, c4⟩ | ⟨k3, c3⟩ | ⟨k12, hc, c12⟩
    · have hs : spanI xs i = i + 1 := by
        rw [es, po, show (xs.getD i.toNat QNodeV.zero).kind = 4 from k4, show (xs.getD i.toNat QNodeV.zero).count = 0 from c4]
        rw [if_neg (by decide)]
        exact posI_zero xs (i + 1)
      have eT' : (ndK xs (f + 1)).T i = feaT (nodeN xs i) := by rw [eT]; unfold ndG; rw [if_pos k4]
      have eN' : nsK xs (f + 1) i = [nodeN xs i] := by rw [eN]; unfold nsG; rw [if_pos k4]
      have hfo := fea_ok k4 hr
      have htm : ∀ n, TmOk (cndK n) xs (ndK xs (f + 1)).T i [nodeN xs i] := fun n => .inl ⟨k4, eT', hr, rfl⟩
      have hd : ∃ t l, (ndK xs (f + 1)).T i = t :: l ∧ t.kind ≠ 20 := ⟨opnT, _, by rw [eT', feaT_fi], by show (13 : Int) ≠ 20; decide⟩
      refine ⟨inr, hsp, ?_, ?_, ?_, ?_, hd, ?_, ?_, ?_, ⟨opnT :: fiT (nodeN xs i), by rw [eT', feaT_fi]; rfl⟩, by rw [eT']; exact feaT_sm _⟩
      · rw [eT', hs]
        have := feaT_len (nodeN xs i)
        omega
      · exact ⟨inr, .inl ⟨k4, hfo.2.1, hs⟩⟩
      · exact ⟨inr, .inl ⟨k4, hfo⟩⟩
      · rw [eT']
        exact feat_bal _
      · intro n _
        rw [eN']
        exact htm n
      · intro n T a _ ha
        have := cond_read (K := cndK n) (ns := nsK xs f) (g := (ndK xs f).T) (i := i) (.inl ⟨k4, hr⟩) (fun _ => .inl ⟨k4, eT', hr, rfl⟩) ha
        exact this
      · rw [eN', hs, e0]
    · have hkc : (nodeN xs i).count = 1 := by rw [c3]; rfl
      have hs : spanI xs i = spanI xs (i + 1) := by
        rw [es, po, show (xs.getD i.toNat QNodeV.zero).kind = 3 from k3, show (xs.getD i.toNat QNodeV.zero).count = 1 from hkc]
        rw [if_neg (by decide), spanI_eq, if_neg (by omega)]
        rfl
      have hlt : i + 1 < xs.length := by
        by_cases hq : (xs.length : Int) ≤ i + 1
        · have := posI_out xs (i + 1) hq
          have e2 : spanI xs (i + 1) = posI xs (i + 1) 1 := by rw [spanI_eq, if_neg (by omega)]
          rw [hs, e2, this] at h3
          exact absurd rfl h3
        · omega
      have v := hih (i + 1) (by omega) hlt (by rw [← hs]; exact h3)
      have k4 : ¬ (nodeN xs i).kind = 4 := by omega
      have eT' : (ndK xs (f + 1)).T i = idT ⟨#[110, 111, 116]⟩ :: spT :: tmT xs (ndK xs f).T (i + 1) := by rw [eT]; unfold ndG; rw [if_neg k4, if_pos k3]; rfl
      have eN' : nsK xs (f + 1) i = qNode 3 1 :: nsK xs f (i + 1) := by rw [eN]; unfold nsG; rw [if_neg k4, if_pos k3]
      have hl := v.len
      have ht := tmT_len xs (ndK xs f).T (i + 1)
      have hvs := v.sp
      have hd : ∃ t l, (ndK xs (f + 1)).T i = t :: l ∧ t.kind ≠ 20 := ⟨_, _, eT', by show (1 : Int) ≠ 20; decide⟩
      have hb : Bal ((ndK xs (f + 1)).T i) := by
        rw [eT']
        exact .one _ _ rfl (by show (1 : Int) ≠ 14; decide) (.one _ _ rfl (by decide) (v.tm _ (Nat.le_refl _)).bal)
      have hft : (nodeN xs i).kind ≠ 4 → ftB ((ndK xs (f + 1)).T i) 0 = false := by
        intro _
        have hz := At.zero ((ndK xs (f + 1)).T i)
        have hz' := hz
        rw [show At ((ndK xs (f + 1)).T i) 0 ((ndK xs (f + 1)).T i) = At ((ndK xs (f + 1)).T i) 0 (idT ⟨#[110, 111, 116]⟩ :: spT :: tmT xs (ndK xs f).T (i + 1)) by rw [← eT']] at hz'
        exact noft_not (by rw [hz'.ns (by show (1 : Int) ≠ 20; decide)]; exact hz')
      have hrd : ∀ n T a, ((ndK xs (f + 1)).T i).length ≤ n → At T (skI T a) ((ndK xs (f + 1)).T i) → cndB (cndK n) T a = true ∧ cndN (cndK n) T a = nsK xs (f + 1) i := by
        intro n T a hn ha
        rw [eT'] at hn
        simp only [List.length_cons] at hn
        exact cond_read (K := cndK n) (ns := nsK xs f) (g := (ndK xs f).T) (i := i) (.inr (.inl ⟨k3, v.tm n (by omega)⟩)) (fun h => absurd h k4) ha
      refine ⟨inr, hsp, ?_, ?_, ?_, hb, hd, tm_of hb hd hft (fun h => absurd h k4) hr hrd, hrd, ?_, ?_, ?_⟩
      · rw [eT', hs]
        simp only [List.length_cons]
        omega
      · exact ⟨inr, .inr (.inl ⟨k3, ⟨v.inr, v.nd⟩, hs⟩)⟩
      · refine ⟨inr, .inr (.inl ⟨k3, ⟨k3, hkc⟩, ⟨v.inr, v.rd⟩, ?_⟩)⟩
        rw [rdK_T]
        unfold limT
        omega
      · rw [eN', v.ns, hs, ← cutN_app xs h0 (show i ≤ i + 1 by omega) (by omega), e0, c3]
        rfl
      · obtain ⟨l, hlast⟩ := (v.tm _ (Nat.le_refl _)).last
        exact ⟨idT ⟨#[110, 111, 116]⟩ :: spT :: l, by rw [eT', hlast]; rfl⟩
      · rw [eT']
        exact .cons (by decide) (.cons (by decide) v.sm.tm)
    · have k4 : ¬ (nodeN xs i).kind = 4 := by omega
      have k3 : ¬ (nodeN xs i).kind = 3 := by omega
      obtain ⟨m, hm⟩ : ∃ m : Nat, (nodeN xs i).count = ((m + 1 : Nat) : Int) := ⟨((nodeN xs i).count - 1).toNat, by omega⟩
      have ec : (nodeN xs i).count.toNat = m + 1 := by omega
      have hp1 : spanI xs i = posI xs (i + 1) (m + 1) := by
        rw [es, po]
        have eh : hasI (xs.getD i.toNat QNodeV.zero).kind (xs.getD i.toNat QNodeV.zero).count = (nodeN xs i).count := by
          show hasI (nodeN xs i).kind (nodeN xs i).count = _
          unfold hasI
          rw [if_pos k12, if_neg (by omega)]
        rw [eh, if_neg (by omega), ec]
      obtain ⟨sq, hse⟩ := seq_of hih h0 (m + 1) (i + 1) (by omega) (fun _ => by rw [← hp1]; exact h3)
      have hs : spanI xs i = spE xs (m + 1) (i + 1) := by rw [hse, hp1]
      have v := sq.1
      have hvs := v.sp
      have hl := v.len
      have ht := tmT_len xs (ndK xs f).T (i + 1)
      obtain ⟨g1, g2, g3⟩ := SeqP.facts (wdS (nodeN xs i).kind) sq.2 (show 0 ≤ spanI xs (i + 1) by omega)
      have hse2 : spE xs (m + 1) (i + 1) = spE xs m (spanI xs (i + 1)) := rfl
      rw [hse2] at hs
      have eT' : (ndK xs (f + 1)).T i = tmT xs (ndK xs f).T (i + 1) ++ lpT xs (ndK xs f).T (wdS (nodeN xs i).kind) m (spanI xs (i + 1)) := by rw [eT]; unfold ndG; rw [if_neg k4, if_neg k3, ec]; rfl
      have eN' : nsK xs (f + 1) i = qNode (nodeN xs i).kind (nodeN xs i).count :: (nsK xs f (i + 1) ++ lpN xs (nsK xs f) m (spanI xs (i + 1))) := by rw [eN]; unfold nsG; rw [if_neg k4, if_neg k3, ec]; rfl
      obtain ⟨s1, s2⟩ := sq.spans
      obtain ⟨l0, hl0⟩ := (v.tm _ (Nat.le_refl _)).hd (lpT xs (ndK xs f).T (wdS (nodeN xs i).kind) m (spanI xs (i + 1)))
      have hd : ∃ t l, (ndK xs (f + 1)).T i = t :: l ∧ t.kind ≠ 20 := ⟨opnT, l0, by rw [eT', hl0], by show (13 : Int) ≠ 20; decide⟩
      have hb : Bal ((ndK xs (f + 1)).T i) := by
        rw [eT']
        exact (v.tm _ (Nat.le_refl _)).bal.app (TmsOk.bal _ (SeqP.tms (wdS (nodeN xs i).kind) sq.2 (Nat.le_refl _)))
      have hft : (nodeN xs i).kind ≠ 4 → ftB ((ndK xs (f + 1)).T i) 0 = false := by
        intro _
        rw [eT', hl0]
        have hz := At.zero (opnT :: l0)
        exact noft_open (by rw [hz.ns (by show (13 : Int) ≠ 20; decide)]; exact hz)
      have hrd : ∀ n T a, ((ndK xs (f + 1)).T i).length ≤ n → At T (skI T a) ((ndK xs (f + 1)).T i) → cndB (cndK n) T a = true ∧ cndN (cndK n) T a = nsK xs (f + 1) i := by
        intro n T a hn ha
        rw [eT'] at hn
        simp only [List.length_append] at hn
        refine cond_read (K := cndK n) (ns := nsK xs f) (g := (ndK xs f).T) (i := i) (.inr (.inr ⟨k12, hc, ?_⟩)) (fun h => absurd h k4) ha
        rw [ec]
        exact ⟨v.tm n (by omega), SeqP.tms (wdS (nodeN xs i).kind) sq.2 (by omega)⟩
      refine ⟨inr, hsp, ?_, ?_, ?_, hb, hd, tm_of hb hd hft (fun h => absurd h k4) hr hrd, hrd, ?_, ?_, ?_⟩
      · rw [eT', hs]
        simp only [List.length_append]
        omega
      · refine ⟨inr, .inr (.inr ⟨k12, ⟨by omega, ?_⟩, ?_, ?_⟩)⟩
        · have hmn : ∀ (m : Nat) (j : Int), SeqP xs (Vd xs f) m j → (m : Int) ≤ spE xs m j - j := by
            intro m
            induction m with
            | zero => intro j _; show ((0 : Nat) : Int) ≤ j - j; omega
            | succ m ihm =>
              intro j hj
              have := ihm _ hj.2
              have h5 := hj.1.sp
              show ((m + 1 : Nat) : Int) ≤ spE xs m (spanI xs j) - j
              omega
          have := hmn m _ sq.2
          omega
        · rw [ec]
          exact s1
        · rw [ec, hs]
          rfl
      · refine ⟨inr, .inr (.inr ⟨k12, k12, ⟨by omega, ?_⟩, ?_, ?_⟩)⟩
        · have hmn : ∀ (m : Nat) (j : Int), SeqP xs (Vd xs f) m j → (m : Int) ≤ spE xs m j - j := by
            intro m
            induction m with
            | zero => intro j _; show ((0 : Nat) : Int) ≤ j - j; omega
            | succ m ihm =>
              intro j hj
              have := ihm _ hj.2
              have h5 := hj.1.sp
              show ((m + 1 : Nat) : Int) ≤ spE xs m (spanI xs j) - j
              omega
          have := hmn m _ sq.2
          omega
        · rw [ec]
          exact s2
        · rw [rdK_T, ec]
          unfold limT
          show _ + _ + (lpT xs (ndK xs f).T (wdS (nodeN xs i).kind) m (spanI xs (i + 1))).length ≤ _
          omega
      · have e1 : qNode (nodeN xs i).kind (nodeN xs i).count :: (nsK xs f (i + 1) ++ lpN xs (nsK xs f) m (spanI xs (i + 1))) = [nodeN xs i] ++ (nsK xs f (i + 1) ++ lpN xs (nsK xs f) m (spanI xs (i + 1))) := by
          rw [← c12]
          rfl
        rw [eN', e1, v.ns, g3, hs, cutN_app xs (by omega) (by omega) g1, ← e0, cutN_app xs h0 (by omega) (by omega)]
      · obtain ⟨m, rfl⟩ : ∃ k, m = k + 1 := ⟨m - 1, by omega⟩
        obtain ⟨l, hlast⟩ := TmsOk.last (wdS (nodeN xs i).kind) m (spanI xs (i + 1)) (SeqP.tms (wdS (nodeN xs i).kind) sq.2 (Nat.le_refl _))
        exact ⟨tmT xs (ndK xs f).T (i + 1) ++ l, by rw [eT', hlast, List.append_assoc]⟩
      · rw [eT']
        exact v.sm.tm.app (SeqP.sm _ (wdS_len _) sq.2)
end Go.Proofs.Ytlmanlpgknhfpaa
namespace Go.Proofs.Ytlmanlpgknhfpaa
open Go Go.RowKit Pl Sy
theorem wrong_none : ∀ {xs : List QNodeV}, (wrongL xs).isSome = false → ∀ n ∈ xs, rgtN n = true
  | [], _, n, hn => absurd hn (by simp)
  | q :: l, h, n, hn => by
    unfold wrongL at h
    split at h
    · rename_i hq
      rcases List.mem_cons.mp hn with rfl | h1
      · exact hq
      · exact wrong_none (by cases e : wrongL l with
          | none => rfl
          | some k => rw [e] at h; simp at h) n h1
    · simp at h
theorem right_parts {s : ByteArray} {xs : List QNodeV} (h : rightQ s xs = true) : (s.data.toList = [] ∨ resB s = false) ∧ (1 ≤ xs.length ∧ xs.length ≤ 32) ∧ spanI xs 0 = xs.length ∧ ∀ i : Int, 0 ≤ i → i < xs.length → rgtN (nodeN xs i) = true := by
  unfold rightQ at h
  simp only [Bool.and_eq_true, Bool.or_eq_true, Bool.not_eq_true', decide_eq_true_eq, byE_t] at h
  obtain ⟨h1, h2, h3, h4⟩ := h
  refine ⟨h1.imp id (fun h => h.2), h2, h3, fun i q1 q2 => wrong_none h4 _ ?_⟩
  unfold nodeN
  rw [List.getD_eq_getElem?_getD, List.getElem?_eq_getElem (by omega)]
  exact List.getElem_mem _
theorem right_vd {s : ByteArray} {xs : List QNodeV} (h : rightQ s xs = true) : Vd xs xs.length 0 := by
  obtain ⟨_, h2, h3, h4⟩ := right_parts h
  exact vd_all xs h2.2 h4 xs.length 0 (Int.le_refl 0) (by omega) (by omega) (by omega)
theorem trim_ends {T l r : List TokV} {t u : TokV} (h1 : T = t :: l) (h2 : T = r ++ [u]) (ht : spB t = false) (hu : spB u = false) : trim T = T := by
  unfold trim
  have e1 : T.dropWhile spB = T := by rw [h1, List.dropWhile_cons, if_neg (by rw [ht]; decide)]
  rw [e1]
  have e2 : T.reverse.dropWhile spB = T.reverse := by rw [h2, List.reverse_append]; show List.dropWhile spB (u :: r.reverse) = _; rw [List.dropWhile_cons, if_neg (by rw [hu]; decide)]; rfl
  rw [e2, List.reverse_reverse]
theorem qry_len {s : ByteArray} {xs : List QNodeV} (h : rightQ s xs = true) : (qryT s xs).length ≤ 840 := by
  have v := right_vd h
  obtain ⟨_, h2, h3, _⟩ := right_parts h
  have := v.len
  unfold qryT
  rw [List.length_append]
  split <;> simp only [List.length_cons, List.length_nil] <;> omega
theorem right_prn (s : ByteArray) (xs : List QNodeV) : PrnOk s xs := fun h => ⟨(right_vd h).nd, by have := qry_len h; unfold limT; omega⟩
theorem right_rd {s : ByteArray} {xs : List QNodeV} (h : rightQ s xs = true) : (rdK xs xs.length).C 0 := (right_vd h).rd
theorem qry_txt {s : ByteArray} {xs : List QNodeV} (h : rightQ s xs = true) (hs : s.size ≤ maxLen) : TxtOk (qryT s xs) := by
  have v := right_vd h
  have hm : maxLen ≤ 9223372036854775807 := by decide
  intro t ht
  unfold qryT at ht
  rcases List.mem_append.mp ht with h1 | h1
  · split at h1
    · simp at h1
    · simp only [List.mem_cons, List.not_mem_nil, or_false] at h1
      rcases h1 with rfl | rfl
      · show s.size ≤ _
        omega
      · decide
  · have := v.sm t h1
    omega
theorem qry_read {s : ByteArray} {xs : List QNodeV} (h : rightQ s xs = true) : rdS (qryT s xs) = s ∧ rdN (qryT s xs) = xs ∧ rdE (qryT s xs) = 0 := by
  have v := right_vd h
  obtain ⟨h1, h2, h3, h4⟩ := right_parts h
  obtain ⟨t, l, e1, e2⟩ := v.hd
  obtain ⟨r, e3⟩ := v.last
  have hns : nsK xs xs.length 0 = xs := by
    rw [v.ns, h3]
    unfold cutN
    simp
  have key : trim (qryT s xs) = qryT s xs ∧ psS (qryT s xs) = s ∧ At (qryT s xs) (skI (qryT s xs) (psA (qryT s xs))) ((ndK xs xs.length).T 0) := by
    by_cases hz : s.data.toList = []
    · have eT : qryT s xs = (ndK xs xs.length).T 0 := by unfold qryT; rw [if_pos (by rw [byE_t]; exact hz), List.nil_append]
      rw [eT]
      have a0 := At.zero ((ndK xs xs.length).T 0)
      have nk : NsL ((ndK xs xs.length).T 0) := by rw [e1]; exact e2
      have hq : qName ((ndK xs xs.length).T 0) = false := by
        unfold qName
        by_cases hk4 : (nodeN xs 0).kind = 3
        · obtain ⟨f, hf⟩ : ∃ f, xs.length = f + 1 := ⟨xs.length - 1, by omega⟩
          have eT' : (ndK xs xs.length).T 0 = idT ⟨#[110, 111, 116]⟩ :: spT :: tmT xs (ndK xs f).T (0 + 1) := by
            rw [hf]
            show ndG xs (ndK xs f).T 0 = _
            unfold ndG
            rw [if_neg (by omega), if_pos hk4]
            rfl
          rw [eT']
          rfl
        · have hk : t.kind = 13 := by
            obtain ⟨f, hf⟩ : ∃ f, xs.length = f + 1 := ⟨xs.length - 1, by omega⟩
            have := v.tm _ (Nat.le_refl _)
            by_cases hk44 : (nodeN xs 0).kind = 4
            · rcases this with ⟨_, q, _⟩ | ⟨q, _⟩
              · rw [q, feaT_fi] at e1
                exact (congrArg TokV.kind (List.cons.inj e1).1).symm
              · exact absurd hk44 q
            · have hv : ∃ l, (ndK xs xs.length).T 0 = opnT :: l := by
                have ih := vd_all xs h2.2 h4 f
                have hr := rgt_cases (h4 0 (Int.le_refl 0) (by omega))
                have e4 : (ndK xs xs.length).T 0 = tmT xs (ndK xs f).T (0 + 1) ++ lpT xs (ndK xs f).T (wdS (nodeN xs 0).kind) ((nodeN xs 0).count.toNat - 1) (spanI xs (0 + 1)) := by
                  rw [hf]
                  show ndG xs (ndK xs f).T 0 = _
                  unfold ndG
                  rw [if_neg hk44, if_neg hk4]
                have hnd : NdC (ndK xs f) xs 0 := by
                  have := v.nd
                  rw [hf] at this
                  exact this
                have hp : spanI xs (0 + 1) ≠ 0 ∧ (0 : Int) + 1 < xs.length := by
                  rcases hnd.2 with ⟨q, _⟩ | ⟨q, _⟩ | ⟨_, q1, q2, _⟩
                  · exact absurd q hk44
                  · exact absurd q hk4
                  · obtain ⟨m, hm⟩ : ∃ m : Nat, (nodeN xs 0).count.toNat = m + 1 := ⟨(nodeN xs 0).count.toNat - 1, by omega⟩
                    rw [hm] at q2
                    have q3 := q2.1.1
                    rw [inR_t] at q3
                    refine ⟨?_, by omega⟩
                    cases f with
                    | zero => exact q2.1.2.elim
                    | succ f =>
                      intro hz0
                      have hnd2 : NdC (ndK xs f) xs (0 + 1) := q2.1.2
                      have es : spanI xs 0 = posI xs 0 1 := by rw [spanI_eq, if_neg (by omega)]
                      have es1 : spanI xs (0 + 1) = posI xs (0 + 1) 1 := by rw [spanI_eq, if_neg (by omega)]
                      have po := posI_one xs 0 (Int.le_refl 0) (by omega)
                      rcases rgt_cases (h4 0 (Int.le_refl 0) (by omega)) with ⟨q, _⟩ | ⟨q, _⟩ | ⟨k12, hc, _⟩
                      · exact absurd q hk44
                      · exact absurd q hk4
                      · have eh : hasI (xs.getD (0 : Int).toNat QNodeV.zero).kind (xs.getD (0 : Int).toNat QNodeV.zero).count = (nodeN xs 0).count := by
                          show hasI (nodeN xs 0).kind (nodeN xs 0).count = _
                          unfold hasI
                          rw [if_pos k12, if_neg (by omega)]
                        rw [eh, if_neg (by omega), hm] at po
                        have ps := posI_succ xs (0 + 1) m (by omega)
                        rw [← es1, if_pos hz0] at ps
                        rw [← es, ps, h3] at po
                        omega
                have v1 := ih (0 + 1) (by omega) hp.2 (by omega) hp.1
                obtain ⟨l', hl'⟩ := (v1.tm _ (Nat.le_refl _)).hd (lpT xs (ndK xs f).T (wdS (nodeN xs 0).kind) ((nodeN xs 0).count.toNat - 1) (spanI xs (0 + 1)))
                exact ⟨l', by rw [e4, hl']⟩
              obtain ⟨l', hl'⟩ := hv
              rw [hl'] at e1
              exact (congrArg TokV.kind (List.cons.inj e1).1).symm
          rw [e1] at a0 ⊢
          rw [a0.kind, hk]
          rfl
      refine ⟨trim_ends e1 e3 (by unfold spB; rw [eqI_f]; exact e2) rfl, ?_, ?_⟩
      · unfold psS
        rw [if_neg (by rw [hq]; decide)]
        obtain ⟨⟨l0⟩⟩ := s
        simp only at hz
        subst hz
        rfl
      · unfold psA
        rw [if_neg (by rw [hq]; decide), a0.sk nk]
        exact a0
    · have eT : qryT s xs = idT s :: spT :: (ndK xs xs.length).T 0 := by unfold qryT; rw [if_neg (by rw [byE_t]; exact hz)]; rfl
      rw [eT]
      have a0 := At.zero (idT s :: spT :: (ndK xs xs.length).T 0)
      have hq : qName (idT s :: spT :: (ndK xs xs.length).T 0) = true := by
        unfold qName
        rw [a0.kind]
        show (true && !resB s) = true
        rw [h1.resolve_left hz]
        rfl
      refine ⟨trim_ends (l := spT :: (ndK xs xs.length).T 0) (r := idT s :: spT :: r) (u := cloT) rfl (by rw [e3]; rfl) rfl rfl, ?_, ?_⟩
      · unfold psS
        rw [if_pos hq]
        rfl
      · unfold psA
        rw [if_pos hq]
        have a1 := a0.tail
        have a1 : At (idT s :: spT :: (ndK xs xs.length).T 0) 1 (spT :: (ndK xs xs.length).T 0) := a1
        rw [a1.sk1 (by rw [e1]; exact e2)]
        exact a1.tail
  obtain ⟨g1, g2, g3⟩ := key
  have hlen : ((ndK xs xs.length).T 0).length ≤ (qryT s xs).length := by unfold qryT; rw [List.length_append]; omega
  obtain ⟨r1, r2⟩ := v.rd2 (qryT s xs).length (qryT s xs) (psA (qryT s xs)) hlen g3
  have hB : psB (qryT s xs) = true := by
    unfold psB psN cdB cdN
    rw [r1, r2, g2, hns, h]
    rfl
  unfold rdS rdN rdE
  rw [g1, if_pos hB, if_pos hB, if_pos hB, g2]
  refine ⟨rfl, ?_, rfl⟩
  unfold psN cdN
  rw [r2, hns]
end Go.Proofs.Ytlmanlpgknhfpaa
namespace Go.Proofs.Ytlmanlpgknhfpaa
open Go Go.RowKit Pl Sy
theorem Sy.scan {α : Type} {P : Program} {body : Code} (xs : List α) (g : α → Bool) (d : α) (F E : Int → Fr) (M : Mem)
    (step : ∀ (k : Int) (n : Nat) (G : Ex → Fr → Mem → Prop), 0 ≤ k → k ≤ xs.length → (k < xs.length → g (xs.getD k.toNat d) = false → LoopTo P body n (F (k + 1)) M G) → (k < xs.length → g (xs.getD k.toNat d) = true → G .ret (E k) M) → (k = xs.length → G (.exit 0) (F k) M) → LoopTo P body (n + 1) (F k) M G) :
    LoopTo P body (xs.length + 1) (F 0) M fun ex F' M' => M' = M ∧ ((0 ≤ Pl.idxF g xs 0 ∧ ex = .ret ∧ F' = E (Pl.idxF g xs 0)) ∨ (Pl.idxF g xs 0 = -1 ∧ ex = .exit 0 ∧ F' = F xs.length)) := by
  have key : ∀ (l pre : List α) (k : Int), xs = pre ++ l → k = pre.length → LoopTo P body (l.length + 1) (F k) M fun ex F' M' => M' = M ∧ ((0 ≤ Pl.idxF g l pre.length ∧ ex = .ret ∧ F' = E (Pl.idxF g l pre.length)) ∨ (Pl.idxF g l pre.length = -1 ∧ ex = .exit 0 ∧ F' = F xs.length)) := by
    intro l
    induction l with
    | nil =>
      intro pre k h hk
      have hl : xs.length = pre.length := by rw [h]; simp
      refine step k _ _ (by omega) (by omega) (fun h1 _ => by omega) (fun h1 _ => by omega) (fun h1 => ⟨rfl, .inr ⟨rfl, rfl, by rw [h1]⟩⟩)
    | cons x l ih =>
      intro pre k h hk
      have hl : xs.length = pre.length + l.length + 1 := by rw [h]; simp; omega
      have hg : xs.getD k.toNat d = x := by rw [h]; exact getD_at _ _ _ _ _ hk
      refine step k _ _ (by omega) (by omega) (fun h1 h2 => ?_) (fun h1 h2 => ⟨rfl, .inl ?_⟩) (fun h1 => by omega)
      · rw [hg] at h2
        have e : Pl.idxF g (x :: l) pre.length = Pl.idxF g l (pre ++ [x]).length := by
          show (if g x then _ else _) = _
          rw [if_neg (by rw [h2]; simp)]
          simp
        rw [e]
        exact ih (pre ++ [x]) (k + 1) (by rw [h]; simp) (by simp; omega)
      · rw [hg] at h2
        have e : Pl.idxF g (x :: l) pre.length = (pre.length : Int) := by
          show (if g x then _ else _) = _
          rw [if_pos h2]
        rw [e, hk]
        exact ⟨by omega, rfl, rfl⟩
  exact key xs [] 0 rfl rfl
def idxN (g : Nat → Bool) (n : Nat) : Int := Pl.idxF g (List.range n) 0
def anyN (g : Nat → Bool) (n : Nat) : Bool := (List.range n).any g
theorem anyN_idx (g : Nat → Bool) (n : Nat) : leI 0 (idxN g n) = anyN g n := by rw [leI_eq]; exact Pl.idxF_any g _ 0
theorem Sy.scanN {P : Program} {body : Code} (m : Nat) (g : Nat → Bool) (F E : Int → Fr) (M : Mem)
    (step : ∀ (k : Int) (n : Nat) (G : Ex → Fr → Mem → Prop), 0 ≤ k → k ≤ m → (k < m → g k.toNat = false → LoopTo P body n (F (k + 1)) M G) → (k < m → g k.toNat = true → G .ret (E k) M) → (k = m → G (.exit 0) (F k) M) → LoopTo P body (n + 1) (F k) M G) :
    LoopTo P body (m + 1) (F 0) M fun ex F' M' => M' = M ∧ ((0 ≤ idxN g m ∧ ex = .ret ∧ F' = E (idxN g m)) ∨ (idxN g m = -1 ∧ ex = .exit 0 ∧ F' = F m)) := by
  have h := scan (P := P) (body := body) (List.range m) g 0 F E M fun k n G h0 h1 c1 c2 c3 => by
    simp only [List.length_range] at h1 c1 c2 c3
    have e : k < m → (List.range m).getD k.toNat 0 = k.toNat := fun h => by
      rw [List.getD_eq_getElem?_getD, List.getElem?_eq_getElem (by simp; omega)]
      simp
    exact step k n G h0 h1 (fun a b => c1 a (by rw [e a]; exact b)) (fun a b => c2 a (by rw [e a]; exact b)) c3
  simp only [List.length_range] at h
  exact h
end Go.Proofs.Ytlmanlpgknhfpaa
namespace Go.Proofs.Ytlmanlpgknhfpaa
open Go Go.RowKit Pl Sy
namespace Sy
abbrev seF (s t : ByteArray) (xs ys : List QNodeV) (k : Int) : Fr := (none :: none :: some ((@AV.ptr 0 0)) :: some ((@AV.ptr (0 + 1) 0)) :: some ((boo false)) :: some (int k) :: (nn32 []))
abbrev seM (s t : ByteArray) (xs ys : List QNodeV) : Mem := (@Mem.mk ((0 + 1) + 1) 0 [(some (@Blk.mk [(@AV.lit (@Value.string t)), (@qview ys)] 24 none)), (some (@Blk.mk [(@AV.lit (@Value.string s)), (@qview xs)] 24 none))])
abbrev seG (s t : ByteArray) (xs ys : List QNodeV) : Fr := (none :: none :: some ((@AV.ptr 0 0)) :: some ((@AV.ptr (0 + 1) 0)) :: some ((boo false)) :: (nn33 []))
abbrev tsF (xs ys : List TokV) (k : Int) : Fr := (some ((@AV.view (xs).length 3 (fun x647891 => (fun x104383 => (@AV.lit ([(@Value.int IntKind.i64 ((xs.getD x647891 tok0)).kind), (@Value.string ((xs.getD x647891 tok0)).text), (@Value.int IntKind.i64 ((xs.getD x647891 tok0)).n)].getD x104383 (@Value.tuple (@Array.mk _ [])))))))) :: some ((@AV.view (ys).length 3 (fun x197846 => (fun x704762 => (@AV.lit ([(@Value.int IntKind.i64 ((ys.getD x197846 tok0)).kind), (@Value.string ((ys.getD x197846 tok0)).text), (@Value.int IntKind.i64 ((ys.getD x197846 tok0)).n)].getD x704762 (@Value.tuple (@Array.mk _ [])))))))) :: none :: none :: some ((boo false)) :: some (int k) :: (nn20 []))
end Sy
noncomputable def eqN (x y : QNodeV) : Bool := ((eqI x.kind y.kind) && ((eqI x.count y.count) && ((eqI x.feat y.feat) && (((eqI x.lo y.lo) && ((eqI x.ln y.ln) && ((eqI x.ld y.ld) && true))) && (((eqI x.ho y.ho) && ((eqI x.hn y.hn) && ((eqI x.hd y.hd) && true))) && true)))))
noncomputable def eqFrom : List QNodeV → List QNodeV → Bool
  | x :: l, y :: m => eqN x y && eqFrom l m
  | _, _ => true
theorem eqFrom_self : ∀ l, eqFrom l l = true
  | [] => rfl
  | x :: l => by rw [eqFrom, eqFrom_self l]; unfold eqN; simp only [eqI_self]; rfl
theorem bytesEq_self : ∀ l, bytesEq l l = true := fun l => by
  induction l with
  | nil => rfl
  | cons x l ih => simp [bytesEq, ih]
theorem Sy.loopSe (s t : ByteArray) (xs ys : List QNodeV) (hx : xs.length ≤ 17592186044416) : ∀ (r r2 pre pre2 : List QNodeV) (k : Int), xs = pre ++ r → ys = pre2 ++ r2 → k = pre.length → pre2.length = pre.length → r2.length = r.length →
    LoopTo Try.prog (theBody Try.prog 12 5) (r.length + 1) (seF s t xs ys k) (seM s t xs ys) fun ex F M => M = seM s t xs ys ∧ ((eqFrom r r2 = true ∧ ex = .exit 0 ∧ ∃ j, F = seF s t xs ys j) ∨ (eqFrom r r2 = false ∧ ex = .ret ∧ ∃ j, F = seF s t xs ys j)) := by
  intro r
  induction r with
  | nil =>
    intro r2 pre pre2 k hxs hys hk hp hr
    have hl : xs.length = pre.length := by rw [hxs]; simp
    refine roundL [] [] 400 30 12 5 Try.func12 rfl (by kernel_rfl) (false :: false :: true :: true :: true :: true :: (ff32 [])) (.br (.yes (.yes (.br .done .done))) .done) (let e1 := (@Mem.mk 2 0 [(some (@Blk.mk [(@AV.lit (@Value.string t)), (@qview ys)] 24 none)), (some (@Blk.mk [(@AV.lit (@Value.string s)), (@qview xs)] 24 none))]); (.fork (!(leI (((xs).length : Nat) : Int) k)) (.need (@inR k (xs).length) (.need (@inR k (ys).length) (.fork (!((eqI ((xs.getD (k).toNat QNodeV.zero)).kind ((ys.getD (k).toNat QNodeV.zero)).kind) && ((eqI ((xs.getD (k).toNat QNodeV.zero)).count ((ys.getD (k).toNat QNodeV.zero)).count) && ((eqI ((xs.getD (k).toNat QNodeV.zero)).feat ((ys.getD (k).toNat QNodeV.zero)).feat) && (((eqI ((xs.getD (k).toNat QNodeV.zero)).lo ((ys.getD (k).toNat QNodeV.zero)).lo) && ((eqI ((xs.getD (k).toNat QNodeV.zero)).ln ((ys.getD (k).toNat QNodeV.zero)).ln) && ((eqI ((xs.getD (k).toNat QNodeV.zero)).ld ((ys.getD (k).toNat QNodeV.zero)).ld) && true))) && (((eqI ((xs.getD (k).toNat QNodeV.zero)).ho ((ys.getD (k).toNat QNodeV.zero)).ho) && ((eqI ((xs.getD (k).toNat QNodeV.zero)).hn ((ys.getD (k).toNat QNodeV.zero)).hn) && ((eqI ((xs.getD (k).toNat QNodeV.zero)).hd ((ys.getD (k).toNat QNodeV.zero)).hd) && true))) && true)))))) (.leaf (Ex.ret, ((none :: none :: (some (@AV.ptr 0 0)) :: (some (@AV.ptr 1 0)) :: (some (boo false)) :: (some (int k)) :: (nn32 [])), e1))) (.leaf (Ex.norm, ((none :: none :: (some (@AV.ptr 0 0)) :: (some (@AV.ptr 1 0)) :: (some (boo false)) :: (some (int (w64 (k + (1 : Int))))) :: (nn32 [])), e1)))))) (.leaf ((@Ex.exit 0), ((none :: none :: (some (@AV.ptr 0 0)) :: (some (@AV.ptr 1 0)) :: (some (boo false)) :: (some (int k)) :: (nn32 [])), e1))))) (by kernel_rfl) ?_
    refine fork_ok (fun h => ?_) (fun h => ⟨rfl, .inl ⟨rfl, rfl, k, rfl⟩⟩)
    simp only [Bool.not_eq_true', Bool.not_eq_false', leI_t, leI_f, eqI_t, eqI_f, inR_t, inR_f, isSo_t, isSo_f] at h
    omega
  | cons x r ih =>
    intro r2 pre pre2 k hxs hys hk hp hr
    cases r2 with
    | nil => simp at hr
    | cons y r2 =>
      have hl : xs.length = pre.length + r.length + 1 := by rw [hxs]; simp; omega
      have hl2 : ys.length = pre.length + r.length + 1 := by
        rw [hys]
        simp only [List.length_append, List.length_cons] at hr ⊢
        omega
      have hg : xs.getD k.toNat QNodeV.zero = x := by rw [hxs]; exact getD_at _ _ _ _ _ hk
      have hg2 : ys.getD k.toNat QNodeV.zero = y := by rw [hys]; exact getD_at _ _ _ _ _ (by omega)
      refine roundL [] [] 400 30 12 5 Try.func12 rfl (by kernel_rfl) (false :: false :: true :: true :: true :: true :: (ff32 [])) (.br (.yes (.yes (.br .done .done))) .done) (let e1 := (@Mem.mk 2 0 [(some (@Blk.mk [(@AV.lit (@Value.string t)), (@qview ys)] 24 none)), (some (@Blk.mk [(@AV.lit (@Value.string s)), (@qview xs)] 24 none))]); (.fork (!(leI (((xs).length : Nat) : Int) k)) (.need (@inR k (xs).length) (.need (@inR k (ys).length) (.fork (!((eqI ((xs.getD (k).toNat QNodeV.zero)).kind ((ys.getD (k).toNat QNodeV.zero)).kind) && ((eqI ((xs.getD (k).toNat QNodeV.zero)).count ((ys.getD (k).toNat QNodeV.zero)).count) && ((eqI ((xs.getD (k).toNat QNodeV.zero)).feat ((ys.getD (k).toNat QNodeV.zero)).feat) && (((eqI ((xs.getD (k).toNat QNodeV.zero)).lo ((ys.getD (k).toNat QNodeV.zero)).lo) && ((eqI ((xs.getD (k).toNat QNodeV.zero)).ln ((ys.getD (k).toNat QNodeV.zero)).ln) && ((eqI ((xs.getD (k).toNat QNodeV.zero)).ld ((ys.getD (k).toNat QNodeV.zero)).ld) && true))) && (((eqI ((xs.getD (k).toNat QNodeV.zero)).ho ((ys.getD (k).toNat QNodeV.zero)).ho) && ((eqI ((xs.getD (k).toNat QNodeV.zero)).hn ((ys.getD (k).toNat QNodeV.zero)).hn) && ((eqI ((xs.getD (k).toNat QNodeV.zero)).hd ((ys.getD (k).toNat QNodeV.zero)).hd) && true))) && true)))))) (.leaf (Ex.ret, ((none :: none :: (some (@AV.ptr 0 0)) :: (some (@AV.ptr 1 0)) :: (some (boo false)) :: (some (int k)) :: (nn32 [])), e1))) (.leaf (Ex.norm, ((none :: none :: (some (@AV.ptr 0 0)) :: (some (@AV.ptr 1 0)) :: (some (boo false)) :: (some (int (w64 (k + (1 : Int))))) :: (nn32 [])), e1)))))) (.leaf ((@Ex.exit 0), ((none :: none :: (some (@AV.ptr 0 0)) :: (some (@AV.ptr 1 0)) :: (some (boo false)) :: (some (int k)) :: (nn32 [])), e1))))) (by kernel_rfl) ?_
      have hr1 : inR k xs.length = true := by rw [inR_t]; omega
      have hr2 : inR k ys.length = true := by rw [inR_t]; omega
      rw [hg, hg2]
      refine fork_ok (fun h => need_t hr1 (need_t hr2 (fork_ok (fun h2 => ?_) (fun h2 => ?_)))) (fun h => ?_)
      · have h3 : (!eqN x y) = true := h2
        have hw : eqFrom (x :: r) (y :: r2) = false := by rw [eqFrom]; cases he : eqN x y with
          | false => rfl
          | true => rw [he] at h3; cases h3
        exact ⟨rfl, .inr ⟨hw, rfl, k, rfl⟩⟩
      · have h3 : (!eqN x y) = false := h2
        have hw : eqFrom (x :: r) (y :: r2) = eqFrom r r2 := by rw [eqFrom]; cases he : eqN x y with
          | true => rfl
          | false => rw [he] at h3; cases h3
        rw [w64_in (r := k + 1) (by omega)]
        refine (ih r2 (pre ++ [x]) (pre2 ++ [y]) (k + 1) (by rw [hxs]; simp) (by rw [hys]; simp) (by simp; omega) (by simp; omega) (by simpa using hr)).mono fun ex F M hg => ?_
        rw [hw]
        exact hg
      · simp only [Bool.not_eq_true', Bool.not_eq_false', leI_t, leI_f, eqI_t, eqI_f, inR_t, inR_f, isSo_t, isSo_f] at h
        omega
namespace Sy
noncomputable abbrev lpSe (s t : ByteArray) (xs ys : List QNodeV) : Lp Try.prog where
  f := 12
  key := 5
  S := formS (fun F M => slotI F 5) (fun k => seF s t xs ys k) (fun _ => seM s t xs ys) (fun k => xs.length ≤ 17592186044416 ∧ k = 0 ∧ ys.length = xs.length) (fun k => .fork (eqFrom xs ys) (.leaf (.exit 0, seG s t xs ys, seM s t xs ys)) (.leaf (.ret, seG s t xs ys, seM s t xs ys))) (false :: false :: true :: true :: true :: true :: (ff32 []))
  one := by kernel_rfl
  ok := formS_ok fun k ⟨h1, h2, h3⟩ => by
    subst h2
    refine ⟨xs.length + 1, ?_⟩
    have h6 := Sy.loopSe s t xs ys h1 xs ys [] [] 0 rfl rfl rfl rfl h3
    refine (h6.out (false :: false :: true :: true :: true :: (ff33 []))).mono fun ex F M hg => ?_
    obtain ⟨F0, ⟨hM, hg⟩, rfl⟩ := hg
    rcases hg with ⟨q1, rfl, k', rfl⟩ | ⟨q1, rfl, k', rfl⟩
    · exact .inl ⟨q1, by rw [hM]; rfl⟩
    · exact .inr ⟨q1, by rw [hM]; rfl⟩
end Sy
noncomputable def sameQ (s t : ByteArray) (xs ys : List QNodeV) : Bool := bytesEq s.data.toList t.data.toList && (decide (xs.length = ys.length) && eqFrom xs ys)
theorem Sy.ser_t (s t : ByteArray) (xs ys : List QNodeV) (hx : xs.length ≤ 17592186044416) : CallTo Try.prog 12 [Sy.query s xs, Sy.query t ys] M0 fun v _ => v = boo (sameQ s t xs ys) :=
  toV [] [lpSe s t xs ys] 400 30 (.br (.auto 6 (.br .done (.br .done .done))) (.auto 7 .done)) (let e1 := (some (@Blk.mk [(@AV.lit (@Value.string t)), (@qview ys)] 24 none)); let e2 := (some (@Blk.mk [(@AV.lit (@Value.string s)), (@qview xs)] 24 none)); (.fork (!(!(@bytesEq (@Array.toList _ (@ByteArray.data s)) (@Array.toList _ (@ByteArray.data t))))) (.fork (!(eqI (((xs).length : Nat) : Int) (((ys).length : Nat) : Int))) (.leaf (boo false)) (.need (@isSo (@And ((none :: none :: ((some (@AV.ptr 0 0)) :: (some (@AV.ptr (0 + 1) 0)) :: (some (boo false)) :: (some (int (0 : Int))) :: (nn32 []))) = (none :: none :: (some (@AV.ptr 0 0)) :: (some (@AV.ptr 1 0)) :: (some (boo false)) :: (some (int (0 : Int))) :: (nn32 []))) ((@Mem.mk ((0 + 1) + 1) 0 [e1, e2]) = (@Mem.mk 2 0 [e1, e2])))) (.need (@isSo (@And ((xs).length ≤ 17592186044416) (@And ((0 : Int) = (0 : Int)) ((ys).length = (xs).length)))) (.fork (@eqFrom xs ys) (.leaf (boo true)) (.leaf (boo false)))))) (.leaf (boo false)))) (by kernel_rfl) (by
    unfold sameQ
    refine fork_ok (fun h0 => fork_ok (fun h => ?_) (fun h => need_so ⟨rfl, rfl⟩ (need_so ⟨hx, rfl, ?_⟩ (fork_ok (fun h2 => ?_) (fun h2 => ?_))))) (fun h0 => ?_)
    · simp only [Bool.not_eq_true', Bool.not_eq_false', leI_t, leI_f, eqI_t, eqI_f, inR_t, inR_f, isSo_t, isSo_f] at h
      rw [decide_eq_false (by omega), Bool.false_and, Bool.and_false]; exact rfl
    · simp only [Bool.not_eq_true', Bool.not_eq_false', leI_t, leI_f, eqI_t, eqI_f, inR_t, inR_f, isSo_t, isSo_f] at h
      omega
    · simp only [Bool.not_eq_true', Bool.not_eq_false', leI_t, leI_f, eqI_t, eqI_f, inR_t, inR_f, isSo_t, isSo_f] at h
      have h0' : bytesEq s.data.toList t.data.toList = true := by simpa using h0
      rw [decide_eq_true (by omega), h2, h0']; exact rfl
    · simp only [Bool.not_eq_true', Bool.not_eq_false', leI_t, leI_f, eqI_t, eqI_f, inR_t, inR_f, isSo_t, isSo_f] at h
      rw [h2, Bool.and_false, Bool.and_false]; exact rfl
    · have h0' : bytesEq s.data.toList t.data.toList = false := by simpa using h0
      rw [h0']; exact rfl)
def eqK (x y : TokV) : Bool := eqI x.kind y.kind && (bytesEq x.text.data.toList y.text.data.toList && (eqI x.n y.n && true))
def diffK (xs ys : List TokV) (i : Nat) : Bool := !eqK (xs.getD i tok0) (ys.getD i tok0)
theorem Sy.tsm_scan (xs ys : List TokV) (hl : eqI xs.length ys.length = true) (hx : xs.length ≤ 17592186044416) : LoopTo Try.prog (theBody Try.prog 10 5) (xs.length + 1) (tsF xs ys 0) M0 fun ex F' M' => M' = M0 ∧ ((0 ≤ idxN (diffK xs ys) xs.length ∧ ex = .ret ∧ F' = tsF xs ys (idxN (diffK xs ys) xs.length)) ∨ (idxN (diffK xs ys) xs.length = -1 ∧ ex = .exit 0 ∧ F' = tsF xs ys xs.length)) :=
  scanN xs.length (diffK xs ys) (fun k => tsF xs ys k) (fun k => tsF xs ys k) M0 fun k n G h0 h1 c1 c2 c3 => by
    refine roundL [] [] 400 30 10 5 Try.func10 rfl (by kernel_rfl) (true :: true :: false :: false :: true :: true :: (ff20 [])) (.br (.yes (.yes (.br .done .done))) .done) (let e1 := (@Value.tuple (@Array.mk _ [])); let e2 := (some (@AV.view (xs).length 3 (fun y0 => (fun y1 => (@AV.lit ([(@Value.int IntKind.i64 ((xs.getD y0 tok0)).kind), (@Value.string ((xs.getD y0 tok0)).text), (@Value.int IntKind.i64 ((xs.getD y0 tok0)).n)].getD y1 e1)))))); let e3 := (some (@AV.view (ys).length 3 (fun y0 => (fun y1 => (@AV.lit ([(@Value.int IntKind.i64 ((ys.getD y0 tok0)).kind), (@Value.string ((ys.getD y0 tok0)).text), (@Value.int IntKind.i64 ((ys.getD y0 tok0)).n)].getD y1 e1)))))); (.fork (!(leI (((xs).length : Nat) : Int) k)) (.need (@inR k (xs).length) (.need (@inR k (ys).length) (.fork (!((eqI ((xs.getD (k).toNat tok0)).kind ((ys.getD (k).toNat tok0)).kind) && ((@bytesEq (@Array.toList _ (@ByteArray.data ((xs.getD (k).toNat tok0)).text)) (@Array.toList _ (@ByteArray.data ((ys.getD (k).toNat tok0)).text))) && ((eqI ((xs.getD (k).toNat tok0)).n ((ys.getD (k).toNat tok0)).n) && true)))) (.leaf (Ex.ret, ((e2 :: e3 :: none :: none :: (some (boo false)) :: (some (int k)) :: (nn20 [])), (@Mem.mk 0 0 [])))) (.leaf (Ex.norm, ((e2 :: e3 :: none :: none :: (some (boo false)) :: (some (int (w64 (k + (1 : Int))))) :: (nn20 [])), (@Mem.mk 0 0 []))))))) (.leaf ((@Ex.exit 0), ((e2 :: e3 :: none :: none :: (some (boo false)) :: (some (int k)) :: (nn20 [])), (@Mem.mk 0 0 [])))))) (by kernel_rfl) ?_
    rw [eqI_t] at hl
    have hm : xs.length ≤ 17592186044416 := hx
    refine fork_ok (fun h => ?_) (fun h => ?_)
    · simp only [Bool.not_eq_true', Bool.not_eq_false', leI_t, leI_f, eqI_t, eqI_f, inR_t, inR_f, isSo_t, isSo_f] at h
      have hr : inR k xs.length = true := by rw [inR_t]; omega
      have hr2 : inR k ys.length = true := by rw [inR_t]; omega
      refine need_t hr (need_t hr2 ((fork_ok (fun h2 => c2 (by omega) h2) (fun h2 => ?_))))
      rw [w64_in (r := k + 1) (by omega)]
      exact c1 (by omega) h2
    · simp only [Bool.not_eq_true', Bool.not_eq_false', leI_t, leI_f, eqI_t, eqI_f, inR_t, inR_f, isSo_t, isSo_f] at h
      exact c3 (by omega)
namespace Sy
noncomputable abbrev lp_tsm (xs ys : List TokV) : Lp Try.prog where
  f := 10
  key := 5
  S := formS (fun F M => slotI F 5) (fun k => tsF xs ys k) (fun _ => M0) (fun k => (eqI xs.length ys.length = true ∧ xs.length ≤ 17592186044416) ∧ k = 0) (fun k => .fork (anyN (diffK xs ys) xs.length) (.leaf (.ret, (some ((@AV.view (xs).length 3 (fun x647891 => (fun x104383 => (@AV.lit ([(@Value.int IntKind.i64 ((xs.getD x647891 tok0)).kind), (@Value.string ((xs.getD x647891 tok0)).text), (@Value.int IntKind.i64 ((xs.getD x647891 tok0)).n)].getD x104383 (@Value.tuple (@Array.mk _ [])))))))) :: some ((@AV.view (ys).length 3 (fun x197846 => (fun x704762 => (@AV.lit ([(@Value.int IntKind.i64 ((ys.getD x197846 tok0)).kind), (@Value.string ((ys.getD x197846 tok0)).text), (@Value.int IntKind.i64 ((ys.getD x197846 tok0)).n)].getD x704762 (@Value.tuple (@Array.mk _ [])))))))) :: none :: none :: some ((boo false)) :: (nn21 [])), M0)) (.leaf (.exit 0, (some ((@AV.view (xs).length 3 (fun x647891 => (fun x104383 => (@AV.lit ([(@Value.int IntKind.i64 ((xs.getD x647891 tok0)).kind), (@Value.string ((xs.getD x647891 tok0)).text), (@Value.int IntKind.i64 ((xs.getD x647891 tok0)).n)].getD x104383 (@Value.tuple (@Array.mk _ [])))))))) :: some ((@AV.view (ys).length 3 (fun x197846 => (fun x704762 => (@AV.lit ([(@Value.int IntKind.i64 ((ys.getD x197846 tok0)).kind), (@Value.string ((ys.getD x197846 tok0)).text), (@Value.int IntKind.i64 ((ys.getD x197846 tok0)).n)].getD x704762 (@Value.tuple (@Array.mk _ [])))))))) :: none :: none :: some ((boo false)) :: (nn21 [])), M0))) (true :: true :: false :: false :: true :: true :: (ff20 []))
  one := by kernel_rfl
  ok := formS_ok fun k ⟨h1, h2⟩ => by
    subst h2
    refine ⟨xs.length + 1, ?_⟩
    refine ((Sy.tsm_scan xs ys h1.1 h1.2).out (true :: true :: false :: false :: true :: (ff21 []))).mono fun ex F M hg => ?_
    obtain ⟨F0, ⟨hM, hg⟩, rfl⟩ := hg
    rcases hg with ⟨q1, rfl, rfl⟩ | ⟨q1, rfl, rfl⟩
    · exact .inl ⟨by rw [← anyN_idx, leI_t]; exact q1, by rw [hM]; rfl⟩
    · exact .inr ⟨by rw [← anyN_idx, leI_f, q1]; omega, by rw [hM]; rfl⟩
end Sy
theorem Sy.tsm_t (xs ys : List TokV) (hx : xs.length ≤ 17592186044416) : CallTo Try.prog 10 [kv xs, kv ys] M0 fun v _ => v = boo (eqI xs.length ys.length && !anyN (diffK xs ys) xs.length) :=
  toV [] [lp_tsm xs ys] 400 30 (.br .done (.br .done .done)) (let e1 := (eqI (((xs).length : Nat) : Int) (((ys).length : Nat) : Int)); let e2 := (@Value.tuple (@Array.mk _ [])); let e3 := (some (@AV.view (xs).length 3 (fun y0 => (fun y1 => (@AV.lit ([(@Value.int IntKind.i64 ((xs.getD y0 tok0)).kind), (@Value.string ((xs.getD y0 tok0)).text), (@Value.int IntKind.i64 ((xs.getD y0 tok0)).n)].getD y1 e2)))))); let e4 := (some (@AV.view (ys).length 3 (fun y0 => (fun y1 => (@AV.lit ([(@Value.int IntKind.i64 ((ys.getD y0 tok0)).kind), (@Value.string ((ys.getD y0 tok0)).text), (@Value.int IntKind.i64 ((ys.getD y0 tok0)).n)].getD y1 e2)))))); (.fork (!e1) (.leaf (boo false)) (.need (@isSo (@And ((e3 :: e4 :: (none :: none :: (some (boo false)) :: (some (int (0 : Int))) :: (nn20 []))) = (e3 :: e4 :: none :: none :: (some (boo false)) :: (some (int (0 : Int))) :: (nn20 []))) ((@Mem.mk 0 0 []) = M0))) (.need (@isSo (@And (@And (e1 = true) ((xs).length ≤ 17592186044416)) ((0 : Int) = (0 : Int)))) (.fork (@anyN (@diffK xs ys) (xs).length) (.leaf (boo false)) (.leaf (boo true))))))) (by kernel_rfl) (by
    refine fork_ok (fun h => ?_) (fun h => need_so ⟨rfl, rfl⟩ (need_so ⟨⟨by simpa using h, hx⟩, rfl⟩ (fork_ok (fun h2 => ?_) (fun h2 => ?_))))
    · simp only [Bool.not_eq_true'] at h
      rw [h]; exact rfl
    · rw [h2]; refine leaf_boo ?_; simp
    · rw [h2]; refine leaf_boo ?_; simpa using h)
theorem sameQ_self (s : ByteArray) (xs : List QNodeV) : sameQ s s xs xs = true := by
  unfold sameQ
  rw [bytesEq_self, decide_eq_true rfl, eqFrom_self]
  rfl
theorem eqK_self (t : TokV) : eqK t t = true := by
  unfold eqK
  rw [eqI_self, bytesEq_self, eqI_self]
  rfl
end Go.Proofs.Ytlmanlpgknhfpaa
namespace Go.Proofs.Ytlmanlpgknhfpaa
open Go.RowKit Go.ChangeShapes Go.WideShapes Go.ChangeAt Go.Deep
section
variable {H : Type} {enc : TypeId × Value → H} {W : World}
theorem weightsAll_mem {P : Program} {e : TypeId} {n : Nat} : ∀ (l : List (DataW H)) (d : DataW H), d ∈ l → n ∈ d.weights P e → n ∈ DataW.weightsAll P e l
  | d' :: r, d, hd, hn => by
    unfold DataW.weightsAll
    rcases List.mem_cons.1 hd with rfl | hd
    · exact List.mem_append_left _ hn
    · exact List.mem_append_right _ (weightsAll_mem r d hd hn)
def FitsD (P : Program) (t : TypeId) (d : DataW H) : Prop := ∀ n ∈ d.weights P t, n ≤ reachBytes
theorem rows_in {α : Type} [Inhabited α] {cells : α → List Value} {s : Nat} {t e : TypeId} {P : Program} {fuel : Nat} {c : Value} {x : DataW H × List MemPlace} (Q : α → Prop)
    (ht : P.underlying t = some (.slice e)) (hce : P.cellsOf e = s) (hs : 0 < s) (hbe : 8 ≤ P.bytesOf e) (hsz : FitsD P t x.1)
    (helem : ∀ n cs x, DataW.trod enc P W 0 (fun _ => true) true n e cs = some x → FitsD P e x.1 → (∀ z ∈ x.2, z.block < W.heap.size) → ∃ y : α, cs = cells y ∧ Q y)
    (h : DataW.trod enc P W 0 (fun _ => true) true fuel t [c] = some x) (hlt : ∀ z ∈ x.2, z.block < W.heap.size) :
    ∃ (a : Option Addr) (xs : List α) (cap : Nat), c = .slice a xs.length cap ∧ Rows cells s W a cap xs ∧ ∀ y ∈ xs, Q y := by
  rcases open_slice ht h with ⟨hc, _⟩ | ⟨a, len, cap, m, n, D, Pl, hc, hb, hl, hm, hmm, hx, hel⟩
  · simp at hc
    subst hc
    exact ⟨none, [], 0, rfl, ⟨by simp, by simp, by simp, fun _ => rfl, fun h => absurd rfl h⟩, by simp⟩
  · simp at hc
    subst hc
    simp only [if_true] at hmm
    subst hmm
    subst hx
    have hlen : len ≤ 17592186044416 := by
      have := hsz ((((List.range len).map D).length + ((List.range (m - len)).map fun j => D (len + j)).length) * P.bytesOf e) (by simp [DataW.weights, ht])
      simp at this
      have h3 : len * 8 ≤ (len + (m - len)) * P.bytesOf e := Nat.mul_le_mul (by omega) hbe
      have h4 : reachBytes = 140737488351232 := by decide
      omega
    have key : ∀ i, i < len → ∃ y : α, W.cells? 0 (a.add (i * s)) s = some (cells y) ∧ Q y := by
      intro i hi
      obtain ⟨cs', h1, h2⟩ := hel i (by omega)
      rw [hce] at h1
      obtain ⟨y, rfl, hq⟩ := helem n cs' _ h2 (fun n hn => hsz n (by
        show n ∈ DataW.weights P t (.slice _ _)
        unfold DataW.weights
        rw [ht]
        exact List.mem_cons_of_mem _ (List.mem_append_left _ (weightsAll_mem _ (D i) (List.mem_map.2 ⟨i, by simpa using hi, rfl⟩) hn)))) (fun z hz => hlt z (by
        simp only [List.mem_append, List.mem_flatMap]
        exact Or.inr ⟨i, by simp; omega, hz⟩))
      exact ⟨y, h1, hq⟩
    obtain ⟨F, hF⟩ := choose_lt key
    refine ⟨some a, (List.range len).map F, m, by simp, ⟨by simpa using hl, by simpa [maxLen] using hm, by simpa using hlen, (fun h => by cases h), fun hne => ?_⟩, ?_⟩
    · have h0 : 0 < len := by
        rcases Nat.eq_zero_or_pos len with h0 | h0
        · subst h0; exact absurd rfl hne
        · exact h0
      obtain ⟨b, off, spot⟩ := a
      have hspot : spot = none := by
        have h1 := (hF 0 h0).1
        obtain ⟨_, hlen, hc⟩ := World.cells?_some h1
        have hc0 := hc 0 (by omega)
        rw [List.getElem?_eq_getElem (by omega)] at hc0
        have := World.cell?_spot hc0
        simpa [Addr.add] using this
      subst hspot
      refine ⟨b, off, rfl, ?_, ?_⟩
      · exact hlt (.cell b off) (by
          simp only [List.mem_append]
          exact Or.inl (MemPlace.mem_row.2 ⟨0, Nat.mul_pos (by omega) (by rw [hce]; exact hs), by simp⟩))
      · intro k hk j u hu
        have hk' : k < len := by simpa using hk
        obtain ⟨_, hlen, hc⟩ := World.cells?_some (hF k hk').1
        simp only [List.getElem_map, List.getElem_range] at hu
        have hj : j < s := by
          rcases Nat.lt_or_ge j s with h' | h'
          · exact h'
          · rw [List.getElem?_eq_none (by omega)] at hu; cases hu
        have := hc j hj
        rw [hu] at this
        rw [← this, add_add]
        unfold Addr.add
        split
        · rename_i hz
          have : k * s = 0 ∧ j = 0 := by omega
          simp [this.1, this.2]
        · simp [Nat.add_assoc]
    · intro y hy
      obtain ⟨i, hi, rfl⟩ := List.mem_map.1 hy
      exact (hF i (by simpa using hi)).2
end
end Go.Proofs.Ytlmanlpgknhfpaa
namespace Go.Proofs.Ytlmanlpgknhfpaa
open Go Go.RowKit Go.ChangeShapes Go.WideShapes Go.ChangeAt Go.Deep
section
variable {H : Type} {enc : TypeId × Value → H} {W : World}
theorem qInt_ : Try.prog.cellsOf 3 = 1 := by kernel_rfl
theorem qStr_ : Try.prog.cellsOf 9 = 1 := by kernel_rfl
theorem cBound_ : Try.prog.cellsOf 43 = 3 := by kernel_rfl
theorem cQNode_ : Try.prog.cellsOf 45 = 9 := by kernel_rfl
theorem bQNode_ : Try.prog.bytesOf 45 = 72 := by kernel_rfl
theorem cQuery_ : Try.prog.cellsOf 24 = 2 := by kernel_rfl
theorem cQNodes_ : Try.prog.cellsOf 22 = 1 := by kernel_rfl
set_option maxRecDepth 100000 in
theorem elem_bound {n : Nat} {cs : List Value} {x : DataW H × List MemPlace} (h : DataW.trod enc Try.prog W 0 (fun _ => true) true n 43 cs = some x) :
    ∃ o e d : Int, cs = [.int .i64 o, .int .i64 e, .int .i64 d] := by
  obtain ⟨y0, y1, y2, m, _, hl, h0, h1, h2⟩ := trod_struct3 Try.underlying43 h
  rw [cBound_] at hl
  match cs, hl with
  | [c0, c1, c2], _ =>
    have f0 : DataW.trod enc Try.prog W 0 (fun _ => true) true m 3 (List.take (Try.prog.cellsOf 3) (List.drop 0 [c0, c1, c2])) = some y0 := h0
    have f1 : DataW.trod enc Try.prog W 0 (fun _ => true) true m 3 (List.take (Try.prog.cellsOf 3) (List.drop 1 [c0, c1, c2])) = some y1 := h1
    have f2 : DataW.trod enc Try.prog W 0 (fun _ => true) true m 3 (List.take (Try.prog.cellsOf 3) (List.drop 2 [c0, c1, c2])) = some y2 := h2
    rw [qInt_] at f0 f1 f2
    obtain ⟨n0, e0, _, w0⟩ := DataW.trod_int Try.underlying3 f0
    obtain ⟨n1, e1, _, w1⟩ := DataW.trod_int Try.underlying3 f1
    obtain ⟨n2, e2, _, w2⟩ := DataW.trod_int Try.underlying3 f2
    simp at e0 e1 e2
    exact ⟨n0, n1, n2, by rw [e0, e1, e2]⟩
set_option maxRecDepth 100000 in
theorem elem_qnode {n : Nat} {cs : List Value} {x : DataW H × List MemPlace} (h : DataW.trod enc Try.prog W 0 (fun _ => true) true n 45 cs = some x) :
    ∃ y : QNodeV, cs = y.cells ∧ True := by
  obtain ⟨xs, m, _, hx, hl, hlen, hf⟩ := DataW.trod_struct Try.underlying45 h
  rw [cQNode_] at hl
  match cs, hl with
  | [c0, c1, c2, c3, c4, c5, c6, c7, c8], _ =>
    have hlen5 : xs.length = 5 := hlen
    match xs, hlen5 with
    | [x0, x1, x2, x3, x4], _ =>
      have f0 : DataW.trod enc Try.prog W 0 (fun _ => true) true m 3 (List.take (Try.prog.cellsOf 3) (List.drop 0 [c0, c1, c2, c3, c4, c5, c6, c7, c8])) = some x0 := hf 0 _ rfl
      have f1 : DataW.trod enc Try.prog W 0 (fun _ => true) true m 3 (List.take (Try.prog.cellsOf 3) (List.drop 1 [c0, c1, c2, c3, c4, c5, c6, c7, c8])) = some x1 := hf 1 _ rfl
      have f2 : DataW.trod enc Try.prog W 0 (fun _ => true) true m 3 (List.take (Try.prog.cellsOf 3) (List.drop 2 [c0, c1, c2, c3, c4, c5, c6, c7, c8])) = some x2 := hf 2 _ rfl
      have f3 : DataW.trod enc Try.prog W 0 (fun _ => true) true m 43 (List.take (Try.prog.cellsOf 43) (List.drop 3 [c0, c1, c2, c3, c4, c5, c6, c7, c8])) = some x3 := hf 3 _ rfl
      have f4 : DataW.trod enc Try.prog W 0 (fun _ => true) true m 43 (List.take (Try.prog.cellsOf 43) (List.drop 6 [c0, c1, c2, c3, c4, c5, c6, c7, c8])) = some x4 := hf 4 _ rfl
      rw [qInt_] at f0 f1 f2
      rw [cBound_] at f3 f4
      obtain ⟨n0, e0, _, w0⟩ := DataW.trod_int Try.underlying3 f0
      obtain ⟨n1, e1, _, w1⟩ := DataW.trod_int Try.underlying3 f1
      obtain ⟨n2, e2, _, w2⟩ := DataW.trod_int Try.underlying3 f2
      obtain ⟨a3, a4, a5, e3⟩ := elem_bound f3
      obtain ⟨a6, a7, a8, e4⟩ := elem_bound f4
      simp at e0 e1 e2 e3 e4
      obtain ⟨e3, e5, e6⟩ := e3
      obtain ⟨e4, e7, e8⟩ := e4
      exact ⟨⟨n0, n1, n2, a3, a4, a5, a6, a7, a8⟩, by rw [e0, e1, e2, e3, e5, e6, e4, e7, e8]; rfl, trivial⟩
set_option maxRecDepth 100000 in
theorem elem_query {n : Nat} {cs : List Value} {x : DataW H × List MemPlace} (h : DataW.trod enc Try.prog W 0 (fun _ => true) true n 24 cs = some x) (hsz : FitsD Try.prog 24 x.1) (hz : ∀ z ∈ x.2, z.block < W.heap.size) :
    ∃ (s : ByteArray) (a : Option Addr) (cap : Nat) (xs : List QNodeV), cs = [.string s, .slice a xs.length cap] ∧ s.size ≤ maxLen ∧ Rows QNodeV.cells 9 W a cap xs := by
  obtain ⟨y0, y1, m, hx, hl, h0, h1⟩ := trod_struct2 Try.underlying24 h
  rw [cQuery_] at hl
  match cs, hl with
  | [c0, c1], _ =>
    have f0 : DataW.trod enc Try.prog W 0 (fun _ => true) true m 9 (List.take (Try.prog.cellsOf 9) (List.drop 0 [c0, c1])) = some y0 := h0
    have f1 : DataW.trod enc Try.prog W 0 (fun _ => true) true m 22 (List.take (Try.prog.cellsOf 22) (List.drop 1 [c0, c1])) = some y1 := h1
    rw [qStr_] at f0
    rw [cQNodes_] at f1
    obtain ⟨n0, e0, _, w0⟩ := DataW.trod_string Try.underlying9 f0
    simp at e0
    subst hx
    have hz1 : ∀ z ∈ y1.2, z.block < W.heap.size := fun z h => hz z (by simp [h])
    have hs1 : FitsD Try.prog 22 y1.1 := fun n hn => hsz n (by
      show n ∈ DataW.weights Try.prog 24 (.agg _)
      unfold DataW.weights
      rw [Try.underlying24]
      exact DataW.weights_mem_each (j := 1) (t := 22) (d := y1.1) rfl rfl n hn)
    have f1' : DataW.trod enc Try.prog W 0 (fun _ => true) true m 22 [c1] = some y1 := f1
    obtain ⟨a1, xs, cap1, E1, R1, _⟩ := rows_in (cells := QNodeV.cells) (fun y : QNodeV => True) Try.underlying22 cQNode_ (by omega) (by rw [bQNode_]; omega) hs1 (fun n cs x hx _ _ => elem_qnode hx) f1' hz1
    exact ⟨n0, a1, cap1, xs, by rw [e0, E1], w0, R1⟩
set_option maxRecDepth 100000 in
theorem open_query {r : Reach} {b : Nat} {v : Value} {d : DataW H} {p : List MemPlace} (hv : Value.okWide Try.prog W r b 24 v) (h : DataW.Trod enc Try.prog W 0 (fun _ => true) true 24 v d p) (hlt : ∀ x ∈ p, x.block < W.heap.size) (hsz : FitsD Try.prog 24 d) :
    ∃ (s : ByteArray) (a : Option Addr) (cap : Nat) (xs : List QNodeV), v = .agg #[.string s, .slice a xs.length cap] ∧ s.size ≤ maxLen ∧ Rows QNodeV.cells 9 W a cap xs := by
  obtain ⟨cs, rfl, hs⟩ := okWide_struct Try.underlying24 hv
  obtain ⟨fuel, hf⟩ := h
  have hv1 : (Value.agg cs).cells.toList = cs.toList := rfl
  rw [hv1] at hf
  obtain ⟨s, a, cap, xs, e, h1, h2⟩ := elem_query hf hsz hlt
  refine ⟨s, a, cap, xs, ?_, h1, h2⟩
  show Value.agg cs = .agg #[.string s, .slice a xs.length cap]
  congr 1
  exact Array.toList_inj.1 e
end
theorem rel_view {α : Type} {cells : α → List Value} {s : Nat} (d : α) {W : World} {a : Option Addr} {cap : Nat} {xs : List α} (h : Rows cells s W a cap xs) (hc : ∀ x, (cells x).length = s) (ho : ∀ x, ∀ u ∈ cells x, u.oneCell' = true) : Sy.rel (Sy.rho0 W) (Sy.viewOf cells d s xs) (.slice a xs.length cap) := by
  simp only [Sy.viewOf, Sy.rel]
  refine ⟨a, cap, rfl, h.le, h.max, h.nil, fun hn => ?_⟩
  obtain ⟨b, off, rfl, hb, hcell⟩ := h.base (fun e => by rw [e] at hn; simp at hn)
  refine ⟨b, off, rfl, fun i j hi hj => ?_⟩
  have hg : xs.getD i d = xs[i] := by rw [List.getD_eq_getElem?_getD, List.getElem?_eq_getElem hi]; rfl
  have hj' : j < (cells xs[i]).length := by rw [hc]; exact hj
  have hu : (cells xs[i])[j]? = some (cells xs[i])[j] := List.getElem?_eq_getElem hj'
  refine ⟨(cells xs[i])[j], ?_, ?_, ho _ _ (List.getElem_mem _)⟩
  · simp only [Sy.rho0, if_pos hb]
    exact hcell i hi j _ hu
  · rw [hg, List.getD_eq_getElem?_getD, hu]
    simp
theorem rel_qview {W : World} {a : Option Addr} {cap : Nat} {xs : List QNodeV} (h : Rows QNodeV.cells 9 W a cap xs) : Sy.rel (Sy.rho0 W) (Sy.qview xs) (.slice a xs.length cap) :=
  rel_view QNodeV.zero h (fun _ => rfl) (fun x u hu => by
    simp [QNodeV.cells] at hu
    rcases hu with rfl | rfl | rfl | rfl | rfl | rfl | rfl | rfl | rfl <;> rfl)
theorem rel_query {W : World} {s : ByteArray} {a : Option Addr} {cap : Nat} {xs : List QNodeV} (h : Rows QNodeV.cells 9 W a cap xs) : Sy.rel (Sy.rho0 W) (Sy.query s xs) (.agg #[.string s, .slice a xs.length cap]) := by
  simp only [Sy.rel]
  refine ⟨[.string s, .slice a xs.length cap], rfl, ?_⟩
  simp only [Sy.rels]
  exact ⟨_, _, rfl, by simp only [Sy.rel], _, _, rfl, rel_qview h, rfl⟩
theorem Sy.law_true {f : FuncId} {args : List Sy.AV} {us : List Value} {W : World} (h : Sy.CallTo Try.prog f args Sy.M0 fun v _ => v = Sy.boo true) (hr : Sy.rels (Sy.rho0 W) args us) : Calls Try.prog f us.toArray W fun e w' => e = .returned (.bool true) ∧ Below W.heap.size W w' :=
  ((h.mono (H := fun v _ => ∃ u, v = .lit u ∧ u = .bool true) fun v _ e => ⟨_, e, rfl⟩).calls hr).mono fun e w' ⟨⟨u, h1, h2⟩, h3⟩ => ⟨by rw [h1, h2], h3⟩
end Go.Proofs.Ytlmanlpgknhfpaa
namespace Go.Proofs.Ytlmanlpgknhfpaa
open Go Go.RowKit Pl Sy
noncomputable abbrev Sy.cKnown08 : Con Try.prog := at1 6 [] (boo true) True fun _ => ⟨⟨trivial, trivial⟩, (CallTo.of_calls (us := []) known08 M0).mono fun _ _ h => h.1⟩
noncomputable abbrev Sy.cRightR8 (s : ByteArray) (xs : List QNodeV) : Con Try.prog := at1 8 [Sy.query s xs] (boo (rightQ s xs)) (s.size ≤ maxLen ∧ xs.length ≤ 17592186044416) fun h => ⟨⟨⟨qv_free s xs, trivial⟩, trivial⟩, right_ref s xs h.1 h.2⟩
noncomputable abbrev Sy.cTsm (xs ys : List TokV) : Con Try.prog := at1 10 [kv xs, kv ys] (boo (eqI xs.length ys.length && !anyN (diffK xs ys) xs.length)) (xs.length ≤ 17592186044416) fun h => ⟨⟨⟨kv_free xs, kv_free ys, trivial⟩, trivial⟩, tsm_t xs ys h⟩
noncomputable abbrev Sy.cSer (s t : ByteArray) (xs ys : List QNodeV) : Con Try.prog := at1 12 [Sy.query s xs, Sy.query t ys] (boo (sameQ s t xs ys)) (xs.length ≤ 17592186044416) fun h => ⟨⟨⟨qv_free s xs, qv_free t ys, trivial⟩, trivial⟩, ser_t s t xs ys h⟩
theorem any_self (l : List TokV) : anyN (diffK l l) l.length = false := by
  unfold anyN
  rw [List.any_eq_false]
  intro k hk
  unfold diffK
  rw [eqK_self]
  decide
theorem Sy.prints_t (s : ByteArray) (xs : List QNodeV) (hs : s.size ≤ maxLen) : CallTo Try.prog 3 [Sy.query s xs] M0 fun v _ => v = boo true :=
  toV [cKnown08, cQpr s xs, cRightR8 s xs, cQps (prT s xs), cRtk s xs, cTsm (prT s xs) (qryT s xs), cSer (rdS (prT s xs)) s (rdN (prT s xs)) xs] [] 400 30 (.br (.yes .done) (.yes (.yes (.br (.br (.auto 2 (.br (.yes (.auto 0 .done)) (.auto 0 .done))) (.auto 4 .done)) (.yes (.br (.auto 1 (.yes (.auto 0 (.yes (.auto 0 (.br (.auto 1 (.br (.auto 1 (.yes (.auto 0 (.br (.yes (.auto 0 .done)) (.auto 0 .done))))) (.auto 4 .done))) (.auto 7 .done))))))) (.auto 12 .done))))))) (let e1 := (@AV.agg [(@AV.lit (@Value.string s)), (@qview xs)]); let e2 := ((@HAppend.hAppend _ _ _ _ (@HAppend.hAppend _ _ _ _ [] [e1]) []) = [(@query s xs)]); let e3 := ((@ByteArray.size s) ≤ 9223372036854775807); let e4 := ((xs).length ≤ 17592186044416); let e5 := (@prT s xs); let e6 := (@Value.tuple (@Array.mk _ [])); let e7 := (@AV.view (e5).length 3 (fun y0 => (fun y1 => (@AV.lit ([(@Value.int IntKind.i64 ((e5.getD y0 tok0)).kind), (@Value.string ((e5.getD y0 tok0)).text), (@Value.int IntKind.i64 ((e5.getD y0 tok0)).n)].getD y1 e6))))); let e8 := (@AV.view ((@qryT s xs)).length 3 (fun y0 => (fun y1 => (@AV.lit ([(@Value.int IntKind.i64 (((@qryT s xs).getD y0 tok0)).kind), (@Value.string (((@qryT s xs).getD y0 tok0)).text), (@Value.int IntKind.i64 (((@qryT s xs).getD y0 tok0)).n)].getD y1 e6))))); let e9 := (@AV.lit (@Value.string (@rdS e5))); (.fork (!(leI (((xs).length : Nat) : Int) (60 : Int))) (.need (@isSo (@And ((@HAppend.hAppend _ _ _ _ (@HAppend.hAppend _ _ _ _ ([] : List AV) ([] : List AV)) []) = []) True)) (.leaf (boo true))) (.need (@isSo (@And e2 (@And ((xs).length ≤ 100000) (@And e3 (@PrnOk s xs))))) (.need (@isSo (@And e2 (@And e3 e4))) (.fork (!(@rightQ s xs)) (.fork (eqI (@prE s xs) (21 : Int)) (.fork (eqI (((e5).length : Nat) : Int) (0 : Int)) (.need (@isSo (@And ((@HAppend.hAppend _ _ _ _ (@HAppend.hAppend _ _ _ _ ([] : List AV) ([] : List AV)) []) = []) True)) (.leaf (boo true))) (.leaf (boo false))) (.leaf (boo false))) (.need (@isSo (@And ((@HAppend.hAppend _ _ _ _ (@HAppend.hAppend _ _ _ _ [] [e7]) []) = [e7]) (@And ((e5).length ≤ 100000) (@TxtOk e5)))) (.fork (eqI (@prE s xs) (0 : Int)) (.need (@isSo (@And e2 (@And e4 (@And (((@rdK xs (xs).length)).C (0 : Int)) ((((@qryT s xs)).length + 2) ≤ 1000000))))) (.need (@isSo (@And ((@HAppend.hAppend _ _ _ _ (@HAppend.hAppend _ _ _ _ [] [e7, e8]) []) = [e7, e8]) ((e5).length ≤ 17592186044416))) (.fork ((eqI (((e5).length : Nat) : Int) ((((@qryT s xs)).length : Nat) : Int)) && (!(@anyN (@diffK e5 (@qryT s xs)) (e5).length))) (.fork (eqI (@rdE e5) (0 : Int)) (.need (@isSo (@And ((@HAppend.hAppend _ _ _ _ (@HAppend.hAppend _ _ _ _ [] [(@AV.agg (@List.take _ 2 (e9 :: (@qview (@rdN e5)) :: (@List.drop _ (0 + ([e9, (@qview (@rdN e5))]).length) [(@AV.lit (@Value.string (@ByteArray.mk (@Array.mk _ [])))), (@AV.lit (@Value.slice none 0 0))])))), e1]) []) = [(@query (@rdS e5) (@rdN e5)), (@query s xs)]) (((@rdN e5)).length ≤ 17592186044416))) (.fork (@sameQ (@rdS e5) s (@rdN e5) xs) (.need (@isSo (@And ((@HAppend.hAppend _ _ _ _ (@HAppend.hAppend _ _ _ _ ([] : List AV) ([] : List AV)) []) = []) True)) (.leaf (boo true))) (.leaf (boo false)))) (.leaf (boo false))) (.leaf (boo false))))) (.leaf (boo false))))))))) (by kernel_rfl) (by
    refine fork_ok (fun h1 => need_so ⟨rfl, trivial⟩ rfl) (fun h1 => ?_)
    simp only [Bool.not_eq_true', Bool.not_eq_false', leI_t, leI_f, eqI_t, eqI_f, inR_t, inR_f, isSo_t, isSo_f] at h1
    refine need_so ⟨rfl, by omega, hs, right_prn s xs⟩ (need_so ⟨rfl, hs, by omega⟩ ?_)
    by_cases hr : rightQ s xs = true
    · have eT : prT s xs = qryT s xs := by unfold prT; rw [if_pos hr]
      have eE : prE s xs = 0 := by unfold prE; rw [if_pos hr]
      obtain ⟨r1, r2, r3⟩ := qry_read hr
      have hl := qry_len hr
      refine fork_f (by rw [hr]; rfl) ?_
      rw [eT, eE, r1, r2, r3]
      refine need_so ⟨rfl, by omega, qry_txt hr hs⟩ (fork_t rfl (need_so ⟨rfl, by omega, right_rd hr, by omega⟩ (need_so ⟨rfl, by omega⟩ (fork_t ?_ (fork_t rfl (need_so ⟨rfl, by omega⟩ (fork_t (sameQ_self s xs) (need_so ⟨rfl, trivial⟩ rfl))))))))
      rw [eqI_self, any_self]
      rfl
    · have hr : rightQ s xs = false := by simpa using hr
      have eT : prT s xs = [] := by unfold prT; rw [if_neg (by rw [hr]; decide)]
      have eE : prE s xs = 21 := by unfold prE; rw [if_neg (by rw [hr]; decide)]
      refine fork_t (by rw [hr]; rfl) (fork_t (by rw [eE]; rfl) (fork_t (by rw [eT]; rfl) (need_so ⟨rfl, trivial⟩ rfl))))
theorem prints_walk {s : ByteArray} {a : Option Addr} {cap : Nat} {xs : List QNodeV} {W : World} (hs : s.size ≤ maxLen) (hq : Rows QNodeV.cells 9 W a cap xs) :
    Calls Try.prog 3 #[.agg #[.string s, .slice a xs.length cap]] W fun e w' => e = .returned (.bool true) ∧ Below W.heap.size W w' :=
  Sy.law_true (Sy.prints_t s xs hs) (us := [_]) ⟨_, _, rfl, rel_query hq, rfl⟩
end Go.Proofs.Ytlmanlpgknhfpaa
