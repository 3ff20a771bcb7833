/-
  Layer 6: the reference's Decl.
-/
import Derived.Test.YtjljlcflmcjapaaDeclRef1
namespace Go.Proofs.Ytjljlcflmcjapaa
open Go Go.RowKit Pl Sy
set_option linter.unusedVariables false
set_option linter.unusedSimpArgs false
theorem Sy.CallTo.restamp {P : Program} {f : FuncId} {args : List AV} {M : Mem} {x : AV} (s : Nat) (h : CallTo P f args M fun v M' => v = x ∧ M' = M) : CallTo P f args M fun v M' => v = x ∧ M' = ⟨M.top, s, M.bs⟩ := fun w0 ρ us w hr hW =>
  (h w0 ρ us w hr hW).mono fun e w' ⟨ρ', u, v, M', q1, q2, q3, q4, q5, q6⟩ => ⟨ρ', u, v, ⟨M.top, s, M.bs⟩, q1, q2, q3, by subst q6; exact q4.restamp s, q5, rfl⟩
/-- one of five -/
abbrev p5 {α : Type} (y : Nat) (a b c d e : α) : α := Nat.rec (motive := fun _ => α) a (fun y _ => Nat.rec (motive := fun _ => α) b (fun y _ => Nat.rec (motive := fun _ => α) c (fun y _ => Nat.rec (motive := fun _ => α) d (fun y _ => e) y) y) y) y
/-- one callee, met more than once: told apart by the memory's stamp, which a call may raise -/
noncomputable def Sy.atU (f : FuncId) (up : Nat → Bool) (args0 : Nat → List AV) (v0 : Nat → AV) (C : Nat → Prop) (h : ∀ y, C y → (Frees (args0 y) ∧ Free (v0 y)) ∧ CallTo Try.prog f (args0 y) M0 fun v _ => v = v0 y) : Con Try.prog where
  f := f
  run := fun args M => some (v0 M.stamp, Bool.rec (motive := fun _ => Mem) M ⟨M.top, M.stamp + 1, M.bs⟩ (up M.stamp))
  ob := fun args M => some (isSo (args = args0 M.stamp ∧ C M.stamp))
  ok := fun args M v M' hr hob => by
    have h1 := hob _ rfl
    rw [isSo_t] at h1
    obtain ⟨rfl, hC⟩ := h1
    obtain ⟨⟨q1, q2⟩, q3⟩ := h _ hC
    have key := ((q3.mono fun v _ e => (⟨e ▸ q2, e⟩ : Free v ∧ v = v0 M.stamp)).frame q1 M).mono fun v' M' (q : M' = M ∧ v' = v0 M.stamp) => (⟨q.2, q.1⟩ : v' = v0 M.stamp ∧ M' = M)
    cases hu : up M.stamp with
    | true =>
      rw [hu] at hr
      simp at hr
      obtain ⟨rfl, rfl⟩ := hr
      exact ⟨⟨Nat.le_refl _, Nat.le_succ _, fun e => absurd e (by simp)⟩, Sy.CallTo.restamp _ key⟩
    | false =>
      rw [hu] at hr
      simp at hr
      obtain ⟨rfl, rfl⟩ := hr
      exact ⟨Grow.refl M, key⟩
theorem Sy.trimr_c (l : List TokV) (lo n : Nat) (h : lim l) (hb : lo + n ≤ l.length) (L : List TokV) (hL : L = trim ((l.drop lo).take n)) : (Frees [.view n 3 (cx l lo)] ∧ Free (kv L)) ∧ CallTo Try.prog 91 [.view n 3 (cx l lo)] M0 fun v _ => v = kv L := by
  refine ⟨⟨⟨fun i j => trivial, trivial⟩, kv_free _⟩, ?_⟩
  subst hL
  refine (trimr_t ((l.drop lo).take n) (take_lim _ (drop_lim _ h))).congr fun ρ us hr => ?_
  simp only [rels] at hr ⊢
  obtain ⟨u, us', rfl, r1, r2⟩ := hr
  exact ⟨u, us', rfl, sub_part l lo n n hb rfl _ rfl _ _ r1, r2⟩
noncomputable def trimC (p T R V A W : List TokV) (y : Nat) : Bool := isSo (p5 y (lim p ∧ T = trim p) ((lim T ∧ 1 ≤ T.length) ∧ R = trim (T.drop 1)) ((lim R ∧ 1 ≤ R.length) ∧ V = trim (R.drop 1)) (lim V ∧ A = trim (V.take (V.length - 1))) (lim A ∧ W = trim (A.take (A.length - 1))))
theorem trimC_0 {p T R V A W : List TokV} (h : lim p ∧ T = trim p) : trimC p T R V A W 0 = true := by unfold trimC; rw [isSo_t]; exact h
theorem trimC_1 {p T R V A W : List TokV} (h : (lim T ∧ 1 ≤ T.length) ∧ R = trim (T.drop 1)) : trimC p T R V A W 1 = true := by unfold trimC; rw [isSo_t]; exact h
theorem trimC_2 {p T R V A W : List TokV} (h : (lim R ∧ 1 ≤ R.length) ∧ V = trim (R.drop 1)) : trimC p T R V A W 2 = true := by unfold trimC; rw [isSo_t]; exact h
theorem trimC_3 {p T R V A W : List TokV} (h : lim V ∧ A = trim (V.take (V.length - 1))) : trimC p T R V A W 3 = true := by unfold trimC; rw [isSo_t]; exact h
theorem trimC_4 {p T R V A W : List TokV} (n : Nat) (h : lim A ∧ W = trim (A.take (A.length - 1))) : trimC p T R V A W (n + 4) = true := by unfold trimC; rw [isSo_t]; exact h
noncomputable abbrev Sy.cTrimU (p T R V A W : List TokV) : Con Try.prog := atU 91 (fun y => p5 y true true false true true)
  (fun y => p5 y [kv p] [.view (T.length - 1) 3 (cx T 1)] [.view (R.length - 1) 3 (cx R 1)] [.view (V.length - 1) 3 (cx V 0)] [.view (A.length - 1) 3 (cx A 0)])
  (fun y => p5 y (kv T) (kv R) (kv V) (kv A) (kv W))
  (fun y => trimC p T R V A W y = true) fun y hC => by
    unfold trimC at hC
    rw [isSo_t] at hC
    match y, hC with
    | 0, ⟨h1, h2⟩ => subst h2; exact ⟨⟨⟨kv_free _, trivial⟩, kv_free _⟩, trimr_t p h1⟩
    | 1, ⟨⟨h1, h3⟩, h2⟩ => exact trimr_c T 1 (T.length - 1) h1 (by omega) R (by rw [h2, List.take_of_length_le (by rw [List.length_drop]; omega)])
    | 2, ⟨⟨h1, h3⟩, h2⟩ => exact trimr_c R 1 (R.length - 1) h1 (by omega) V (by rw [h2, List.take_of_length_le (by rw [List.length_drop]; omega)])
    | 3, ⟨h1, h2⟩ => exact trimr_c V 0 (V.length - 1) h1 (by omega) A (by rw [h2, List.drop_zero])
    | _ + 4, ⟨h1, h2⟩ => exact trimr_c A 0 (A.length - 1) h1 (by omega) W (by rw [h2, List.drop_zero])
noncomputable abbrev Sy.cBrk : Con Try.prog := conT 93 (fun l _ => boo (brokenT l)) (fun l r => lim l ∧ r = []) fun l r ⟨h1, h2⟩ => by
  subst h2; exact ⟨⟨trivial, trivial⟩, brk_t l h1⟩
/-sy declr_t
fun (p T R V A W : List TokV) (d : D) => reckV [cTrimU p T R V A W, cBrk, cLoudR] [] 400 30 60 [kv p] M0 d
-/
theorem dropWhile_head {p : TokV → Bool} : ∀ {l : List TokV} {a : TokV} {m : List TokV}, l.dropWhile p = a :: m → p a = false
  | [], a, m, h => by simp at h
  | x :: l, a, m, h => by
    by_cases hx : p x = true
    · rw [List.dropWhile_cons, if_pos hx] at h; exact dropWhile_head h
    · rw [List.dropWhile_cons, if_neg hx] at h
      simp at h
      rw [← h.1]; simpa using hx
theorem trim_end (l : List TokV) (h : (trim l).length ≠ 0) : spB (lastT (trim l)) = false := by
  unfold trim at h ⊢
  cases hX : ((l.dropWhile spB).reverse.dropWhile spB) with
  | nil => rw [hX] at h; exact absurd rfl h
  | cons a m =>
    have := dropWhile_head hX
    have e : lastT (a :: m).reverse = a := by simp [lastT, tokAt]
    rw [e]; exact this
/-- what stands behind the first token, trimmed -/
theorem rest_eq (T : List TokV) (h0 : T.length ≠ 0) (h1 : spB (lastT T) = false) : trim (T.drop 1) = T.drop (behind T) ∧ behind T ≤ T.length := by
  have hb := fst_le (fun t => !spB t) T 1 (by omega)
  have hb2 : fstT (fun t => !spB t) T 1 = behind T := rfl
  rw [hb2] at hb
  refine ⟨?_, hb.2⟩
  have e1 := trim_pre (behind T - 1) (T.drop 1) (by rw [List.length_drop]; omega) fun j hj => by
    rw [tokAt_drop]
    have := fst_before (fun t => !spB t) T 1 (1 + j) (by omega) (by rw [hb2]; omega)
    simpa using this
  rw [List.drop_drop, show 1 + (behind T - 1) = behind T by omega] at e1
  rw [← e1]
  rcases Nat.lt_or_ge (behind T) T.length with h | h
  · refine trim_id _ (fun e => ?_) ?_ ?_
    · have := congrArg List.length e
      rw [List.length_drop, List.length_nil] at this; omega
    · rw [tokAt_drop, Nat.add_zero]
      have := fst_at (fun t => !spB t) T 1 (by rw [hb2]; exact h)
      rw [hb2] at this
      simpa using this
    · rw [tokAt_drop, List.length_drop, show behind T + (T.length - behind T - 1) = T.length - 1 by omega]
      exact h1
  · rw [List.drop_eq_nil_of_le h]; rfl
theorem declr_fin {T v : List TokV} {b : Bool} (hval : valueT T = (v, b)) (lv : lim v) (g1 : ¬ (T.length = 0 ∨ eqI (tokAt T 0).kind 1 = false)) (g2 : ¬ (T.length ≤ behind T ∨ eqI (tokAt T (behind T)).kind 10 = false)) :
    (Tr.fork (!(eqI ((v.length : Nat) : Int) 0)) (.need (isSo ([kv v] = [kv v] ∧ IsTok (cx0 v) ∧ lim (toks v.length (cx0 v)) ∧ ([] : List AV) = [])) (.fork (brokenT (toks v.length (cx0 v))) (.leaf (.tup [.agg [.lit (.string ⟨#[]⟩), .lit (.slice none 0 0), boo false], boo false])) (.leaf (.tup [.agg [.lit (.string (tokAt T 0).text), kv v, boo b], boo true])))) (.leaf (.tup [.agg [.lit (.string ⟨#[]⟩), .lit (.slice none 0 0), boo false], boo false]))).Ok fun x => x = Sy.declA (declL T) := by
  rw [toks_cx0]
  refine fork_ok (fun q1 => need_so ⟨rfl, rfl, lv, rfl⟩ (fork_ok (fun q2 => ?_) (fun q2 => ?_))) (fun q1 => ?_)
  · exact (declA_no (declL_3 g1 g2 (.inr (by rw [hval]; exact q2)))).symm
  · simp only [Bool.not_eq_true', Bool.not_eq_false', leI_t, leI_f, eqI_t, eqI_f, inR_t, inR_f, isSo_t, isSo_f] at q1
    have e := declL_4 g1 g2 (by
      rw [hval]; rintro (h | h)
      · simp only at h; omega
      · rw [q2] at h; cases h)
    rw [hval] at e
    show _ = Sy.declA (declL T)
    rw [e]
    rfl
  · simp only [Bool.not_eq_true', Bool.not_eq_false', leI_t, leI_f, eqI_t, eqI_f, inR_t, inR_f, isSo_t, isSo_f] at q1
    exact (declA_no (declL_3 g1 g2 (.inl (by rw [hval]; simp only; omega)))).symm
theorem Sy.declr_t (p : List TokV) (hp : limC p) : CallTo Try.prog 60 [kv p] M0 fun x _ => x = declA (declT p) := by
  obtain ⟨T, hT⟩ : ∃ T, T = trim p := ⟨_, rfl⟩
  obtain ⟨R, hR⟩ : ∃ R, R = trim (T.drop 1) := ⟨_, rfl⟩
  obtain ⟨V, hV⟩ : ∃ V, V = trim (R.drop 1) := ⟨_, rfl⟩
  obtain ⟨A, hA⟩ : ∃ A, A = trim (V.take (V.length - 1)) := ⟨_, rfl⟩
  obtain ⟨W, hW⟩ : ∃ W, W = trim (A.take (A.length - 1)) := ⟨_, rfl⟩
  have lp := hp.lim
  have lT : lim T := by rw [hT]; exact trim_lim lp
  have lR : lim R := by rw [hR]; exact trim_lim (drop_lim _ lT)
  have lV : lim V := by rw [hV]; exact trim_lim (drop_lim _ lR)
  have lA : lim A := by rw [hA]; exact trim_lim (take_lim _ lV)
  have lW : lim W := by rw [hW]; exact trim_lim (take_lim _ lA)
  have hend := trim_end p
  unfold declT
  rw [← hT] at hend ⊢
  refine toV [cTrimU p T R V A W, cBrk, cLoudR] [] 400 30 (.yes (.br (.auto 0 (.yes (.auto 3 (.br .done (.yes (.yes (.br (.auto 0 (.yes (.auto 3 (.br .done (.yes (.yes (.yes (.br (.auto 3 (.yes (.auto 3 (.br (.auto 3 (.yes (.auto 3 (.br (.yes (.yes (.br (.auto 3 (.yes (.auto 1 (.yes (.auto 0 (.br (.yes (.yes (.br (.auto 1 (.yes (.auto 0 (.br .done .done)))) (.auto 3 .done)))) (.br (.auto 1 (.yes (.auto 0 (.br .done .done)))) (.auto 3 .done)))))))) (.auto 7 (.br (.auto 1 (.yes (.auto 0 (.br .done .done)))) (.auto 3 .done)))))) (.br (.auto 1 (.yes (.auto 0 (.br .done .done)))) (.auto 3 .done)))))) (.auto 8 (.br (.auto 1 (.yes (.auto 0 (.br .done .done)))) (.auto 3 .done))))))) (.auto 17 (.br (.auto 1 (.yes (.auto 0 (.br .done .done)))) (.auto 3 .done))))))))))) (.auto 5 .done)))))))) (.auto 5 .done))) (.need (@isSo (@And ([(@AV.view (p).length 3 (fun x648114 => (fun x926963 => (@AV.lit ([(@Value.int IntKind.i64 ((p.getD x648114 tok0)).kind), (@Value.string ((p.getD x648114 tok0)).text), (@Value.int IntKind.i64 ((p.getD x648114 tok0)).n)].getD x926963 (@Value.tuple (@Array.mk _ [])))))))] = [(@AV.view (p).length 3 (fun x143412 => (fun x774748 => (@AV.lit ([(@Value.int IntKind.i64 ((p.getD x143412 tok0)).kind), (@Value.string ((p.getD x143412 tok0)).text), (@Value.int IntKind.i64 ((p.getD x143412 tok0)).n)].getD x774748 (@Value.tuple (@Array.mk _ [])))))))]) ((@trimC p T R V A W 0) = true))) (.fork (!(eqI (((T).length : Nat) : Int) (0 : Int))) (.need (@inR (0 : Int) (T).length) (.fork (!(eqI ((T.getD 0 tok0)).kind (1 : Int))) (.leaf (@AV.tup [(@AV.agg [(@AV.lit (@Value.string (@ByteArray.mk (@Array.mk _ [])))), (@AV.lit (@Value.slice none 0 0)), (boo false)]), (boo false)])) (.need (true && ((leI (1 : Int) (((T).length : Nat) : Int)) && (leI (((T).length : Nat) : Int) (((T).length : Nat) : Int)))) (.need (@isSo (@And ([(@AV.view (((((T).length : Nat) : Int)).toNat - 1) 3 (fun x233393 => (fun x217049 => (@AV.lit ([(@Value.int IntKind.i64 ((T.getD (1 + x233393) tok0)).kind), (@Value.string ((T.getD (1 + x233393) tok0)).text), (@Value.int IntKind.i64 ((T.getD (1 + x233393) tok0)).n)].getD x217049 (@Value.tuple (@Array.mk _ [])))))))] = [(@AV.view ((T).length - 1) 3 (fun x425102 => (fun x466343 => (@AV.lit ([(@Value.int IntKind.i64 ((T.getD (1 + x425102) tok0)).kind), (@Value.string ((T.getD (1 + x425102) tok0)).text), (@Value.int IntKind.i64 ((T.getD (1 + x425102) tok0)).n)].getD x466343 (@Value.tuple (@Array.mk _ [])))))))]) ((@trimC p T R V A W (0 + 1)) = true))) (.fork (!(eqI (((R).length : Nat) : Int) (0 : Int))) (.need (@inR (0 : Int) (R).length) (.fork (!(eqI ((R.getD 0 tok0)).kind (10 : Int))) (.leaf (@AV.tup [(@AV.agg [(@AV.lit (@Value.string (@ByteArray.mk (@Array.mk _ [])))), (@AV.lit (@Value.slice none 0 0)), (boo false)]), (boo false)])) (.need (@inR (0 : Int) (T).length) (.need (true && ((leI (1 : Int) (((R).length : Nat) : Int)) && (leI (((R).length : Nat) : Int) (((R).length : Nat) : Int)))) (.need (@isSo (@And ([(@AV.view (((((R).length : Nat) : Int)).toNat - 1) 3 (fun x532667 => (fun x305208 => (@AV.lit ([(@Value.int IntKind.i64 ((R.getD (1 + x532667) tok0)).kind), (@Value.string ((R.getD (1 + x532667) tok0)).text), (@Value.int IntKind.i64 ((R.getD (1 + x532667) tok0)).n)].getD x305208 (@Value.tuple (@Array.mk _ [])))))))] = [(@AV.view ((R).length - 1) 3 (fun x992405 => (fun x445117 => (@AV.lit ([(@Value.int IntKind.i64 ((R.getD (1 + x992405) tok0)).kind), (@Value.string ((R.getD (1 + x992405) tok0)).text), (@Value.int IntKind.i64 ((R.getD (1 + x992405) tok0)).n)].getD x445117 (@Value.tuple (@Array.mk _ [])))))))]) ((@trimC p T R V A W ((@Mem.mk (0 + 1) ((0 + 1) + 1) [(some (@Blk.mk [(@AV.lit (@Value.string (@ByteArray.mk (@Array.mk _ [])))), (@AV.lit (@Value.slice none 0 0)), (boo false)] 78 none))])).stamp) = true))) (.fork (!(leI (((V).length : Nat) : Int) (0 : Int))) (.need (@inR (w64 ((((V).length : Nat) : Int) - (1 : Int))) (V).length) (.fork (eqI ((V.getD ((w64 ((((V).length : Nat) : Int) - (1 : Int)))).toNat tok0)).kind (1 : Int)) (.need (@inR (w64 ((((V).length : Nat) : Int) - (1 : Int))) (V).length) (.fork (@bytesEq (@Array.toList _ (@ByteArray.data ((V.getD ((w64 ((((V).length : Nat) : Int) - (1 : Int)))).toNat tok0)).text)) (@Array.toList _ (@ByteArray.data (@ByteArray.mk (@Array.mk _ [(105 : UInt8), (109 : UInt8), (112 : UInt8), (111 : UInt8), (114 : UInt8), (116 : UInt8), (97 : UInt8), (110 : UInt8), (116 : UInt8)]))))) (.need (true && ((leI (0 : Int) (w64 ((((V).length : Nat) : Int) - (1 : Int)))) && (leI (w64 ((((V).length : Nat) : Int) - (1 : Int))) (((V).length : Nat) : Int)))) (.need (@isSo (@And ([(@AV.view (((w64 ((((V).length : Nat) : Int) - (1 : Int)))).toNat - 0) 3 (fun x516292 => (fun x784732 => (@AV.lit ([(@Value.int IntKind.i64 ((V.getD (0 + x516292) tok0)).kind), (@Value.string ((V.getD (0 + x516292) tok0)).text), (@Value.int IntKind.i64 ((V.getD (0 + x516292) tok0)).n)].getD x784732 (@Value.tuple (@Array.mk _ [])))))))] = [(@AV.view ((V).length - 1) 3 (fun x913265 => (fun x82370 => (@AV.lit ([(@Value.int IntKind.i64 ((V.getD (0 + x913265) tok0)).kind), (@Value.string ((V.getD (0 + x913265) tok0)).text), (@Value.int IntKind.i64 ((V.getD (0 + x913265) tok0)).n)].getD x82370 (@Value.tuple (@Array.mk _ [])))))))]) ((@trimC p T R V A W (((@Mem.mk (0 + 1) ((0 + 1) + 1) [(some (@Blk.mk [(@AV.lit (@Value.string (@ByteArray.mk (@Array.mk _ [])))), (@AV.lit (@Value.slice none 0 0)), (boo false)] 78 none))])).stamp + 1)) = true))) (.fork (!(leI (((A).length : Nat) : Int) (0 : Int))) (.need (@inR (w64 ((((A).length : Nat) : Int) - (1 : Int))) (A).length) (.need (@isSo (@And ([(@AV.agg [(int ((A.getD ((w64 ((((A).length : Nat) : Int) - (1 : Int)))).toNat tok0)).kind), (@AV.lit (@Value.string ((A.getD ((w64 ((((A).length : Nat) : Int) - (1 : Int)))).toNat tok0)).text)), (int ((A.getD ((w64 ((((A).length : Nat) : Int) - (1 : Int)))).toNat tok0)).n)])] = [(@AV.agg [(int ((A.getD ((w64 ((((A).length : Nat) : Int) - (1 : Int)))).toNat tok0)).kind), (@AV.lit (@Value.string ((A.getD ((w64 ((((A).length : Nat) : Int) - (1 : Int)))).toNat tok0)).text)), (int ((A.getD ((w64 ((((A).length : Nat) : Int) - (1 : Int)))).toNat tok0)).n)])]) True)) (.fork (@loudB (@TokV.mk ((A.getD ((w64 ((((A).length : Nat) : Int) - (1 : Int)))).toNat tok0)).kind ((A.getD ((w64 ((((A).length : Nat) : Int) - (1 : Int)))).toNat tok0)).text ((A.getD ((w64 ((((A).length : Nat) : Int) - (1 : Int)))).toNat tok0)).n)) (.need (true && ((leI (0 : Int) (w64 ((((A).length : Nat) : Int) - (1 : Int)))) && (leI (w64 ((((A).length : Nat) : Int) - (1 : Int))) (((A).length : Nat) : Int)))) (.need (@isSo (@And ([(@AV.view (((w64 ((((A).length : Nat) : Int) - (1 : Int)))).toNat - 0) 3 (fun x526360 => (fun x284437 => (@AV.lit ([(@Value.int IntKind.i64 ((A.getD (0 + x526360) tok0)).kind), (@Value.string ((A.getD (0 + x526360) tok0)).text), (@Value.int IntKind.i64 ((A.getD (0 + x526360) tok0)).n)].getD x284437 (@Value.tuple (@Array.mk _ [])))))))] = [(@AV.view ((A).length - 1) 3 (fun x980349 => (fun x926426 => (@AV.lit ([(@Value.int IntKind.i64 ((A.getD (0 + x980349) tok0)).kind), (@Value.string ((A.getD (0 + x980349) tok0)).text), (@Value.int IntKind.i64 ((A.getD (0 + x980349) tok0)).n)].getD x926426 (@Value.tuple (@Array.mk _ [])))))))]) ((@trimC p T R V A W (((@Mem.mk (((@Mem.mk (0 + 1) ((0 + 1) + 1) [(some (@Blk.mk [(@AV.lit (@Value.string (@ByteArray.mk (@Array.mk _ [])))), (@AV.lit (@Value.slice none 0 0)), (boo false)] 78 none))])).top + 1) ((((@Mem.mk (0 + 1) ((0 + 1) + 1) [(some (@Blk.mk [(@AV.lit (@Value.string (@ByteArray.mk (@Array.mk _ [])))), (@AV.lit (@Value.slice none 0 0)), (boo false)] 78 none))])).stamp + 1) + 1) ((some (@Blk.mk ((@AV.lit (@Value.string ((T.getD 0 tok0)).text)) :: ((@AV.view (V).length 3 (fun x111459 => (fun x562543 => (@AV.lit ([(@Value.int IntKind.i64 ((V.getD x111459 tok0)).kind), (@Value.string ((V.getD x111459 tok0)).text), (@Value.int IntKind.i64 ((V.getD x111459 tok0)).n)].getD x562543 (@Value.tuple (@Array.mk _ []))))))) :: [(boo false)])) 78 none)) :: [(some (@Blk.mk [(@AV.lit (@Value.string (@ByteArray.mk (@Array.mk _ [])))), (@AV.lit (@Value.slice none 0 0)), (boo false)] 78 none))]))).stamp + 1)) = true))) (.fork (!(eqI (((W).length : Nat) : Int) (0 : Int))) (.need (@isSo (@And ([(@AV.view (W).length 3 (fun x620508 => (fun x840844 => (@AV.lit ([(@Value.int IntKind.i64 ((W.getD x620508 tok0)).kind), (@Value.string ((W.getD x620508 tok0)).text), (@Value.int IntKind.i64 ((W.getD x620508 tok0)).n)].getD x840844 (@Value.tuple (@Array.mk _ [])))))))] = [(@AV.view (W).length 3 (fun x906441 => (fun x52574 => (@AV.lit ([(@Value.int IntKind.i64 ((W.getD x906441 tok0)).kind), (@Value.string ((W.getD x906441 tok0)).text), (@Value.int IntKind.i64 ((W.getD x906441 tok0)).n)].getD x52574 (@Value.tuple (@Array.mk _ [])))))))]) (@And ((fun x950730 => (fun x498091 => (@AV.lit ([(@Value.int IntKind.i64 ((W.getD x950730 tok0)).kind), (@Value.string ((W.getD x950730 tok0)).text), (@Value.int IntKind.i64 ((W.getD x950730 tok0)).n)].getD x498091 (@Value.tuple (@Array.mk _ [])))))) = (fun x119696 => (fun x416200 => (@AV.lit ([(@Value.int IntKind.i64 ((W.getD x119696 tok0)).kind), (@Value.string ((W.getD x119696 tok0)).text), (@Value.int IntKind.i64 ((W.getD x119696 tok0)).n)].getD x416200 (@Value.tuple (@Array.mk _ []))))))) (@And (((@toks (W).length (fun x76677 => (fun x712333 => (@AV.lit ([(@Value.int IntKind.i64 ((W.getD x76677 tok0)).kind), (@Value.string ((W.getD x76677 tok0)).text), (@Value.int IntKind.i64 ((W.getD x76677 tok0)).n)].getD x712333 (@Value.tuple (@Array.mk _ [])))))))).length ≤ 17592186044416) (([] : List AV) = []))))) (.fork (@brokenT (@toks (W).length (fun x591142 => (fun x898471 => (@AV.lit ([(@Value.int IntKind.i64 ((W.getD x591142 tok0)).kind), (@Value.string ((W.getD x591142 tok0)).text), (@Value.int IntKind.i64 ((W.getD x591142 tok0)).n)].getD x898471 (@Value.tuple (@Array.mk _ [])))))))) (.leaf (@AV.tup [(@AV.agg [(@AV.lit (@Value.string (@ByteArray.mk (@Array.mk _ [])))), (@AV.lit (@Value.slice none 0 0)), (boo false)]), (boo false)])) (.leaf (@AV.tup [(@AV.agg (@List.take _ 3 ((@AV.lit (@Value.string ((T.getD 0 tok0)).text)) :: ((@AV.view (W).length 3 (fun x278483 => (fun x844692 => (@AV.lit ([(@Value.int IntKind.i64 ((W.getD x278483 tok0)).kind), (@Value.string ((W.getD x278483 tok0)).text), (@Value.int IntKind.i64 ((W.getD x278483 tok0)).n)].getD x844692 (@Value.tuple (@Array.mk _ []))))))) :: [(boo true)])))), (boo true)])))) (.leaf (@AV.tup [(@AV.agg [(@AV.lit (@Value.string (@ByteArray.mk (@Array.mk _ [])))), (@AV.lit (@Value.slice none 0 0)), (boo false)]), (boo false)]))))) (.fork (!(eqI (((V).length : Nat) : Int) (0 : Int))) (.need (@isSo (@And ([(@AV.view (V).length 3 (fun x319216 => (fun x986760 => (@AV.lit ([(@Value.int IntKind.i64 ((V.getD x319216 tok0)).kind), (@Value.string ((V.getD x319216 tok0)).text), (@Value.int IntKind.i64 ((V.getD x319216 tok0)).n)].getD x986760 (@Value.tuple (@Array.mk _ [])))))))] = [(@AV.view (V).length 3 (fun x229109 => (fun x621485 => (@AV.lit ([(@Value.int IntKind.i64 ((V.getD x229109 tok0)).kind), (@Value.string ((V.getD x229109 tok0)).text), (@Value.int IntKind.i64 ((V.getD x229109 tok0)).n)].getD x621485 (@Value.tuple (@Array.mk _ [])))))))]) (@And ((fun x707998 => (fun x566471 => (@AV.lit ([(@Value.int IntKind.i64 ((V.getD x707998 tok0)).kind), (@Value.string ((V.getD x707998 tok0)).text), (@Value.int IntKind.i64 ((V.getD x707998 tok0)).n)].getD x566471 (@Value.tuple (@Array.mk _ [])))))) = (fun x190571 => (fun x706444 => (@AV.lit ([(@Value.int IntKind.i64 ((V.getD x190571 tok0)).kind), (@Value.string ((V.getD x190571 tok0)).text), (@Value.int IntKind.i64 ((V.getD x190571 tok0)).n)].getD x706444 (@Value.tuple (@Array.mk _ []))))))) (@And (((@toks (V).length (fun x703300 => (fun x77465 => (@AV.lit ([(@Value.int IntKind.i64 ((V.getD x703300 tok0)).kind), (@Value.string ((V.getD x703300 tok0)).text), (@Value.int IntKind.i64 ((V.getD x703300 tok0)).n)].getD x77465 (@Value.tuple (@Array.mk _ [])))))))).length ≤ 17592186044416) (([] : List AV) = []))))) (.fork (@brokenT (@toks (V).length (fun x882786 => (fun x805142 => (@AV.lit ([(@Value.int IntKind.i64 ((V.getD x882786 tok0)).kind), (@Value.string ((V.getD x882786 tok0)).text), (@Value.int IntKind.i64 ((V.getD x882786 tok0)).n)].getD x805142 (@Value.tuple (@Array.mk _ [])))))))) (.leaf (@AV.tup [(@AV.agg [(@AV.lit (@Value.string (@ByteArray.mk (@Array.mk _ [])))), (@AV.lit (@Value.slice none 0 0)), (boo false)]), (boo false)])) (.leaf (@AV.tup [(@AV.agg (@List.take _ 3 ((@AV.lit (@Value.string ((T.getD 0 tok0)).text)) :: ((@AV.view (V).length 3 (fun x584103 => (fun x845824 => (@AV.lit ([(@Value.int IntKind.i64 ((V.getD x584103 tok0)).kind), (@Value.string ((V.getD x584103 tok0)).text), (@Value.int IntKind.i64 ((V.getD x584103 tok0)).n)].getD x845824 (@Value.tuple (@Array.mk _ []))))))) :: [(boo false)])))), (boo true)])))) (.leaf (@AV.tup [(@AV.agg [(@AV.lit (@Value.string (@ByteArray.mk (@Array.mk _ [])))), (@AV.lit (@Value.slice none 0 0)), (boo false)]), (boo false)])))))) (.fork (!(eqI (((V).length : Nat) : Int) (0 : Int))) (.need (@isSo (@And ([(@AV.view (V).length 3 (fun x844574 => (fun x745287 => (@AV.lit ([(@Value.int IntKind.i64 ((V.getD x844574 tok0)).kind), (@Value.string ((V.getD x844574 tok0)).text), (@Value.int IntKind.i64 ((V.getD x844574 tok0)).n)].getD x745287 (@Value.tuple (@Array.mk _ [])))))))] = [(@AV.view (V).length 3 (fun x332507 => (fun x261112 => (@AV.lit ([(@Value.int IntKind.i64 ((V.getD x332507 tok0)).kind), (@Value.string ((V.getD x332507 tok0)).text), (@Value.int IntKind.i64 ((V.getD x332507 tok0)).n)].getD x261112 (@Value.tuple (@Array.mk _ [])))))))]) (@And ((fun x980933 => (fun x76413 => (@AV.lit ([(@Value.int IntKind.i64 ((V.getD x980933 tok0)).kind), (@Value.string ((V.getD x980933 tok0)).text), (@Value.int IntKind.i64 ((V.getD x980933 tok0)).n)].getD x76413 (@Value.tuple (@Array.mk _ [])))))) = (fun x169530 => (fun x494379 => (@AV.lit ([(@Value.int IntKind.i64 ((V.getD x169530 tok0)).kind), (@Value.string ((V.getD x169530 tok0)).text), (@Value.int IntKind.i64 ((V.getD x169530 tok0)).n)].getD x494379 (@Value.tuple (@Array.mk _ []))))))) (@And (((@toks (V).length (fun x809215 => (fun x683412 => (@AV.lit ([(@Value.int IntKind.i64 ((V.getD x809215 tok0)).kind), (@Value.string ((V.getD x809215 tok0)).text), (@Value.int IntKind.i64 ((V.getD x809215 tok0)).n)].getD x683412 (@Value.tuple (@Array.mk _ [])))))))).length ≤ 17592186044416) (([] : List AV) = []))))) (.fork (@brokenT (@toks (V).length (fun x455572 => (fun x335201 => (@AV.lit ([(@Value.int IntKind.i64 ((V.getD x455572 tok0)).kind), (@Value.string ((V.getD x455572 tok0)).text), (@Value.int IntKind.i64 ((V.getD x455572 tok0)).n)].getD x335201 (@Value.tuple (@Array.mk _ [])))))))) (.leaf (@AV.tup [(@AV.agg [(@AV.lit (@Value.string (@ByteArray.mk (@Array.mk _ [])))), (@AV.lit (@Value.slice none 0 0)), (boo false)]), (boo false)])) (.leaf (@AV.tup [(@AV.agg (@List.take _ 3 ((@AV.lit (@Value.string ((T.getD 0 tok0)).text)) :: ((@AV.view (V).length 3 (fun x544422 => (fun x426842 => (@AV.lit ([(@Value.int IntKind.i64 ((V.getD x544422 tok0)).kind), (@Value.string ((V.getD x544422 tok0)).text), (@Value.int IntKind.i64 ((V.getD x544422 tok0)).n)].getD x426842 (@Value.tuple (@Array.mk _ []))))))) :: [(boo false)])))), (boo true)])))) (.leaf (@AV.tup [(@AV.agg [(@AV.lit (@Value.string (@ByteArray.mk (@Array.mk _ [])))), (@AV.lit (@Value.slice none 0 0)), (boo false)]), (boo false)])))))) (.fork (!(eqI (((V).length : Nat) : Int) (0 : Int))) (.need (@isSo (@And ([(@AV.view (V).length 3 (fun x810463 => (fun x933532 => (@AV.lit ([(@Value.int IntKind.i64 ((V.getD x810463 tok0)).kind), (@Value.string ((V.getD x810463 tok0)).text), (@Value.int IntKind.i64 ((V.getD x810463 tok0)).n)].getD x933532 (@Value.tuple (@Array.mk _ [])))))))] = [(@AV.view (V).length 3 (fun x751564 => (fun x460313 => (@AV.lit ([(@Value.int IntKind.i64 ((V.getD x751564 tok0)).kind), (@Value.string ((V.getD x751564 tok0)).text), (@Value.int IntKind.i64 ((V.getD x751564 tok0)).n)].getD x460313 (@Value.tuple (@Array.mk _ [])))))))]) (@And ((fun x101902 => (fun x302522 => (@AV.lit ([(@Value.int IntKind.i64 ((V.getD x101902 tok0)).kind), (@Value.string ((V.getD x101902 tok0)).text), (@Value.int IntKind.i64 ((V.getD x101902 tok0)).n)].getD x302522 (@Value.tuple (@Array.mk _ [])))))) = (fun x969963 => (fun x29695 => (@AV.lit ([(@Value.int IntKind.i64 ((V.getD x969963 tok0)).kind), (@Value.string ((V.getD x969963 tok0)).text), (@Value.int IntKind.i64 ((V.getD x969963 tok0)).n)].getD x29695 (@Value.tuple (@Array.mk _ []))))))) (@And (((@toks (V).length (fun x317160 => (fun x48341 => (@AV.lit ([(@Value.int IntKind.i64 ((V.getD x317160 tok0)).kind), (@Value.string ((V.getD x317160 tok0)).text), (@Value.int IntKind.i64 ((V.getD x317160 tok0)).n)].getD x48341 (@Value.tuple (@Array.mk _ [])))))))).length ≤ 17592186044416) (([] : List AV) = []))))) (.fork (@brokenT (@toks (V).length (fun x325133 => (fun x13606 => (@AV.lit ([(@Value.int IntKind.i64 ((V.getD x325133 tok0)).kind), (@Value.string ((V.getD x325133 tok0)).text), (@Value.int IntKind.i64 ((V.getD x325133 tok0)).n)].getD x13606 (@Value.tuple (@Array.mk _ [])))))))) (.leaf (@AV.tup [(@AV.agg [(@AV.lit (@Value.string (@ByteArray.mk (@Array.mk _ [])))), (@AV.lit (@Value.slice none 0 0)), (boo false)]), (boo false)])) (.leaf (@AV.tup [(@AV.agg (@List.take _ 3 ((@AV.lit (@Value.string ((T.getD 0 tok0)).text)) :: ((@AV.view (V).length 3 (fun x342695 => (fun x898211 => (@AV.lit ([(@Value.int IntKind.i64 ((V.getD x342695 tok0)).kind), (@Value.string ((V.getD x342695 tok0)).text), (@Value.int IntKind.i64 ((V.getD x342695 tok0)).n)].getD x898211 (@Value.tuple (@Array.mk _ []))))))) :: [(boo false)])))), (boo true)])))) (.leaf (@AV.tup [(@AV.agg [(@AV.lit (@Value.string (@ByteArray.mk (@Array.mk _ [])))), (@AV.lit (@Value.slice none 0 0)), (boo false)]), (boo false)]))))) (.fork (!(eqI (((V).length : Nat) : Int) (0 : Int))) (.need (@isSo (@And ([(@AV.view (V).length 3 (fun x241554 => (fun x930283 => (@AV.lit ([(@Value.int IntKind.i64 ((V.getD x241554 tok0)).kind), (@Value.string ((V.getD x241554 tok0)).text), (@Value.int IntKind.i64 ((V.getD x241554 tok0)).n)].getD x930283 (@Value.tuple (@Array.mk _ [])))))))] = [(@AV.view (V).length 3 (fun x279756 => (fun x891860 => (@AV.lit ([(@Value.int IntKind.i64 ((V.getD x279756 tok0)).kind), (@Value.string ((V.getD x279756 tok0)).text), (@Value.int IntKind.i64 ((V.getD x279756 tok0)).n)].getD x891860 (@Value.tuple (@Array.mk _ [])))))))]) (@And ((fun x770537 => (fun x745122 => (@AV.lit ([(@Value.int IntKind.i64 ((V.getD x770537 tok0)).kind), (@Value.string ((V.getD x770537 tok0)).text), (@Value.int IntKind.i64 ((V.getD x770537 tok0)).n)].getD x745122 (@Value.tuple (@Array.mk _ [])))))) = (fun x499798 => (fun x462311 => (@AV.lit ([(@Value.int IntKind.i64 ((V.getD x499798 tok0)).kind), (@Value.string ((V.getD x499798 tok0)).text), (@Value.int IntKind.i64 ((V.getD x499798 tok0)).n)].getD x462311 (@Value.tuple (@Array.mk _ []))))))) (@And (((@toks (V).length (fun x308963 => (fun x934872 => (@AV.lit ([(@Value.int IntKind.i64 ((V.getD x308963 tok0)).kind), (@Value.string ((V.getD x308963 tok0)).text), (@Value.int IntKind.i64 ((V.getD x308963 tok0)).n)].getD x934872 (@Value.tuple (@Array.mk _ [])))))))).length ≤ 17592186044416) (([] : List AV) = []))))) (.fork (@brokenT (@toks (V).length (fun x593957 => (fun x330077 => (@AV.lit ([(@Value.int IntKind.i64 ((V.getD x593957 tok0)).kind), (@Value.string ((V.getD x593957 tok0)).text), (@Value.int IntKind.i64 ((V.getD x593957 tok0)).n)].getD x330077 (@Value.tuple (@Array.mk _ [])))))))) (.leaf (@AV.tup [(@AV.agg [(@AV.lit (@Value.string (@ByteArray.mk (@Array.mk _ [])))), (@AV.lit (@Value.slice none 0 0)), (boo false)]), (boo false)])) (.leaf (@AV.tup [(@AV.agg (@List.take _ 3 ((@AV.lit (@Value.string ((T.getD 0 tok0)).text)) :: ((@AV.view (V).length 3 (fun x738250 => (fun x23070 => (@AV.lit ([(@Value.int IntKind.i64 ((V.getD x738250 tok0)).kind), (@Value.string ((V.getD x738250 tok0)).text), (@Value.int IntKind.i64 ((V.getD x738250 tok0)).n)].getD x23070 (@Value.tuple (@Array.mk _ []))))))) :: [(boo false)])))), (boo true)])))) (.leaf (@AV.tup [(@AV.agg [(@AV.lit (@Value.string (@ByteArray.mk (@Array.mk _ [])))), (@AV.lit (@Value.slice none 0 0)), (boo false)]), (boo false)]))))) (.fork (!(eqI (((V).length : Nat) : Int) (0 : Int))) (.need (@isSo (@And ([(@AV.view (V).length 3 (fun x29226 => (fun x755542 => (@AV.lit ([(@Value.int IntKind.i64 ((V.getD x29226 tok0)).kind), (@Value.string ((V.getD x29226 tok0)).text), (@Value.int IntKind.i64 ((V.getD x29226 tok0)).n)].getD x755542 (@Value.tuple (@Array.mk _ [])))))))] = [(@AV.view (V).length 3 (fun x810319 => (fun x512228 => (@AV.lit ([(@Value.int IntKind.i64 ((V.getD x810319 tok0)).kind), (@Value.string ((V.getD x810319 tok0)).text), (@Value.int IntKind.i64 ((V.getD x810319 tok0)).n)].getD x512228 (@Value.tuple (@Array.mk _ [])))))))]) (@And ((fun x424452 => (fun x272353 => (@AV.lit ([(@Value.int IntKind.i64 ((V.getD x424452 tok0)).kind), (@Value.string ((V.getD x424452 tok0)).text), (@Value.int IntKind.i64 ((V.getD x424452 tok0)).n)].getD x272353 (@Value.tuple (@Array.mk _ [])))))) = (fun x591153 => (fun x346954 => (@AV.lit ([(@Value.int IntKind.i64 ((V.getD x591153 tok0)).kind), (@Value.string ((V.getD x591153 tok0)).text), (@Value.int IntKind.i64 ((V.getD x591153 tok0)).n)].getD x346954 (@Value.tuple (@Array.mk _ []))))))) (@And (((@toks (V).length (fun x685939 => (fun x981151 => (@AV.lit ([(@Value.int IntKind.i64 ((V.getD x685939 tok0)).kind), (@Value.string ((V.getD x685939 tok0)).text), (@Value.int IntKind.i64 ((V.getD x685939 tok0)).n)].getD x981151 (@Value.tuple (@Array.mk _ [])))))))).length ≤ 17592186044416) (([] : List AV) = []))))) (.fork (@brokenT (@toks (V).length (fun x608776 => (fun x190053 => (@AV.lit ([(@Value.int IntKind.i64 ((V.getD x608776 tok0)).kind), (@Value.string ((V.getD x608776 tok0)).text), (@Value.int IntKind.i64 ((V.getD x608776 tok0)).n)].getD x190053 (@Value.tuple (@Array.mk _ [])))))))) (.leaf (@AV.tup [(@AV.agg [(@AV.lit (@Value.string (@ByteArray.mk (@Array.mk _ [])))), (@AV.lit (@Value.slice none 0 0)), (boo false)]), (boo false)])) (.leaf (@AV.tup [(@AV.agg (@List.take _ 3 ((@AV.lit (@Value.string ((T.getD 0 tok0)).text)) :: ((@AV.view (V).length 3 (fun x793453 => (fun x761422 => (@AV.lit ([(@Value.int IntKind.i64 ((V.getD x793453 tok0)).kind), (@Value.string ((V.getD x793453 tok0)).text), (@Value.int IntKind.i64 ((V.getD x793453 tok0)).n)].getD x761422 (@Value.tuple (@Array.mk _ []))))))) :: [(boo false)])))), (boo true)])))) (.leaf (@AV.tup [(@AV.agg [(@AV.lit (@Value.string (@ByteArray.mk (@Array.mk _ [])))), (@AV.lit (@Value.slice none 0 0)), (boo false)]), (boo false)]))))))))) (.leaf (@AV.tup [(@AV.agg [(@AV.lit (@Value.string (@ByteArray.mk (@Array.mk _ [])))), (@AV.lit (@Value.slice none 0 0)), (boo false)]), (boo false)]))))))) (.leaf (@AV.tup [(@AV.agg [(@AV.lit (@Value.string (@ByteArray.mk (@Array.mk _ [])))), (@AV.lit (@Value.slice none 0 0)), (boo false)]), (boo false)])))) (by kernel_rfl) ?_
  refine need_so ⟨rfl, trimC_0 ⟨lp, hT⟩⟩ (fork_ok (fun q1 => ?_) (fun q1 => ?_))
  · simp only [Bool.not_eq_true', Bool.not_eq_false', leI_t, leI_f, eqI_t, eqI_f, inR_t, inR_f, isSo_t, isSo_f] at q1
    have r0 : inR (0 : Int) T.length = true := by rw [inR_t]; omega
    have b1 : (true && (leI (1 : Int) ((T.length : Nat) : Int) && leI ((T.length : Nat) : Int) ((T.length : Nat) : Int))) = true := by simp only [Bool.true_and, Bool.and_eq_true, leI_t]; omega
    obtain ⟨hrest, hbl⟩ := rest_eq T (by omega) (hend (by omega))
    rw [← hR] at hrest
    refine need_t r0 (fork_ok (fun q2 => ?_) (fun q2 => need_t b1 (need_so ⟨rfl, trimC_1 ⟨⟨lT, by omega⟩, hR⟩⟩ (fork_ok (fun q3 => ?_) (fun q3 => ?_)))))
    · have q2' : (!eqI (tokAt T 0).kind 1) = true := q2
      rw [Bool.not_eq_true'] at q2'
      exact (declA_no (declL_1 (.inr q2'))).symm
    · simp only [Bool.not_eq_true', Bool.not_eq_false', leI_t, leI_f, eqI_t, eqI_f, inR_t, inR_f, isSo_t, isSo_f] at q3
      have q2' : (!eqI (tokAt T 0).kind 1) = false := q2
      rw [Bool.not_eq_false'] at q2'
      have g1 : ¬ (T.length = 0 ∨ eqI (tokAt T 0).kind 1 = false) := by
        rw [q2']; rintro (h | h)
        · omega
        · cases h
      have hbT : behind T < T.length := by
        have := congrArg List.length hrest
        rw [List.length_drop] at this; omega
      have eR : tokAt R 0 = tokAt T (behind T) := by rw [hrest, tokAt_drop, Nat.add_zero]
      have r2 : inR (0 : Int) R.length = true := by rw [inR_t]; omega
      have b2 : (true && (leI (1 : Int) ((R.length : Nat) : Int) && leI ((R.length : Nat) : Int) ((R.length : Nat) : Int))) = true := by simp only [Bool.true_and, Bool.and_eq_true, leI_t]; omega
      refine need_t r2 (fork_ok (fun q4 => ?_) (fun q4 => need_t r0 (need_t b2 (need_so ⟨rfl, trimC_2 ⟨⟨lR, by omega⟩, hV⟩⟩ ?_))))
      · have q4' : (!eqI (tokAt R 0).kind 10) = true := q4
        rw [Bool.not_eq_true', eR] at q4'
        exact (declA_no (declL_2 g1 (.inr q4'))).symm
      · have q4' : (!eqI (tokAt R 0).kind 10) = false := q4
        rw [Bool.not_eq_false', eR] at q4'
        have g2 : ¬ (T.length ≤ behind T ∨ eqI (tokAt T (behind T)).kind 10 = false) := by
          rw [q4']; rintro (h | h)
          · omega
          · cases h
        have hval0 : valueT T = impT V := by
          unfold valueT
          rw [hV, hrest, List.drop_drop]
        refine fork_ok (fun q5 => ?_) (fun q5 => ?_)
        · simp only [Bool.not_eq_true', Bool.not_eq_false', leI_t, leI_f, eqI_t, eqI_f, inR_t, inR_f, isSo_t, isSo_f] at q5
          have f1 := last_at lV (by omega)
          have fr : inR (w64 ((V.length : Int) - 1)) V.length = true := by rw [inR_t]; omega
          have fl : V.getD (w64 ((V.length : Int) - 1)).toNat tok0 = lastT V := by rw [f1]; rfl
          have fB : (true && (leI (0 : Int) (w64 ((V.length : Int) - 1)) && leI (w64 ((V.length : Int) - 1)) ((V.length : Nat) : Int))) = true := by
            simp only [Bool.true_and, Bool.and_eq_true, leI_t]; omega
          rw [fl]
          refine need_t fr (fork_ok (fun q6 => need_t fr (fork_ok (fun q7 => need_t fB (need_so ⟨?_, trimC_3 ⟨lV, hA⟩⟩ (fork_ok (fun q8 => ?_) (fun q8 => ?_)))) (fun q7 => ?_))) (fun q6 => ?_))
          · rw [f1]; rfl
          · simp only [Bool.not_eq_true', Bool.not_eq_false', leI_t, leI_f, eqI_t, eqI_f, inR_t, inR_f, isSo_t, isSo_f] at q8
            have hno : ¬ (V.length = 0 ∨ eqI (lastT V).kind 1 = false ∨ bytesEq (lastT V).text.data.toList impW = false) := by
              have q7' : bytesEq (lastT V).text.data.toList impW = true := by simpa [impW] using q7
              rw [q6, q7']
              rintro (h | h | h)
              · omega
              · cases h
              · cases h
            have k1 := last_at lA (by omega)
            have kr : inR (w64 ((A.length : Int) - 1)) A.length = true := by rw [inR_t]; omega
            have kl : A.getD (w64 ((A.length : Int) - 1)).toNat tok0 = lastT A := by rw [k1]; rfl
            have kB : (true && (leI (0 : Int) (w64 ((A.length : Int) - 1)) && leI (w64 ((A.length : Int) - 1)) ((A.length : Nat) : Int))) = true := by
              simp only [Bool.true_and, Bool.and_eq_true, leI_t]; omega
            rw [kl]
            have hy := impT_alone hno
            have hn := impT_yes hno
            rw [← hA] at hy hn
            refine need_t kr (need_so ⟨rfl, trivial⟩ (fork_ok (fun q9 => need_t kB (need_so ⟨?_, trimC_4 (p := p) (T := T) (R := R) (V := V) 0 ⟨lA, hW⟩⟩ ?_)) (fun q9 => ?_)))
            · rw [k1]; rfl
            · have hw := hn (fun h => by
                rcases h with h | h
                · omega
                · rw [show loudB (lastT A) = true from q9] at h; cases h)
              rw [← hW] at hw
              exact declr_fin (hval0.trans hw) lW g1 g2
            · exact declr_fin (hval0.trans (hy (.inr q9))) lV g1 g2
          · simp only [Bool.not_eq_true', Bool.not_eq_false', leI_t, leI_f, eqI_t, eqI_f, inR_t, inR_f, isSo_t, isSo_f] at q8
            have hno : ¬ (V.length = 0 ∨ eqI (lastT V).kind 1 = false ∨ bytesEq (lastT V).text.data.toList impW = false) := by
              have q7' : bytesEq (lastT V).text.data.toList impW = true := by simpa [impW] using q7
              rw [q6, q7']
              rintro (h | h | h)
              · omega
              · cases h
              · cases h
            have hy := impT_alone hno
            rw [← hA] at hy
            exact declr_fin (hval0.trans (hy (.inl (by omega)))) lV g1 g2
          · exact declr_fin (hval0.trans (impT_no (.inr (.inr (by simpa [impW] using q7))))) lV g1 g2
          · exact declr_fin (hval0.trans (impT_no (.inr (.inl q6)))) lV g1 g2
        · simp only [Bool.not_eq_true', Bool.not_eq_false', leI_t, leI_f, eqI_t, eqI_f, inR_t, inR_f, isSo_t, isSo_f] at q5
          exact declr_fin (hval0.trans (impT_no (.inl (by omega)))) lV g1 g2
    · simp only [Bool.not_eq_true', Bool.not_eq_false', leI_t, leI_f, eqI_t, eqI_f, inR_t, inR_f, isSo_t, isSo_f] at q3
      have q2' : (!eqI (tokAt T 0).kind 1) = false := q2
      rw [Bool.not_eq_false'] at q2'
      refine (declA_no (declL_2 ?_ (.inl ?_))).symm
      · rw [q2']; rintro (h | h)
        · omega
        · cases h
      · have := congrArg List.length hrest
        rw [List.length_drop] at this; omega
  · simp only [Bool.not_eq_true', Bool.not_eq_false', leI_t, leI_f, eqI_t, eqI_f, inR_t, inR_f, isSo_t, isSo_f] at q1
    exact (declA_no (declL_1 (.inl (by omega)))).symm
end Go.Proofs.Ytjljlcflmcjapaa
