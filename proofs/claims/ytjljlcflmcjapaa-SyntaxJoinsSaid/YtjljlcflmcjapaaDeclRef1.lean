/-
  Layer 6: the reference's Trim, Top, Broken.
-/
import Derived.Test.YtjljlcflmcjapaaDeclSy5
namespace Go.Proofs.Ytjljlcflmcjapaa
open Go Go.RowKit Pl Sy
set_option linter.unusedVariables false
set_option linter.unusedSimpArgs false
noncomputable abbrev Sy.cTrimR (C : List TokV → Prop) (h : ∀ l, C l → CallTo Try.prog 91 [kv l] M0 fun v _ => v = kv (trim l)) : Con Try.prog := conT 91 (fun l _ => kv (trim l)) (fun l r => C l ∧ r = []) fun l r ⟨h1, h2⟩ => by
  subst h2; exact ⟨⟨trivial, kv_free _⟩, h l h1⟩
/-sy trimr_t
fun (C : List TokV → Prop) (h : ∀ l, C l → CallTo Try.prog 91 [kv l] M0 fun v _ => v = kv (trim l)) (l : List TokV) (d : D) => reckV [cTrimR C h] [] 400 30 91 [kv l] M0 d
-/
theorem trim_first (l : List TokV) (h : l.length ≠ 0) (hs : spB (tokAt l 0) = true) : trim ((l.drop 1).take (l.length - 1)) = trim l := by
  rw [List.take_of_length_le (by rw [List.length_drop]; omega)]
  exact trim_pre 1 l (by omega) fun j hj => by rw [show j = 0 by omega]; exact hs
theorem trim_last (l : List TokV) (h : l.length ≠ 0) (hs : spB (lastT l) = true) : trim (l.take (l.length - 1)) = trim l :=
  trim_post l 1 (by omega) fun j h1 h2 => by rw [show j = l.length - 1 by omega]; exact hs
theorem Sy.trimr_step (C : List TokV → Prop) (h : ∀ l, C l → CallTo Try.prog 91 [kv l] M0 fun v _ => v = kv (trim l)) (l : List TokV) (hl : lim l) (hC : ∀ m : List TokV, m.length < l.length → C m) :
    CallTo Try.prog 91 [kv l] M0 fun v _ => v = kv (trim l) :=
  toV [cTrimR C h] [] 400 30 (.br (.auto 0 (.yes (.auto 3 (.br (.yes (.yes .done)) (.yes (.auto 3 (.yes (.auto 3 (.br (.yes (.yes .done)) .done))))))))) (.auto 5 (.no (.auto 8 .done)))) (.fork (!(leI (((l).length : Nat) : Int) (0 : Int))) (.need (@inR (0 : Int) (l).length) (.fork (eqI ((l.getD 0 tok0)).kind (20 : Int)) (.need (true && ((leI (1 : Int) (((l).length : Nat) : Int)) && (leI (((l).length : Nat) : Int) (((l).length : Nat) : Int)))) (.need (@isSo (@And ([(@AV.view (((((l).length : Nat) : Int)).toNat - 1) 3 (fun x353363 => (fun x264487 => (@AV.lit ([(@Value.int IntKind.i64 ((l.getD (1 + x353363) tok0)).kind), (@Value.string ((l.getD (1 + x353363) tok0)).text), (@Value.int IntKind.i64 ((l.getD (1 + x353363) tok0)).n)].getD x264487 (@Value.tuple (@Array.mk _ [])))))))] = [(@AV.view (((((l).length : Nat) : Int)).toNat - 1) 3 (fun x113164 => (fun x508609 => (@AV.lit ([(@Value.int IntKind.i64 ((l.getD (1 + x113164) tok0)).kind), (@Value.string ((l.getD (1 + x113164) tok0)).text), (@Value.int IntKind.i64 ((l.getD (1 + x113164) tok0)).n)].getD x508609 (@Value.tuple (@Array.mk _ [])))))))]) (@And ((fun x216953 => (fun x654606 => (@AV.lit ([(@Value.int IntKind.i64 ((l.getD (1 + x216953) tok0)).kind), (@Value.string ((l.getD (1 + x216953) tok0)).text), (@Value.int IntKind.i64 ((l.getD (1 + x216953) tok0)).n)].getD x654606 (@Value.tuple (@Array.mk _ [])))))) = (fun x385538 => (fun x539147 => (@AV.lit ([(@Value.int IntKind.i64 ((l.getD (1 + x385538) tok0)).kind), (@Value.string ((l.getD (1 + x385538) tok0)).text), (@Value.int IntKind.i64 ((l.getD (1 + x385538) tok0)).n)].getD x539147 (@Value.tuple (@Array.mk _ []))))))) (@And (C (@toks (((((l).length : Nat) : Int)).toNat - 1) (fun x483592 => (fun x337504 => (@AV.lit ([(@Value.int IntKind.i64 ((l.getD (1 + x483592) tok0)).kind), (@Value.string ((l.getD (1 + x483592) tok0)).text), (@Value.int IntKind.i64 ((l.getD (1 + x483592) tok0)).n)].getD x337504 (@Value.tuple (@Array.mk _ [])))))))) (([] : List AV) = []))))) (.leaf (@AV.view ((@trim (@toks (((((l).length : Nat) : Int)).toNat - 1) (fun x121997 => (fun x522890 => (@AV.lit ([(@Value.int IntKind.i64 ((l.getD (1 + x121997) tok0)).kind), (@Value.string ((l.getD (1 + x121997) tok0)).text), (@Value.int IntKind.i64 ((l.getD (1 + x121997) tok0)).n)].getD x522890 (@Value.tuple (@Array.mk _ []))))))))).length 3 (fun x451078 => (fun x802255 => (@AV.lit ([(@Value.int IntKind.i64 (((@trim (@toks (((((l).length : Nat) : Int)).toNat - 1) (fun x582723 => (fun x285860 => (@AV.lit ([(@Value.int IntKind.i64 ((l.getD (1 + x582723) tok0)).kind), (@Value.string ((l.getD (1 + x582723) tok0)).text), (@Value.int IntKind.i64 ((l.getD (1 + x582723) tok0)).n)].getD x285860 (@Value.tuple (@Array.mk _ [])))))))).getD x451078 tok0)).kind), (@Value.string (((@trim (@toks (((((l).length : Nat) : Int)).toNat - 1) (fun x323729 => (fun x282561 => (@AV.lit ([(@Value.int IntKind.i64 ((l.getD (1 + x323729) tok0)).kind), (@Value.string ((l.getD (1 + x323729) tok0)).text), (@Value.int IntKind.i64 ((l.getD (1 + x323729) tok0)).n)].getD x282561 (@Value.tuple (@Array.mk _ [])))))))).getD x451078 tok0)).text), (@Value.int IntKind.i64 (((@trim (@toks (((((l).length : Nat) : Int)).toNat - 1) (fun x92522 => (fun x681022 => (@AV.lit ([(@Value.int IntKind.i64 ((l.getD (1 + x92522) tok0)).kind), (@Value.string ((l.getD (1 + x92522) tok0)).text), (@Value.int IntKind.i64 ((l.getD (1 + x92522) tok0)).n)].getD x681022 (@Value.tuple (@Array.mk _ [])))))))).getD x451078 tok0)).n)].getD x802255 (@Value.tuple (@Array.mk _ [])))))))))) (.need (!(leI (((l).length : Nat) : Int) (0 : Int))) (.need (@inR (w64 ((((l).length : Nat) : Int) - (1 : Int))) (l).length) (.fork (eqI ((l.getD ((w64 ((((l).length : Nat) : Int) - (1 : Int)))).toNat tok0)).kind (20 : Int)) (.need (true && ((leI (0 : Int) (w64 ((((l).length : Nat) : Int) - (1 : Int)))) && (leI (w64 ((((l).length : Nat) : Int) - (1 : Int))) (((l).length : Nat) : Int)))) (.need (@isSo (@And ([(@AV.view (((w64 ((((l).length : Nat) : Int) - (1 : Int)))).toNat - 0) 3 (fun x539426 => (fun x585171 => (@AV.lit ([(@Value.int IntKind.i64 ((l.getD (0 + x539426) tok0)).kind), (@Value.string ((l.getD (0 + x539426) tok0)).text), (@Value.int IntKind.i64 ((l.getD (0 + x539426) tok0)).n)].getD x585171 (@Value.tuple (@Array.mk _ [])))))))] = [(@AV.view (((w64 ((((l).length : Nat) : Int) - (1 : Int)))).toNat - 0) 3 (fun x379624 => (fun x614592 => (@AV.lit ([(@Value.int IntKind.i64 ((l.getD (0 + x379624) tok0)).kind), (@Value.string ((l.getD (0 + x379624) tok0)).text), (@Value.int IntKind.i64 ((l.getD (0 + x379624) tok0)).n)].getD x614592 (@Value.tuple (@Array.mk _ [])))))))]) (@And ((fun x204397 => (fun x576933 => (@AV.lit ([(@Value.int IntKind.i64 ((l.getD (0 + x204397) tok0)).kind), (@Value.string ((l.getD (0 + x204397) tok0)).text), (@Value.int IntKind.i64 ((l.getD (0 + x204397) tok0)).n)].getD x576933 (@Value.tuple (@Array.mk _ [])))))) = (fun x431758 => (fun x121967 => (@AV.lit ([(@Value.int IntKind.i64 ((l.getD (0 + x431758) tok0)).kind), (@Value.string ((l.getD (0 + x431758) tok0)).text), (@Value.int IntKind.i64 ((l.getD (0 + x431758) tok0)).n)].getD x121967 (@Value.tuple (@Array.mk _ []))))))) (@And (C (@toks (((w64 ((((l).length : Nat) : Int) - (1 : Int)))).toNat - 0) (fun x408395 => (fun x828252 => (@AV.lit ([(@Value.int IntKind.i64 ((l.getD (0 + x408395) tok0)).kind), (@Value.string ((l.getD (0 + x408395) tok0)).text), (@Value.int IntKind.i64 ((l.getD (0 + x408395) tok0)).n)].getD x828252 (@Value.tuple (@Array.mk _ [])))))))) (([] : List AV) = []))))) (.leaf (@AV.view ((@trim (@toks (((w64 ((((l).length : Nat) : Int) - (1 : Int)))).toNat - 0) (fun x264073 => (fun x867273 => (@AV.lit ([(@Value.int IntKind.i64 ((l.getD (0 + x264073) tok0)).kind), (@Value.string ((l.getD (0 + x264073) tok0)).text), (@Value.int IntKind.i64 ((l.getD (0 + x264073) tok0)).n)].getD x867273 (@Value.tuple (@Array.mk _ []))))))))).length 3 (fun x923978 => (fun x660614 => (@AV.lit ([(@Value.int IntKind.i64 (((@trim (@toks (((w64 ((((l).length : Nat) : Int) - (1 : Int)))).toNat - 0) (fun x36175 => (fun x305304 => (@AV.lit ([(@Value.int IntKind.i64 ((l.getD (0 + x36175) tok0)).kind), (@Value.string ((l.getD (0 + x36175) tok0)).text), (@Value.int IntKind.i64 ((l.getD (0 + x36175) tok0)).n)].getD x305304 (@Value.tuple (@Array.mk _ [])))))))).getD x923978 tok0)).kind), (@Value.string (((@trim (@toks (((w64 ((((l).length : Nat) : Int) - (1 : Int)))).toNat - 0) (fun x416080 => (fun x108221 => (@AV.lit ([(@Value.int IntKind.i64 ((l.getD (0 + x416080) tok0)).kind), (@Value.string ((l.getD (0 + x416080) tok0)).text), (@Value.int IntKind.i64 ((l.getD (0 + x416080) tok0)).n)].getD x108221 (@Value.tuple (@Array.mk _ [])))))))).getD x923978 tok0)).text), (@Value.int IntKind.i64 (((@trim (@toks (((w64 ((((l).length : Nat) : Int) - (1 : Int)))).toNat - 0) (fun x106325 => (fun x237922 => (@AV.lit ([(@Value.int IntKind.i64 ((l.getD (0 + x106325) tok0)).kind), (@Value.string ((l.getD (0 + x106325) tok0)).text), (@Value.int IntKind.i64 ((l.getD (0 + x106325) tok0)).n)].getD x237922 (@Value.tuple (@Array.mk _ [])))))))).getD x923978 tok0)).n)].getD x660614 (@Value.tuple (@Array.mk _ [])))))))))) (.leaf (@AV.view (l).length 3 (fun x597905 => (fun x252454 => (@AV.lit ([(@Value.int IntKind.i64 ((l.getD x597905 tok0)).kind), (@Value.string ((l.getD x597905 tok0)).text), (@Value.int IntKind.i64 ((l.getD x597905 tok0)).n)].getD x252454 (@Value.tuple (@Array.mk _ []))))))))))))) (.need (!(!(leI (((l).length : Nat) : Int) (0 : Int)))) (.leaf (@AV.view (l).length 3 (fun x339204 => (fun x60665 => (@AV.lit ([(@Value.int IntKind.i64 ((l.getD x339204 tok0)).kind), (@Value.string ((l.getD x339204 tok0)).text), (@Value.int IntKind.i64 ((l.getD x339204 tok0)).n)].getD x60665 (@Value.tuple (@Array.mk _ [])))))))))) (by kernel_rfl) (by
    refine fork_ok (fun q1 => ?_) (fun q1 => ?_)
    · simp only [Bool.not_eq_true', Bool.not_eq_false', leI_t, leI_f, eqI_t, eqI_f, inR_t, inR_f, isSo_t, isSo_f] at q1
      have r0 : inR (0 : Int) l.length = true := by rw [inR_t]; omega
      have hl' : l.length ≤ 17592186044416 := hl
      have e1 := last_at hl (by omega)
      have e2 : toks ((l.length : Int).toNat - 1) (cx l 1) = (l.drop 1).take (l.length - 1) := by
        rw [Int.toNat_natCast, toks_cx _ _ _ (by omega)]
      have e3 : toks ((w64 ((l.length : Int) - 1)).toNat - 0) (cx l 0) = l.take (l.length - 1) := by
        rw [e1, toks_cx _ _ _ (by omega), List.drop_zero]; simp
      have b1 : (true && (leI (1 : Int) ((l.length : Nat) : Int) && leI ((l.length : Nat) : Int) ((l.length : Nat) : Int))) = true := by simp only [Bool.true_and, Bool.and_eq_true, leI_t]; omega
      have b2 : (true && (leI (0 : Int) (w64 ((l.length : Int) - 1)) && leI (w64 ((l.length : Int) - 1)) ((l.length : Nat) : Int))) = true := by simp only [Bool.true_and, Bool.and_eq_true, leI_t]; omega
      have r1 : inR (w64 ((l.length : Int) - 1)) l.length = true := by rw [inR_t]; omega
      have el : l.getD (w64 ((l.length : Int) - 1)).toNat tok0 = lastT l := by rw [e1]; rfl
      rw [e2, e3, el]
      have c1 : C ((l.drop 1).take (l.length - 1)) := hC _ (by rw [List.length_take, List.length_drop]; omega)
      have c2 : C (l.take (l.length - 1)) := hC _ (by rw [List.length_take]; omega)
      have n1 : (!leI ((l.length : Nat) : Int) (0 : Int)) = true := by rw [Bool.not_eq_true', leI_f]; omega
      refine need_t r0 (fork_ok (fun q2 => ?_) (fun q2 => ?_))
      · have := trim_first l (by omega) q2
        rw [this]
        exact need_t b1 (need_so ⟨rfl, rfl, c1, rfl⟩ rfl)
      · refine need_t n1 (need_t r1 (fork_ok (fun q3 => ?_) (fun q3 => ?_)))
        · have := trim_last l (by omega) q3
          rw [this]
          exact need_t b2 (need_so ⟨rfl, rfl, c2, rfl⟩ rfl)
        · have := trim_id l (fun e => by rw [e] at q1; simp at q1) q2 q3
          show _ = kv (trim l)
          rw [this]
          rfl
    · simp only [Bool.not_eq_true', Bool.not_eq_false', leI_t, leI_f, eqI_t, eqI_f, inR_t, inR_f, isSo_t, isSo_f] at q1
      have n1 : (!(!leI ((l.length : Nat) : Int) (0 : Int))) = true := by simp only [Bool.not_not, leI_t]; omega
      have : l = [] := List.eq_nil_of_length_eq_zero (by omega)
      subst this
      exact need_t n1 rfl)
theorem Sy.trimr_m (m : Nat) : ∀ l : List TokV, lim l ∧ l.length < m → CallTo Try.prog 91 [kv l] M0 fun v _ => v = kv (trim l) := by
  induction m with
  | zero => intro l h; exact absurd h.2 (by omega)
  | succ m ih => exact fun l h => trimr_step (fun l => lim l ∧ l.length < m) ih l h.1 fun x hx => ⟨by have := h.1; unfold Sy.lim at *; omega, by have := h.2; omega⟩
theorem Sy.trimr_t (l : List TokV) (h : lim l) : CallTo Try.prog 91 [kv l] M0 fun v _ => v = kv (trim l) := trimr_m (l.length + 1) l ⟨h, Nat.lt_succ_self _⟩
/-! ### Top -/
/-sy top_p
fun (l : List TokV) (i k : Int) (d : D) => probeV SyTool.probe [cMatchR l] 400 30 90 [kv l, int i, int k, int k] M0 d
-/
namespace Sy
abbrev toF (l : List TokV) (i j k : Int) : Fr := [some ((@AV.view (l).length 3 (fun x258111 => (fun x474558 => (@AV.lit ([(@Value.int IntKind.i64 ((l.getD x258111 tok0)).kind), (@Value.string ((l.getD x258111 tok0)).text), (@Value.int IntKind.i64 ((l.getD x258111 tok0)).n)].getD x474558 (@Value.tuple (@Array.mk _ [])))))))), some (int i), some ((int k)), some ((int k)), none, none, none, none, some (int j), none, none, none, none, none, none, none, none, none, none, none, none, none, none, none, none, none, none, none, none, none, none, none, none, none, none, none]
end Sy
/-sy top_r
fun (l : List TokV) (i k : Int) (d : D) => reckL [cMatchR l] [] 400 30 90 2 [true, true, true, true, false, false, false, false, true, false, false, false, false, false, false, false, false, false, false, false, false, false, false, false, false, false, false, false, false, false, false, false, false, false, false, false] (toF l i 0 k) M0 d
-/
/-- is a token of a kind? -/
def kindB (k : Int) (t : TokV) : Bool := eqI t.kind k
/-- the reference's place: it may lie one beyond the end -/
def topR (p : TokV → Bool) (l : List TokV) (i : Nat) : Nat := hops (fun j => p (tokAt l j)) (fun j => mt l j + 1) l.length i
theorem mt_gt (l : List TokV) : ∀ k, k < l.length → k < mt l k + 1 := fun k h => by have := mt_le h; omega
theorem topR_min (p : TokV → Bool) (l : List TokV) (i : Nat) (h : i ≤ l.length) : tops p l i = min (topR p l i) l.length := hops_clip (mt_gt l) _ i (Nat.le_refl _) h
theorem Sy.to_scan (l : List TokV) (k : Int) (hl : lim l) : ∀ i, LoopTo Try.prog (theBody Try.prog 90 2) (l.length - i + 1) (toF l i 0 k) M0 fun ex F' M' => M' = M0 ∧ ((topR (kindB k) l i < l.length ∧ ex = .ret ∧ F' = toF l (topR (kindB k) l i : Nat) (topR (kindB k) l i : Nat) k) ∨ (l.length ≤ topR (kindB k) l i ∧ ex = .exit 0 ∧ F' = toF l (topR (kindB k) l i : Nat) 0 k)) :=
  hopM l.length (fun j => kindB k (tokAt l j)) (fun j => mt l j + 1) (mt_gt l) (fun i => toF l i 0 k) (fun i => toF l i i k) (fun _ => M0) .ret (.exit 0) fun κ n G c1 c2 c3 => by
    generalize hκ : (κ : Int) = i at *
    refine roundL [cMatchR l] [] 400 30 90 2 Try.func90 rfl (by kernel_rfl) [true, true, true, true, false, false, false, false, true, false, false, false, false, false, false, false, false, false, false, false, false, false, false, false, false, false, false, false, false, false, false, false, false, false, false, false] (.br (.yes (.br (.auto 1 (.yes (.auto 4 (.no (.yes .done))))) (.auto 7 .done))) .done) (.fork (!(leI (((l).length : Nat) : Int) i)) (.need (@inR i (l).length) (.fork (!(eqI ((l.getD (i).toNat tok0)).kind k)) (.need (@inR i (l).length) (.need (!(eqI ((l.getD (i).toNat tok0)).kind k)) (.need (@isSo (@And ([(@AV.view (l).length 3 (fun x714335 => (fun x808646 => (@AV.lit ([(@Value.int IntKind.i64 ((l.getD x714335 tok0)).kind), (@Value.string ((l.getD x714335 tok0)).text), (@Value.int IntKind.i64 ((l.getD x714335 tok0)).n)].getD x808646 (@Value.tuple (@Array.mk _ []))))))), (int i)] = [(@AV.view (l).length 3 (fun x801882 => (fun x115469 => (@AV.lit ([(@Value.int IntKind.i64 ((l.getD x801882 tok0)).kind), (@Value.string ((l.getD x801882 tok0)).text), (@Value.int IntKind.i64 ((l.getD x801882 tok0)).n)].getD x115469 (@Value.tuple (@Array.mk _ []))))))), (int i)]) ((l).length ≤ 17592186044416))) (.leaf (Ex.norm, ([(some (@AV.view (l).length 3 (fun x83056 => (fun x423656 => (@AV.lit ([(@Value.int IntKind.i64 ((l.getD x83056 tok0)).kind), (@Value.string ((l.getD x83056 tok0)).text), (@Value.int IntKind.i64 ((l.getD x83056 tok0)).n)].getD x423656 (@Value.tuple (@Array.mk _ [])))))))), (some (int (w64 ((@mtI l i) + (1 : Int))))), (some (int k)), (some (int k)), none, none, none, none, (some (int (0 : Int))), none, none, none, none, none, none, none, none, none, none, none, none, none, none, none, none, none, none, none, none, none, none, none, none, none, none, none], (@Mem.mk 0 0 []))))))) (.leaf (Ex.ret, ([(some (@AV.view (l).length 3 (fun x762164 => (fun x297715 => (@AV.lit ([(@Value.int IntKind.i64 ((l.getD x762164 tok0)).kind), (@Value.string ((l.getD x762164 tok0)).text), (@Value.int IntKind.i64 ((l.getD x762164 tok0)).n)].getD x297715 (@Value.tuple (@Array.mk _ [])))))))), (some (int i)), (some (int k)), (some (int k)), none, none, none, none, (some (int i)), none, none, none, none, none, none, none, none, none, none, none, none, none, none, none, none, none, none, none, none, none, none, none, none, none, none, none], (@Mem.mk 0 0 [])))))) (.leaf ((@Ex.exit 0), ([(some (@AV.view (l).length 3 (fun x546113 => (fun x216049 => (@AV.lit ([(@Value.int IntKind.i64 ((l.getD x546113 tok0)).kind), (@Value.string ((l.getD x546113 tok0)).text), (@Value.int IntKind.i64 ((l.getD x546113 tok0)).n)].getD x216049 (@Value.tuple (@Array.mk _ [])))))))), (some (int i)), (some (int k)), (some (int k)), none, none, none, none, (some (int (0 : Int))), none, none, none, none, none, none, none, none, none, none, none, none, none, none, none, none, none, none, none, none, none, none, none, none, none, none, none], (@Mem.mk 0 0 []))))) (by kernel_rfl) ?_
    have hl' : l.length ≤ 17592186044416 := hl
    refine fork_ok (fun h => ?_) (fun h => ?_)
    · simp only [Bool.not_eq_true', Bool.not_eq_false', leI_t, leI_f, eqI_t, eqI_f, inR_t, inR_f, isSo_t, isSo_f] at h
      have hk : κ < l.length := by omega
      have hr : inR i l.length = true := by rw [inR_t]; omega
      have hm := mt_le hk
      have hκ' : kindB k (tokAt l κ) = eqI (l.getD i.toNat tok0).kind k := by rw [← hκ]; rfl
      refine need_t hr (fork_ok (fun h2 => need_t hr (need_t h2 (need_so ⟨rfl, hl⟩ ?_))) (fun h2 => c2 hk (by rw [hκ']; simpa using h2)))
      have e1 : mtI l i = (mt l κ : Int) := by rw [← hκ]; exact (mt_int l κ).1
      have := c1 hk (by rw [hκ']; simpa using h2)
      rw [show ((mt l κ + 1 : Nat) : Int) = w64 (mtI l i + 1) by rw [e1, w64_in (r := (mt l κ : Int) + 1) (by omega)]; omega] at this
      exact this
    · simp only [Bool.not_eq_true', Bool.not_eq_false', leI_t, leI_f, eqI_t, eqI_f, inR_t, inR_f, isSo_t, isSo_f] at h
      have := c3 (by omega)
      exact this
namespace Sy
abbrev toE (l : List TokV) (j k : Int) : Fr := [some ((@AV.view (l).length 3 (fun x258111 => (fun x474558 => (@AV.lit ([(@Value.int IntKind.i64 ((l.getD x258111 tok0)).kind), (@Value.string ((l.getD x258111 tok0)).text), (@Value.int IntKind.i64 ((l.getD x258111 tok0)).n)].getD x474558 (@Value.tuple (@Array.mk _ [])))))))), none, some ((int k)), some ((int k)), none, none, none, none, some (int j), none, none, none, none, none, none, none, none, none, none, none, none, none, none, none, none, none, none, none, none, none, none, none, none, none, none, none]
noncomputable abbrev lp_to (l : List TokV) (k : Int) : Lp Try.prog where
  f := 90
  key := 2
  S := formS (fun F M => slotI F 1) (fun i => toF l i 0 k) (fun _ => M0) (fun i => lim l ∧ 0 ≤ i ∧ i ≤ l.length) (fun i => .fork (!leI (l.length : Nat) (tops (kindB k) l i.toNat : Nat)) (.leaf (.ret, toE l (tops (kindB k) l i.toNat : Nat) k, M0)) (.leaf (.exit 0, toE l 0 k, M0))) [true, true, true, true, false, false, false, false, true, false, false, false, false, false, false, false, false, false, false, false, false, false, false, false, false, false, false, false, false, false, false, false, false, false, false, false]
  one := by kernel_rfl
  ok := formS_ok fun i ⟨h1, h2, h3⟩ => by
    obtain ⟨i, rfl⟩ := Int.eq_ofNat_of_zero_le h2
    have e := topR_min (kindB k) l i (by omega)
    refine ⟨l.length - i + 1, ?_⟩
    refine ((Sy.to_scan l k h1 i).out [true, false, true, true, false, false, false, false, true, false, false, false, false, false, false, false, false, false, false, false, false, false, false, false, false, false, false, false, false, false, false, false, false, false, false, false]).mono fun ex F M hg => ?_
    obtain ⟨F0, ⟨rfl, hg⟩, rfl⟩ := hg
    rcases hg with ⟨q1, rfl, rfl⟩ | ⟨q1, rfl, rfl⟩
    · refine .inl ⟨?_, ?_⟩
      · rw [Bool.not_eq_true', leI_f, Int.toNat_natCast]; omega
      · rw [Int.toNat_natCast, show tops (kindB k) l i = topR (kindB k) l i by omega]; rfl
    · refine .inr ⟨?_, rfl⟩
      rw [Bool.not_eq_false', leI_t, Int.toNat_natCast]; omega
end Sy
/-sy top_t
fun (l : List TokV) (i k : Int) (d : D) => reckV [] [lp_to l k] 400 30 90 [kv l, int i, int k, int k] M0 d
-/
theorem Sy.top_t (l : List TokV) (hl : lim l) (i k : Int) (h0 : 0 ≤ i) (h1 : i ≤ l.length) : CallTo Try.prog 90 [kv l, int i, int k, int k] M0 fun v _ => v = int (tops (kindB k) l i.toNat : Nat) :=
  toV [] [lp_to l k] 400 30 (.br .done .done) (.need (@isSo (@And (((some (@AV.view (l).length 3 (fun x189530 => (fun x164753 => (@AV.lit ([(@Value.int IntKind.i64 ((l.getD x189530 tok0)).kind), (@Value.string ((l.getD x189530 tok0)).text), (@Value.int IntKind.i64 ((l.getD x189530 tok0)).n)].getD x164753 (@Value.tuple (@Array.mk _ [])))))))) :: (some (int i)) :: (some (int k)) :: (some (int k)) :: [none, none, none, none, (some (int (0 : Int))), none, none, none, none, none, none, none, none, none, none, none, none, none, none, none, none, none, none, none, none, none, none, none, none, none, none, none]) = [(some (@AV.view (l).length 3 (fun x18252 => (fun x996884 => (@AV.lit ([(@Value.int IntKind.i64 ((l.getD x18252 tok0)).kind), (@Value.string ((l.getD x18252 tok0)).text), (@Value.int IntKind.i64 ((l.getD x18252 tok0)).n)].getD x996884 (@Value.tuple (@Array.mk _ [])))))))), (some (int i)), (some (int k)), (some (int k)), none, none, none, none, (some (int (0 : Int))), none, none, none, none, none, none, none, none, none, none, none, none, none, none, none, none, none, none, none, none, none, none, none, none, none, none, none]) ((@Mem.mk 0 0 []) = M0))) (.need (@isSo (@And ((l).length ≤ 17592186044416) (@And ((0 : Int) ≤ i) (i ≤ (((l).length : Nat) : Int))))) (.fork (!(leI (((l).length : Nat) : Int) (((@tops (@kindB k) l (i).toNat) : Nat) : Int))) (.leaf (int (((@tops (@kindB k) l (i).toNat) : Nat) : Int))) (.leaf (int (((l).length : Nat) : Int)))))) (by kernel_rfl) (by
    have h3 := tops_le (kindB k) l i.toNat (by omega)
    refine need_so ⟨rfl, rfl⟩ (need_so ⟨hl, h0, h1⟩ (fork_ok (fun q => rfl) (fun q => ?_)))
    simp only [Bool.not_eq_true', Bool.not_eq_false', leI_t, leI_f, eqI_t, eqI_f, inR_t, inR_f, isSo_t, isSo_f] at q
    exact leaf_int (by omega))
/-! ### Broken -/
/-sy brk1_p
fun (l : List TokV) (d : D) => probeV SyTool.probe [] 400 30 93 [kv l] M0 d
-/
namespace Sy
abbrev b1F (l : List TokV) (i : Int) (b : Bool) : Fr := [some ((@AV.view (l).length 3 (fun x302633 => (fun x870868 => (@AV.lit ([(@Value.int IntKind.i64 ((l.getD x302633 tok0)).kind), (@Value.string ((l.getD x302633 tok0)).text), (@Value.int IntKind.i64 ((l.getD x302633 tok0)).n)].getD x870868 (@Value.tuple (@Array.mk _ [])))))))), none, some (boo b), some (int i), none, none, none, none, none, none, none, none, none, none, none, none, none, none, none, none, none, none, none, none, none, none, none, none, none, none]
abbrev b1E (l : List TokV) (b : Bool) : Fr := [some ((@AV.view (l).length 3 (fun x302633 => (fun x870868 => (@AV.lit ([(@Value.int IntKind.i64 ((l.getD x302633 tok0)).kind), (@Value.string ((l.getD x302633 tok0)).text), (@Value.int IntKind.i64 ((l.getD x302633 tok0)).n)].getD x870868 (@Value.tuple (@Array.mk _ [])))))))), none, some (boo b), none, none, none, none, none, none, none, none, none, none, none, none, none, none, none, none, none, none, none, none, none, none, none, none, none, none, none]
end Sy
/-sy brk1_r
fun (l : List TokV) (i : Int) (d : D) => reckL [] [] 400 30 93 3 [true, false, true, true, false, false, false, false, false, false, false, false, false, false, false, false, false, false, false, false, false, false, false, false, false, false, false, false, false, false] (b1F l i false) M0 d
-/
theorem Sy.b1_scan (l : List TokV) (hl : lim l) : ∀ k, k ≤ l.length → LoopTo Try.prog (theBody Try.prog 93 3) (l.length - k + 1) (b1F l k false) M0 fun ex F' M' => M' = M0 ∧ ((fstT badB l k < l.length ∧ ex = .ret ∧ F' = b1F l (fstT badB l k : Nat) true) ∨ (fstT badB l k = l.length ∧ ex = .exit 0 ∧ F' = b1F l l.length false)) :=
  hopL l.length (fun j => badB (tokAt l j)) (fun j => j + 1) (fun k _ => Nat.lt_succ_self k) (fun k h => h) (fun k => b1F l k false) (fun k => b1F l k true) (fun _ => M0) .ret fun κ n G h0 c1 c2 c3 => by
    generalize hκ : (κ : Int) = i at *
    refine roundL [] [] 400 30 93 3 Try.func93 rfl (by kernel_rfl) [true, false, true, true, false, false, false, false, false, false, false, false, false, false, false, false, false, false, false, false, false, false, false, false, false, false, false, false, false, false] (.br (.yes (.br .done .done)) .done) (.fork (!(leI (((l).length : Nat) : Int) i)) (.need (@inR i (l).length) (.fork (eqI ((l.getD (i).toNat tok0)).kind (6 : Int)) (.leaf (Ex.ret, ([(some (@AV.view (l).length 3 (fun x302104 => (fun x938319 => (@AV.lit ([(@Value.int IntKind.i64 ((l.getD x302104 tok0)).kind), (@Value.string ((l.getD x302104 tok0)).text), (@Value.int IntKind.i64 ((l.getD x302104 tok0)).n)].getD x938319 (@Value.tuple (@Array.mk _ [])))))))), none, (some (boo true)), (some (int i)), none, none, none, none, none, none, none, none, none, none, none, none, none, none, none, none, none, none, none, none, none, none, none, none, none, none], (@Mem.mk 0 0 [])))) (.leaf (Ex.norm, ([(some (@AV.view (l).length 3 (fun x475965 => (fun x168592 => (@AV.lit ([(@Value.int IntKind.i64 ((l.getD x475965 tok0)).kind), (@Value.string ((l.getD x475965 tok0)).text), (@Value.int IntKind.i64 ((l.getD x475965 tok0)).n)].getD x168592 (@Value.tuple (@Array.mk _ [])))))))), none, (some (boo false)), (some (int (w64 (i + (1 : Int))))), none, none, none, none, none, none, none, none, none, none, none, none, none, none, none, none, none, none, none, none, none, none, none, none, none, none], (@Mem.mk 0 0 [])))))) (.leaf ((@Ex.exit 0), ([(some (@AV.view (l).length 3 (fun x675170 => (fun x549013 => (@AV.lit ([(@Value.int IntKind.i64 ((l.getD x675170 tok0)).kind), (@Value.string ((l.getD x675170 tok0)).text), (@Value.int IntKind.i64 ((l.getD x675170 tok0)).n)].getD x549013 (@Value.tuple (@Array.mk _ [])))))))), none, (some (boo false)), (some (int i)), none, none, none, none, none, none, none, none, none, none, none, none, none, none, none, none, none, none, none, none, none, none, none, none, none, none], (@Mem.mk 0 0 []))))) (by kernel_rfl) ?_
    have hl' : l.length ≤ 17592186044416 := hl
    refine fork_ok (fun h => ?_) (fun h => ?_)
    · simp only [Bool.not_eq_true', Bool.not_eq_false', leI_t, leI_f, eqI_t, eqI_f, inR_t, inR_f, isSo_t, isSo_f] at h
      have hk : κ < l.length := by omega
      have hr : inR i l.length = true := by rw [inR_t]; omega
      have hκ' : badB (tokAt l κ) = eqI (l.getD i.toNat tok0).kind 6 := by rw [← hκ]; rfl
      refine need_t hr (fork_ok (fun h2 => c2 hk (by rw [hκ']; exact h2)) (fun h2 => ?_))
      have := c1 hk (by rw [hκ']; exact h2)
      rw [show ((κ + 1 : Nat) : Int) = i + 1 by omega] at this
      rw [w64_in (r := i + 1) (by omega)]
      exact this
    · simp only [Bool.not_eq_true', Bool.not_eq_false', leI_t, leI_f, eqI_t, eqI_f, inR_t, inR_f, isSo_t, isSo_f] at h
      have hk : κ = l.length := by omega
      have := c3 hk
      rw [← hk, hκ] at this
      exact this
namespace Sy
noncomputable abbrev lp_b1 (l : List TokV) : Lp Try.prog where
  f := 93
  key := 3
  S := formS (fun F M => slotI F 3) (fun i => b1F l i false) (fun _ => M0) (fun i => lim l ∧ i = 0) (fun i => .fork (!leI (l.length : Nat) (fstT badB l 0 : Nat)) (.leaf (.ret, b1E l true, M0)) (.leaf (.exit 0, b1E l false, M0))) [true, false, true, true, false, false, false, false, false, false, false, false, false, false, false, false, false, false, false, false, false, false, false, false, false, false, false, false, false, false]
  one := by kernel_rfl
  ok := formS_ok fun i ⟨h1, h2⟩ => by
    subst h2
    refine ⟨_, ((Sy.b1_scan l h1 0 (Nat.zero_le _)).out [true, false, true, false, false, false, false, false, false, false, false, false, false, false, false, false, false, false, false, false, false, false, false, false, false, false, false, false, false, false]).mono fun ex F M hg => ?_⟩
    obtain ⟨F0, ⟨rfl, hg⟩, rfl⟩ := hg
    rcases hg with ⟨q1, rfl, rfl⟩ | ⟨q1, rfl, rfl⟩
    · exact .inl ⟨by rw [Bool.not_eq_true', leI_f]; omega, rfl⟩
    · exact .inr ⟨by rw [Bool.not_eq_false', leI_t]; omega, rfl⟩
end Sy
/-sy brk2_p
fun (l : List TokV) (d : D) => callK Try.prog (table []) (fun f key => Bool.rec (some (SyTool.probe key)) (lpOf [lp_b1 l] f key) (Nat.beq key 3)) 400 30 93 [kv l] M0 d (fun v _ d' => .leaf (v, d'))
-/
namespace Sy
abbrev b2F (l : List TokV) (i : Int) (b : Bool) : Fr := [some ((@AV.view (l).length 3 (fun x138081 => (fun x239660 => (@AV.lit ([(@Value.int IntKind.i64 ((l.getD x138081 tok0)).kind), (@Value.string ((l.getD x138081 tok0)).text), (@Value.int IntKind.i64 ((l.getD x138081 tok0)).n)].getD x239660 (@Value.tuple (@Array.mk _ [])))))))), none, some (boo b), none, some (int i), none, none, none, none, none, none, none, none, none, none, none, none, none, none, none, none, none, none, none, none, none, none, none, none, none]
abbrev b2E (l : List TokV) (b : Bool) : Fr := [some ((@AV.view (l).length 3 (fun x138081 => (fun x239660 => (@AV.lit ([(@Value.int IntKind.i64 ((l.getD x138081 tok0)).kind), (@Value.string ((l.getD x138081 tok0)).text), (@Value.int IntKind.i64 ((l.getD x138081 tok0)).n)].getD x239660 (@Value.tuple (@Array.mk _ [])))))))), none, some (boo b), none, none, none, none, none, none, none, none, none, none, none, none, none, none, none, none, none, none, none, none, none, none, none, none, none, none, none]
end Sy
/-sy brk2_r
fun (l : List TokV) (i : Int) (d : D) => reckL [cLoudR, cMatchR l] [] 400 30 93 8 [true, false, true, false, true, false, false, false, false, false, false, false, false, false, false, false, false, false, false, false, false, false, false, false, false, false, false, false, false, false] (b2F l i false) M0 d
-/
theorem Sy.b2_scan (l : List TokV) (hl : lim l) : ∀ i, LoopTo Try.prog (theBody Try.prog 93 8) (l.length - i + 1) (b2F l i false) M0 fun ex F' M' => M' = M0 ∧ ((topR loudB l i < l.length ∧ ex = .ret ∧ F' = b2F l (topR loudB l i : Nat) true) ∨ (l.length ≤ topR loudB l i ∧ ex = .exit 2 ∧ F' = b2F l (topR loudB l i : Nat) false)) :=
  hopM l.length (fun j => loudB (tokAt l j)) (fun j => mt l j + 1) (mt_gt l) (fun i => b2F l i false) (fun i => b2F l i true) (fun _ => M0) .ret (.exit 2) fun κ n G c1 c2 c3 => by
    generalize hκ : (κ : Int) = i at *
    refine roundL [cLoudR, cMatchR l] [] 400 30 93 8 Try.func93 rfl (by kernel_rfl) [true, false, true, false, true, false, false, false, false, false, false, false, false, false, false, false, false, false, false, false, false, false, false, false, false, false, false, false, false, false] (.br (.yes (.yes (.br .done (.yes .done)))) .done) (.fork (!(leI (((l).length : Nat) : Int) i)) (.need (@inR i (l).length) (.need (@isSo (@And ([(@AV.agg [(int ((l.getD (i).toNat tok0)).kind), (@AV.lit (@Value.string ((l.getD (i).toNat tok0)).text)), (int ((l.getD (i).toNat tok0)).n)])] = [(@AV.agg [(int ((l.getD (i).toNat tok0)).kind), (@AV.lit (@Value.string ((l.getD (i).toNat tok0)).text)), (int ((l.getD (i).toNat tok0)).n)])]) True)) (.fork (@loudB (@TokV.mk ((l.getD (i).toNat tok0)).kind ((l.getD (i).toNat tok0)).text ((l.getD (i).toNat tok0)).n)) (.leaf (Ex.ret, ([(some (@AV.view (l).length 3 (fun x641195 => (fun x263458 => (@AV.lit ([(@Value.int IntKind.i64 ((l.getD x641195 tok0)).kind), (@Value.string ((l.getD x641195 tok0)).text), (@Value.int IntKind.i64 ((l.getD x641195 tok0)).n)].getD x263458 (@Value.tuple (@Array.mk _ [])))))))), none, (some (boo true)), none, (some (int i)), none, none, none, none, none, none, none, none, none, none, none, none, none, none, none, none, none, none, none, none, none, none, none, none, none], (@Mem.mk 0 0 [])))) (.need (@isSo (@And ([(@AV.view (l).length 3 (fun x545071 => (fun x418182 => (@AV.lit ([(@Value.int IntKind.i64 ((l.getD x545071 tok0)).kind), (@Value.string ((l.getD x545071 tok0)).text), (@Value.int IntKind.i64 ((l.getD x545071 tok0)).n)].getD x418182 (@Value.tuple (@Array.mk _ []))))))), (int i)] = [(@AV.view (l).length 3 (fun x724341 => (fun x784045 => (@AV.lit ([(@Value.int IntKind.i64 ((l.getD x724341 tok0)).kind), (@Value.string ((l.getD x724341 tok0)).text), (@Value.int IntKind.i64 ((l.getD x724341 tok0)).n)].getD x784045 (@Value.tuple (@Array.mk _ []))))))), (int i)]) ((l).length ≤ 17592186044416))) (.leaf (Ex.norm, ([(some (@AV.view (l).length 3 (fun x511904 => (fun x657671 => (@AV.lit ([(@Value.int IntKind.i64 ((l.getD x511904 tok0)).kind), (@Value.string ((l.getD x511904 tok0)).text), (@Value.int IntKind.i64 ((l.getD x511904 tok0)).n)].getD x657671 (@Value.tuple (@Array.mk _ [])))))))), none, (some (boo false)), none, (some (int (w64 ((@mtI l i) + (1 : Int))))), none, none, none, none, none, none, none, none, none, none, none, none, none, none, none, none, none, none, none, none, none, none, none, none, none], (@Mem.mk 0 0 [])))))))) (.leaf ((@Ex.exit 2), ([(some (@AV.view (l).length 3 (fun x146236 => (fun x603908 => (@AV.lit ([(@Value.int IntKind.i64 ((l.getD x146236 tok0)).kind), (@Value.string ((l.getD x146236 tok0)).text), (@Value.int IntKind.i64 ((l.getD x146236 tok0)).n)].getD x603908 (@Value.tuple (@Array.mk _ [])))))))), none, (some (boo false)), none, (some (int i)), none, none, none, none, none, none, none, none, none, none, none, none, none, none, none, none, none, none, none, none, none, none, none, none, none], (@Mem.mk 0 0 []))))) (by kernel_rfl) ?_
    have hl' : l.length ≤ 17592186044416 := hl
    refine fork_ok (fun h => ?_) (fun h => ?_)
    · simp only [Bool.not_eq_true', Bool.not_eq_false', leI_t, leI_f, eqI_t, eqI_f, inR_t, inR_f, isSo_t, isSo_f] at h
      have hk : κ < l.length := by omega
      have hr : inR i l.length = true := by rw [inR_t]; omega
      have hm := mt_le hk
      have hκ' : tokAt l κ = l.getD i.toNat tok0 := by rw [← hκ]; rfl
      refine need_t hr (need_so ⟨rfl, trivial⟩ (fork_ok (fun h2 => c2 hk (by rw [hκ']; exact h2)) (fun h2 => need_so ⟨rfl, hl⟩ ?_)))
      have e1 : mtI l i = (mt l κ : Int) := by rw [← hκ]; exact (mt_int l κ).1
      have := c1 hk (by rw [hκ']; exact h2)
      rw [show ((mt l κ + 1 : Nat) : Int) = w64 (mtI l i + 1) by rw [e1, w64_in (r := (mt l κ : Int) + 1) (by omega)]; omega] at this
      exact this
    · simp only [Bool.not_eq_true', Bool.not_eq_false', leI_t, leI_f, eqI_t, eqI_f, inR_t, inR_f, isSo_t, isSo_f] at h
      exact c3 (by omega)
namespace Sy
noncomputable abbrev lp_b2 (l : List TokV) : Lp Try.prog where
  f := 93
  key := 8
  S := formS (fun F M => slotI F 4) (fun i => b2F l i false) (fun _ => M0) (fun i => lim l ∧ i = 0) (fun i => .fork (!leI (l.length : Nat) (tops loudB l 0 : Nat)) (.leaf (.ret, b2E l true, M0)) (.leaf (.exit 2, b2E l false, M0))) [true, false, true, false, true, false, false, false, false, false, false, false, false, false, false, false, false, false, false, false, false, false, false, false, false, false, false, false, false, false]
  one := by kernel_rfl
  ok := formS_ok fun i ⟨h1, h2⟩ => by
    subst h2
    have e := topR_min loudB l 0 (Nat.zero_le _)
    refine ⟨_, ((Sy.b2_scan l h1 0).out [true, false, true, false, false, false, false, false, false, false, false, false, false, false, false, false, false, false, false, false, false, false, false, false, false, false, false, false, false, false]).mono fun ex F M hg => ?_⟩
    obtain ⟨F0, ⟨rfl, hg⟩, rfl⟩ := hg
    rcases hg with ⟨q1, rfl, rfl⟩ | ⟨q1, rfl, rfl⟩
    · exact .inl ⟨by rw [Bool.not_eq_true', leI_f]; omega, rfl⟩
    · exact .inr ⟨by rw [Bool.not_eq_false', leI_t]; omega, rfl⟩
end Sy
/-sy brk_t
fun (l : List TokV) (d : D) => reckV [] [lp_b1 l, lp_b2 l] 400 30 93 [kv l] M0 d
-/
theorem Sy.brk_t (l : List TokV) (hl : lim l) : CallTo Try.prog 93 [kv l] M0 fun v _ => v = boo (brokenT l) :=
  toV [] [lp_b1 l, lp_b2 l] 400 30 (.br .done (.br .done .done)) (.need (@isSo (@And (((some (@AV.view (l).length 3 (fun x787124 => (fun x654835 => (@AV.lit ([(@Value.int IntKind.i64 ((l.getD x787124 tok0)).kind), (@Value.string ((l.getD x787124 tok0)).text), (@Value.int IntKind.i64 ((l.getD x787124 tok0)).n)].getD x654835 (@Value.tuple (@Array.mk _ [])))))))) :: [none, (some (boo false)), (some (int (0 : Int))), none, none, none, none, none, none, none, none, none, none, none, none, none, none, none, none, none, none, none, none, none, none, none, none, none, none]) = [(some (@AV.view (l).length 3 (fun x89503 => (fun x724614 => (@AV.lit ([(@Value.int IntKind.i64 ((l.getD x89503 tok0)).kind), (@Value.string ((l.getD x89503 tok0)).text), (@Value.int IntKind.i64 ((l.getD x89503 tok0)).n)].getD x724614 (@Value.tuple (@Array.mk _ [])))))))), none, (some (boo false)), (some (int (0 : Int))), none, none, none, none, none, none, none, none, none, none, none, none, none, none, none, none, none, none, none, none, none, none, none, none, none, none]) ((@Mem.mk 0 0 []) = M0))) (.need (@isSo (@And ((l).length ≤ 17592186044416) ((0 : Int) = (0 : Int)))) (.fork (!(leI (((l).length : Nat) : Int) (((@fstT badB l 0) : Nat) : Int))) (.leaf (boo true)) (.need (@isSo (@And ([(some (@AV.view (l).length 3 (fun x106266 => (fun x718925 => (@AV.lit ([(@Value.int IntKind.i64 ((l.getD x106266 tok0)).kind), (@Value.string ((l.getD x106266 tok0)).text), (@Value.int IntKind.i64 ((l.getD x106266 tok0)).n)].getD x718925 (@Value.tuple (@Array.mk _ [])))))))), none, (some (boo false)), none, (some (int (0 : Int))), none, none, none, none, none, none, none, none, none, none, none, none, none, none, none, none, none, none, none, none, none, none, none, none, none] = [(some (@AV.view (l).length 3 (fun x418160 => (fun x686248 => (@AV.lit ([(@Value.int IntKind.i64 ((l.getD x418160 tok0)).kind), (@Value.string ((l.getD x418160 tok0)).text), (@Value.int IntKind.i64 ((l.getD x418160 tok0)).n)].getD x686248 (@Value.tuple (@Array.mk _ [])))))))), none, (some (boo false)), none, (some (int (0 : Int))), none, none, none, none, none, none, none, none, none, none, none, none, none, none, none, none, none, none, none, none, none, none, none, none, none]) ((@Mem.mk 0 0 []) = M0))) (.need (@isSo (@And ((l).length ≤ 17592186044416) ((0 : Int) = (0 : Int)))) (.fork (!(leI (((l).length : Nat) : Int) (((@tops loudB l 0) : Nat) : Int))) (.leaf (boo true)) (.leaf (boo false)))))))) (by kernel_rfl) (by
    unfold brokenT
    refine need_so ⟨rfl, rfl⟩ (need_so ⟨hl, rfl⟩ (fork_ok (fun q => ?_) (fun q => need_so ⟨rfl, rfl⟩ (need_so ⟨hl, rfl⟩ (fork_ok (fun q2 => ?_) (fun q2 => ?_))))))
    · simp only [Bool.not_eq_true', Bool.not_eq_false', leI_t, leI_f, eqI_t, eqI_f, inR_t, inR_f, isSo_t, isSo_f] at q
      exact leaf_boo (by simp; omega)
    · simp only [Bool.not_eq_true', Bool.not_eq_false', leI_t, leI_f, eqI_t, eqI_f, inR_t, inR_f, isSo_t, isSo_f] at q q2
      exact leaf_boo (by simp; omega)
    · simp only [Bool.not_eq_true', Bool.not_eq_false', leI_t, leI_f, eqI_t, eqI_f, inR_t, inR_f, isSo_t, isSo_f] at q q2
      exact leaf_boo (by simp; omega))
end Go.Proofs.Ytjljlcflmcjapaa
