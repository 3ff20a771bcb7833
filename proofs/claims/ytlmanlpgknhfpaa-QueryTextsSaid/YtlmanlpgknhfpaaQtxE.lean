/-
  Lemmas for QueryTexts, part 5; no conditions.
-/
import Derived.Test.YtlmanlpgknhfpaaProg
import Derived.Laws.IdiomStrings
import Derived.Test.YtlmanlpgknhfpaaQtxD
set_option linter.unusedVariables false
set_option linter.unusedSimpArgs false
namespace Go.Proofs.Ytlmanlpgknhfpaa
open Go Go.RowKit Pl Sy
theorem Sy.room_okB {n m : Nat} (h : limB (n + m)) : (Bool.true && ((Nat.ble n n) && ((Nat.ble ((n + m) * 32) 140737488355328) && (Nat.ble (n + m) 17592186044416)))) = true := by
  unfold limB at h
  simp only [Bool.and_eq_true, Nat.ble_eq, true_and]
  omega
theorem bhP_at (s t : ByteArray) : ∀ (n : Nat) (a : Int), s.size - a.toNat ≤ n → 0 ≤ a → bhP s t a < s.size → hsI s t (bhP s t a) = true
  | 0, a, h, h0, hl => by
    rw [bhP_step s t a h0] at hl ⊢
    split at hl
    · rename_i q; omega
    · omega
  | n + 1, a, h, h0, hl => by
    rw [bhP_step s t a h0] at hl ⊢
    split at hl
    · rename_i q
      rw [if_pos q]
      exact bhP_at s t n (a + 1) (by omega) (by omega) hl
    · rename_i q
      rw [if_neg q]
      cases hb : hsI s t a with
      | true => rfl
      | false => exact absurd ⟨by omega, hb⟩ q
theorem bhI_le (s t : ByteArray) (a : Int) (h0 : 0 ≤ a) (h : a ≤ s.size) : a ≤ bhI s t a ∧ bhI s t a ≤ s.size := by
  have h1 := bhP_le s t a h0 h
  unfold bhI
  split
  · omega
  · rename_i q
    rw [Bool.not_eq_true, leI_f] at q
    have := hsI_le (bhP_at s t _ a (Nat.le_refl _) h0 (by omega))
    omega
theorem spnI_pos (g : Int → Bool) (s : ByteArray) (a : Int) (h0 : 0 ≤ a) (h : a < s.size) (hg : g (byteAt s a.toNat) = true) : 1 ≤ spnI g s a := by
  unfold spnI
  rw [upI_step g s a h0, if_pos ⟨h, hg⟩]
  have := upI_le g s (a + 1) (by omega) (by omega)
  omega
theorem starts_lt {s : ByteArray} {a : Int} (h : startsI s a = true) : a < s.size ∧ goesB (byteAt s a.toNat) = true := by
  unfold startsI at h
  rw [Bool.and_eq_true, Bool.not_eq_true', leI_f] at h
  refine ⟨by omega, ?_⟩
  by_cases e : eqI (byteAt s a.toNat) 45 = true
  · rw [eqI_t] at e
    rw [e]; rfl
  · rw [if_neg e] at h
    unfold goesB
    rw [h.2]; rfl
theorem one_le (s : ByteArray) (a : Int) (h0 : 0 ≤ a) (h1 : a < s.size) : a < oneE s a ∧ oneE s a ≤ s.size := by
  have b1 := spnI_bd goesB s a h0
  have b2 := spnI_bd goesB s (a + 1) (by omega)
  have b3 := spnI_bd blankB s a h0
  have b4 := num_le s a h0 (by omega)
  unfold oneE oneT
  split
  · rename_i c
    have := hsI_le c
    have h2 : a + 2 ≤ s.size := this
    have := bhI_le s wLs (a + 2) (by omega) h2
    show a < bhI s wLs (a + 2) ∧ bhI s wLs (a + 2) ≤ s.size
    omega
  · split
    · rename_i _ c
      have := spnI_pos blankB s a h0 h1 c
      show a < a + spnI blankB s a ∧ a + spnI blankB s a ≤ s.size
      omega
    · split
      · show a < quoE s a ∧ quoE s a ≤ s.size
        have hz := upI_le (quoB (byteAt s a.toNat)) s (a + 1) (by omega) (by omega)
        rw [show upI (quoB (byteAt s a.toNat)) s (a + 1) = quoZ s a from rfl] at hz
        unfold quoE
        split
        · omega
        · rename_i q
          rw [Bool.not_eq_true, eqI_f] at q
          split <;> omega
      · split
        · rename_i c
          rw [Bool.not_eq_true', leI_f] at c
          show a < meaE s a (numI s a) ∧ meaE s a (numI s a) ≤ s.size
          have b5 := spnI_bd goesB s (a + numI s a) (by omega)
          unfold meaE pctB
          split
          · rename_i q
            rw [Bool.and_eq_true, Bool.not_eq_true', leI_f] at q
            omega
          · split <;> omega
        · unfold hashT
          split
          · show a < a + 1 + spnI goesB s (a + 1) ∧ a + 1 + spnI goesB s (a + 1) ≤ s.size
            omega
          · unfold atT
            split
            · show a < a + 1 + spnI goesB s (a + 1) ∧ a + 1 + spnI goesB s (a + 1) ≤ s.size
              omega
            · unfold nameT
              split
              · rename_i c
                have := spnI_pos goesB s a h0 h1 (starts_lt c).2
                split
                · rename_i q
                  have := hsI_le q
                  have h2 : a + spnI goesB s a + 1 ≤ s.size := this
                  show a < a + spnI goesB s a + 1 ∧ a + spnI goesB s a + 1 ≤ s.size
                  omega
                · show a < a + spnI goesB s a ∧ a + spnI goesB s a ≤ s.size
                  omega
              · split
                · show a < a + 1 ∧ a + 1 ≤ (s.size : Int)
                  omega
                · show a < a + 1 ∧ a + 1 ≤ (s.size : Int)
                  omega
theorem one_size (s : ByteArray) (a : Int) : (oneX s a).size ≤ s.size := by
  have hx : ∀ i j, (s.extract i j).size ≤ s.size := fun i j => by rw [ByteArray.size_extract]; omega
  have h0 : (⟨⟨[]⟩⟩ : ByteArray).size ≤ s.size := Nat.zero_le _
  unfold oneX oneT hashT atT nameT
  repeat' split
  all_goals first | exact h0 | exact hx _ _ | skip
  · show (meaX s a (numI s a)).size ≤ s.size
    unfold meaX
    repeat' split
    all_goals first | exact h0 | exact hx _ _
noncomputable abbrev Sy.cOne (s : ByteArray) : Con Try.prog := atX 29 (fun args => match args with | [_, .lit (.int _ a)] => some a | _ => none) (fun a => [.lit (.string s), int a]) (fun a => tokV (oneK s a) (oneX s a) (oneN s a) (oneE s a)) (fun a => limB s.size ∧ 0 ≤ a ∧ a < s.size) fun a h => ⟨⟨⟨trivial, trivial, trivial⟩, ⟨⟨trivial, trivial, trivial, trivial⟩, trivial, trivial⟩⟩, one_t s h.1 a h.2.1 h.2.2⟩
noncomputable def cuN (s : ByteArray) : Nat → Int → List TokV
  | 0, _ => []
  | n + 1, a => if a < s.size then (if leI (oneK s a) 0 = true then [] else [⟨oneK s a, oneX s a, oneN s a⟩]) ++ cuN s n (oneE s a) else []
noncomputable def cutT (s : ByteArray) : List TokV := cuN s s.size 0
theorem cutN_len (s : ByteArray) : ∀ (n : Nat) (a : Int), (cuN s n a).length ≤ n
  | 0, _ => Nat.le_refl _
  | n + 1, a => by
    have := cutN_len s n (oneE s a)
    unfold cuN
    split
    · rw [List.length_append]
      split
      · simp only [List.length_nil]; omega
      · simp only [List.length_cons, List.length_nil]; omega
    · exact Nat.zero_le _
theorem cutN_size (s : ByteArray) : ∀ (n : Nat) (a : Int) (t : TokV), t ∈ cuN s n a → t.text.size ≤ s.size
  | 0, _, _, h => by cases h
  | n + 1, a, t, h => by
    unfold cuN at h
    split at h
    · rcases List.mem_append.1 h with h | h
      · split at h
        · cases h
        · simp only [List.mem_cons, List.not_mem_nil, or_false] at h
          subst h
          exact one_size s a
      · exact cutN_size s n _ t h
    · cases h
theorem cutT_len (s : ByteArray) : (cutT s).length ≤ s.size := cutN_len s _ _
theorem cutT_ok {s : ByteArray} (h : limB s.size) : ToksOk (cutT s) := fun t ht => by
  have := cutN_size s _ _ t ht
  have hm : 100000000 ≤ maxLen := by decide
  unfold limB at h
  omega
namespace Sy
abbrev cuF (s : ByteArray) (b n : Nat) (a : Int) : Fr := [some ((@AV.lit (@Value.string s))), none, none, some (.own b n 3), some (int a), none, none, none, none, none, none, none, none, none, none, none, none, none, none, none, none, none, none, none, none, none]
end Sy
theorem Sy.cuF_ren (s : ByteArray) (b b' n n' : Nat) (a a' : Int) (σ : Nat → Option Nat) (h : a = a') (hn : n = n') (h1 : σ b' = some b) : RenF σ (cuF s b n a) (cuF s b' n' a') := by
  subst h hn
  simp only [RenF, and_true]
  exact ⟨rfl, ⟨h1, rfl, rfl⟩, rfl⟩
theorem Sy.cu_loop (s : ByteArray) (hs : limB s.size) : ∀ (n : Nat) (a : Int) (L : List TokV), s.size - a.toNat ≤ n → 0 ≤ a → a ≤ s.size → limB (L.length + n) →
    LoopToT 0 Try.prog (theBody Try.prog 13 4) (n + 1) (cuF s 0 L.length a) (qM L) fun ex F2 M2 => ex = .exit 0 ∧ F2 = cuF s 0 (L ++ cuN s n a).length s.size ∧ M2 = qM (L ++ cuN s n a) := by
  intro n
  induction n with
  | zero =>
    intro a L h1 h2 h3 h4
    refine roundT plain mixed 0 [cOne s] [] 400 30 13 4 Try.func13 rfl (by kernel_rfl) [true, false, false, true, true, false, false, false, false, false, false, false, false, false, false, false, false, false, false, false, false, false, false, false, false, false] (.br (.yes (.br (.yes .done) .done)) .done) (.fork (!(leI (((@ByteArray.size s) : Nat) : Int) a)) (.need (@isSo (@And ((@HAppend.hAppend _ _ _ _ (@HAppend.hAppend _ _ _ _ [] [(@AV.lit (@Value.string s)), (int a)]) []) = [(@AV.lit (@Value.string s)), (int a)]) (@And ((@ByteArray.size s) ≤ 100000000) (@And ((0 : Int) ≤ a) (a < (((@ByteArray.size s) : Nat) : Int)))))) (.fork (!(leI (@oneK s a) (0 : Int))) (.need (Bool.true && ((@Nat.ble (L).length (L).length) && ((@Nat.ble (((L).length + 1) * 32) 140737488355328) && (@Nat.ble ((L).length + 1) 17592186044416)))) (.leaf (Ex.norm, ([(some (@AV.lit (@Value.string s))), none, none, (some (@AV.own ((1 + 1) + 1) ((L).length + 1) 3)), (some (int (@oneE s a))), none, none, none, none, none, none, none, none, none, none, none, none, none, none, none, none, none, none, none, none, none], (@Mem.mk (((1 + 1) + 1) + 1) ((0 + 1) + 1) ((some (@Blk.mk [] 40 (some (@Rw.mk ((L).length + 1) 3 (@appc (L).length (@kcell L) (fun x272685 => (fun x204176 => (@getA (@List.take _ 3 ((int (@oneK s a)) :: (@AV.lit (@Value.string (@oneX s a))) :: (int (@oneN s a)) :: (@List.drop _ (0 + ([(int (@oneK s a)), (@AV.lit (@Value.string (@oneX s a))), (int (@oneN s a))]).length) (@List.map _ _ AV.lit (@Array.toList _ (@Array.mk _ [(@List.get _ (@Array.toList _ (@Array.mk _ [(@Value.int IntKind.i64 (0 : Int)), (@Value.string (@ByteArray.mk (@Array.mk _ []))), (@Value.int IntKind.i64 (0 : Int))])) (@Fin.mk _ 0 (@Nat.le_of_ble_eq_true _ _ (@Eq.refl _ true)))), (@List.get _ (@Array.toList _ (@Array.mk _ [(@Value.int IntKind.i64 (0 : Int)), (@Value.string (@ByteArray.mk (@Array.mk _ []))), (@Value.int IntKind.i64 (0 : Int))])) (@Fin.mk _ 1 (@Nat.le_of_ble_eq_true _ _ (@Eq.refl _ true)))), (@List.get _ (@Array.toList _ (@Array.mk _ [(@Value.int IntKind.i64 (0 : Int)), (@Value.string (@ByteArray.mk (@Array.mk _ []))), (@Value.int IntKind.i64 (0 : Int))])) (@Fin.mk _ 2 (@Nat.le_of_ble_eq_true _ _ (@Eq.refl _ true))))])))))) ((x272685 * 3) + x204176))))))))) :: ((some (@Blk.mk ((int (@oneK s a)) :: (@AV.lit (@Value.string (@oneX s a))) :: (int (@oneN s a)) :: (@List.drop _ (0 + ([(int (@oneK s a)), (@AV.lit (@Value.string (@oneX s a))), (int (@oneN s a))]).length) (@List.map _ _ AV.lit (@Array.toList _ (@Array.mk _ [(@List.get _ (@Array.toList _ (@Array.mk _ [(@Value.int IntKind.i64 (0 : Int)), (@Value.string (@ByteArray.mk (@Array.mk _ []))), (@Value.int IntKind.i64 (0 : Int))])) (@Fin.mk _ 0 (@Nat.le_of_ble_eq_true _ _ (@Eq.refl _ true)))), (@List.get _ (@Array.toList _ (@Array.mk _ [(@Value.int IntKind.i64 (0 : Int)), (@Value.string (@ByteArray.mk (@Array.mk _ []))), (@Value.int IntKind.i64 (0 : Int))])) (@Fin.mk _ 1 (@Nat.le_of_ble_eq_true _ _ (@Eq.refl _ true)))), (@List.get _ (@Array.toList _ (@Array.mk _ [(@Value.int IntKind.i64 (0 : Int)), (@Value.string (@ByteArray.mk (@Array.mk _ []))), (@Value.int IntKind.i64 (0 : Int))])) (@Fin.mk _ 2 (@Nat.le_of_ble_eq_true _ _ (@Eq.refl _ true))))]))))) 40 none)) :: [(some (@Blk.mk ((int (@oneK s a)) :: (@AV.lit (@Value.string (@oneX s a))) :: (int (@oneN s a)) :: (@List.drop _ (0 + ([(int (@oneK s a)), (@AV.lit (@Value.string (@oneX s a))), (int (@oneN s a))]).length) [(int (0 : Int)), (@AV.lit (@Value.string (@ByteArray.mk (@Array.mk _ [])))), (int (0 : Int))])) 40 none)), none]))))))) (.leaf (Ex.norm, ([(some (@AV.lit (@Value.string s))), none, none, (some (@AV.own 0 (L).length 3)), (some (int (@oneE s a))), none, none, none, none, none, none, none, none, none, none, none, none, none, none, none, none, none, none, none, none, none], (@Mem.mk (1 + 1) (0 + 1) [(some (@Blk.mk ((int (@oneK s a)) :: (@AV.lit (@Value.string (@oneX s a))) :: (int (@oneN s a)) :: (@List.drop _ (0 + ([(int (@oneK s a)), (@AV.lit (@Value.string (@oneX s a))), (int (@oneN s a))]).length) [(int (0 : Int)), (@AV.lit (@Value.string (@ByteArray.mk (@Array.mk _ [])))), (int (0 : Int))])) 40 none)), (some (@Blk.mk [] 40 (some (@Rw.mk (L).length 3 (@kcell L)))))])))))) (.leaf ((@Ex.exit 0), ([(some (@AV.lit (@Value.string s))), none, none, (some (@AV.own 0 (L).length 3)), (some (int a)), none, none, none, none, none, none, none, none, none, none, none, none, none, none, none, none, none, none, none, none, none], (@Mem.mk 1 0 [(some (@Blk.mk [] 40 (some (@Rw.mk (L).length 3 (@kcell L)))))]))))) (by kernel_rfl) ?_
    refine fork_ok (fun q => ?_) (fun q => ?_)
    · simp only [Bool.not_eq_true', Bool.not_eq_false', leI_t, leI_f, eqI_t, eqI_f, inR_t, inR_f, isSo_t, isSo_f] at q
      omega
    · simp only [Bool.not_eq_true', Bool.not_eq_false', leI_t, leI_f, eqI_t, eqI_f, inR_t, inR_f, isSo_t, isSo_f] at q
      rw [show L ++ cuN s 0 a = L by unfold cuN; simp]
      exact ⟨rfl, by rw [show a = s.size by omega], rfl⟩
  | succ n ih =>
    intro a L h1 h2 h3 h4
    unfold limB at h4
    refine roundT plain mixed 0 [cOne s] [] 400 30 13 4 Try.func13 rfl (by kernel_rfl) [true, false, false, true, true, false, false, false, false, false, false, false, false, false, false, false, false, false, false, false, false, false, false, false, false, false] (.br (.yes (.br (.yes .done) .done)) .done) (.fork (!(leI (((@ByteArray.size s) : Nat) : Int) a)) (.need (@isSo (@And ((@HAppend.hAppend _ _ _ _ (@HAppend.hAppend _ _ _ _ [] [(@AV.lit (@Value.string s)), (int a)]) []) = [(@AV.lit (@Value.string s)), (int a)]) (@And ((@ByteArray.size s) ≤ 100000000) (@And ((0 : Int) ≤ a) (a < (((@ByteArray.size s) : Nat) : Int)))))) (.fork (!(leI (@oneK s a) (0 : Int))) (.need (Bool.true && ((@Nat.ble (L).length (L).length) && ((@Nat.ble (((L).length + 1) * 32) 140737488355328) && (@Nat.ble ((L).length + 1) 17592186044416)))) (.leaf (Ex.norm, ([(some (@AV.lit (@Value.string s))), none, none, (some (@AV.own ((1 + 1) + 1) ((L).length + 1) 3)), (some (int (@oneE s a))), none, none, none, none, none, none, none, none, none, none, none, none, none, none, none, none, none, none, none, none, none], (@Mem.mk (((1 + 1) + 1) + 1) ((0 + 1) + 1) ((some (@Blk.mk [] 40 (some (@Rw.mk ((L).length + 1) 3 (@appc (L).length (@kcell L) (fun x272685 => (fun x204176 => (@getA (@List.take _ 3 ((int (@oneK s a)) :: (@AV.lit (@Value.string (@oneX s a))) :: (int (@oneN s a)) :: (@List.drop _ (0 + ([(int (@oneK s a)), (@AV.lit (@Value.string (@oneX s a))), (int (@oneN s a))]).length) (@List.map _ _ AV.lit (@Array.toList _ (@Array.mk _ [(@List.get _ (@Array.toList _ (@Array.mk _ [(@Value.int IntKind.i64 (0 : Int)), (@Value.string (@ByteArray.mk (@Array.mk _ []))), (@Value.int IntKind.i64 (0 : Int))])) (@Fin.mk _ 0 (@Nat.le_of_ble_eq_true _ _ (@Eq.refl _ true)))), (@List.get _ (@Array.toList _ (@Array.mk _ [(@Value.int IntKind.i64 (0 : Int)), (@Value.string (@ByteArray.mk (@Array.mk _ []))), (@Value.int IntKind.i64 (0 : Int))])) (@Fin.mk _ 1 (@Nat.le_of_ble_eq_true _ _ (@Eq.refl _ true)))), (@List.get _ (@Array.toList _ (@Array.mk _ [(@Value.int IntKind.i64 (0 : Int)), (@Value.string (@ByteArray.mk (@Array.mk _ []))), (@Value.int IntKind.i64 (0 : Int))])) (@Fin.mk _ 2 (@Nat.le_of_ble_eq_true _ _ (@Eq.refl _ true))))])))))) ((x272685 * 3) + x204176))))))))) :: ((some (@Blk.mk ((int (@oneK s a)) :: (@AV.lit (@Value.string (@oneX s a))) :: (int (@oneN s a)) :: (@List.drop _ (0 + ([(int (@oneK s a)), (@AV.lit (@Value.string (@oneX s a))), (int (@oneN s a))]).length) (@List.map _ _ AV.lit (@Array.toList _ (@Array.mk _ [(@List.get _ (@Array.toList _ (@Array.mk _ [(@Value.int IntKind.i64 (0 : Int)), (@Value.string (@ByteArray.mk (@Array.mk _ []))), (@Value.int IntKind.i64 (0 : Int))])) (@Fin.mk _ 0 (@Nat.le_of_ble_eq_true _ _ (@Eq.refl _ true)))), (@List.get _ (@Array.toList _ (@Array.mk _ [(@Value.int IntKind.i64 (0 : Int)), (@Value.string (@ByteArray.mk (@Array.mk _ []))), (@Value.int IntKind.i64 (0 : Int))])) (@Fin.mk _ 1 (@Nat.le_of_ble_eq_true _ _ (@Eq.refl _ true)))), (@List.get _ (@Array.toList _ (@Array.mk _ [(@Value.int IntKind.i64 (0 : Int)), (@Value.string (@ByteArray.mk (@Array.mk _ []))), (@Value.int IntKind.i64 (0 : Int))])) (@Fin.mk _ 2 (@Nat.le_of_ble_eq_true _ _ (@Eq.refl _ true))))]))))) 40 none)) :: [(some (@Blk.mk ((int (@oneK s a)) :: (@AV.lit (@Value.string (@oneX s a))) :: (int (@oneN s a)) :: (@List.drop _ (0 + ([(int (@oneK s a)), (@AV.lit (@Value.string (@oneX s a))), (int (@oneN s a))]).length) [(int (0 : Int)), (@AV.lit (@Value.string (@ByteArray.mk (@Array.mk _ [])))), (int (0 : Int))])) 40 none)), none]))))))) (.leaf (Ex.norm, ([(some (@AV.lit (@Value.string s))), none, none, (some (@AV.own 0 (L).length 3)), (some (int (@oneE s a))), none, none, none, none, none, none, none, none, none, none, none, none, none, none, none, none, none, none, none, none, none], (@Mem.mk (1 + 1) (0 + 1) [(some (@Blk.mk ((int (@oneK s a)) :: (@AV.lit (@Value.string (@oneX s a))) :: (int (@oneN s a)) :: (@List.drop _ (0 + ([(int (@oneK s a)), (@AV.lit (@Value.string (@oneX s a))), (int (@oneN s a))]).length) [(int (0 : Int)), (@AV.lit (@Value.string (@ByteArray.mk (@Array.mk _ [])))), (int (0 : Int))])) 40 none)), (some (@Blk.mk [] 40 (some (@Rw.mk (L).length 3 (@kcell L)))))])))))) (.leaf ((@Ex.exit 0), ([(some (@AV.lit (@Value.string s))), none, none, (some (@AV.own 0 (L).length 3)), (some (int a)), none, none, none, none, none, none, none, none, none, none, none, none, none, none, none, none, none, none, none, none, none], (@Mem.mk 1 0 [(some (@Blk.mk [] 40 (some (@Rw.mk (L).length 3 (@kcell L)))))]))))) (by kernel_rfl) ?_
    refine fork_ok (fun q => ?_) (fun q => ?_)
    · simp only [Bool.not_eq_true', Bool.not_eq_false', leI_t, leI_f, eqI_t, eqI_f, inR_t, inR_f, isSo_t, isSo_f] at q
      have hlt : a < s.size := by omega
      have ho := one_le s a h2 hlt
      refine need_so ⟨rfl, hs, h2, hlt⟩ (fork_ok (fun u => ?_) (fun u => ?_))
      · have e : cuN s (n + 1) a = [⟨oneK s a, oneX s a, oneN s a⟩] ++ cuN s n (oneE s a) := by
          rw [Bool.not_eq_true'] at u
          show (if _ then _ else _) = _
          rw [if_pos hlt, u]; rfl
        refine need_t (room_okB (by unfold limB; omega)) ?_
        have key := ih (oneE s a) (L ++ [⟨oneK s a, oneX s a, oneN s a⟩]) (by omega) (by omega) (by omega) (by unfold limB; simp only [List.length_append, List.length_cons, List.length_nil]; omega)
        rw [List.append_assoc, ← e] at key
        exact LoopToT.ren [3] rfl (cuF_ren s 3 0 _ _ _ _ _ rfl (by simp) rfl) (qM_ren (b := 3) rfl rfl (CellIs.app3 (X := [⟨oneK s a, oneX s a, oneN s a⟩]) (CellIs.kc L) rfl (fun i j hi hj => by
        rcases i with _ | i
        · rcases j with _ | _ | _ | j
          · exact rfl
          · exact rfl
          · exact rfl
          · omega
        · omega))) key
      · have e : cuN s (n + 1) a = cuN s n (oneE s a) := by
          rw [Bool.not_eq_false'] at u
          show (if _ then _ else _) = _
          rw [if_pos hlt, u]; rfl
        have key := ih (oneE s a) L (by omega) (by omega) (by omega) (by unfold limB; omega)
        rw [← e] at key
        exact LoopToT.ren [0] rfl (cuF_ren s 0 0 _ _ _ _ _ rfl rfl rfl) (qM_ren (b := 0) rfl rfl (CellIs.kc L)) key
    · simp only [Bool.not_eq_true', Bool.not_eq_false', leI_t, leI_f, eqI_t, eqI_f, inR_t, inR_f, isSo_t, isSo_f] at q
      rw [show L ++ cuN s (n + 1) a = L by unfold cuN; rw [if_neg (by omega)]; simp]
      exact ⟨rfl, by rw [show a = s.size by omega], rfl⟩
namespace Sy
abbrev cuG (s : ByteArray) : Fr := [some ((@AV.lit (@Value.string s))), none, none, some ((@AV.lit (@Value.slice none 0 0))), some ((int (0 : Int))), none, none, none, none, none, none, none, none, none, none, none, none, none, none, none, none, none, none, none, none, none]
noncomputable abbrev lpCu (s : ByteArray) : Lp Try.prog where
  f := 13
  key := 4
  S := formS (fun F M => some M.stamp) (fun _ => cuG s) (fun t => ⟨0, t, []⟩) (fun _ => limB s.size) (fun t => .leaf (.exit 0, cuF s 1 (0 + (cutT s).length) s.size, rRes ⟨1, t, [some (rowB 0 (kcell []))]⟩ 0 0 (kcell []) (cutT s))) [true, false, false, true, true, false, false, false, false, false, false, false, false, false, false, false, false, false, false, false, false, false, false, false, false, false]
  one := by kernel_rfl
  ok := formS_ok fun t h1 => by
    refine ⟨s.size + 1, ?_⟩
    have key := cu_loop s h1 s.size 0 [] (by omega) (Int.le_refl _) (by omega) (by unfold limB at *; simp only [List.length_nil]; omega)
    have k2 : LoopTo Try.prog (theBody Try.prog 13 4) (s.size + 1) (cuF s 0 0 0) ⟨1, t, [some (rowB 0 (kcell []))]⟩ _ := loopQ_frame key (b := 0) (F' := cuF s 1 (0 + (cutT s).length) s.size) (cuF_ren s 0 0 _ _ _ _ _ rfl rfl rfl) (fun τ t0 => cuF_ren s 0 1 _ _ _ _ τ rfl (by simp [cutT]) t0) rfl (CellIs.kc [])
    have k3 : LoopTo Try.prog (theBody Try.prog 13 4) (s.size + 1) (cuG s) ⟨0, t, []⟩ _ := LoopToT.to (T := 0) (LoopToT.nil 3 40 3 (kcell []) (Nat.le_refl _) rfl (k2.toT 0)) (Nat.le_refl _)
    refine k3.mono fun ex F M hg => ?_
    obtain ⟨rfl, rfl, hM⟩ := hg
    rw [hM]; rfl
end Sy
theorem Sy.cut_t (s : ByteArray) (h : limB s.size) : CallTo Try.prog 13 [.lit (.string s)] M0 fun v M' => OwnEnd v M' (cutT s) :=
  to (G := fun r => OwnEnd r.1 r.2 (cutT s)) [cOne s] [lpCu s] 400 30 .done (.need (@isSo (@And (((some (@AV.lit (@Value.string s))) :: [none, none, (some (@AV.lit (@Value.slice none 0 0))), (some (int (0 : Int))), none, none, none, none, none, none, none, none, none, none, none, none, none, none, none, none, none, none, none, none, none]) = [(some (@AV.lit (@Value.string s))), none, none, (some (@AV.lit (@Value.slice none 0 0))), (some (int (0 : Int))), none, none, none, none, none, none, none, none, none, none, none, none, none, none, none, none, none, none, none, none, none]) ((@Mem.mk 0 0 []) = (@Mem.mk 0 0 [])))) (.need (@isSo ((@ByteArray.size s) ≤ 100000000)) (.leaf ((@AV.own 1 (0 + ((@cutT s)).length) 3), (@Mem.mk 2 1 [(some (@Blk.mk [] 40 (some (@Rw.mk (0 + ((@cutT s)).length) 3 (@appc 0 (@kcell []) (@kcell (@cutT s))))))), none]))))) (by kernel_rfl) (need_so ⟨rfl, rfl⟩ (need_so h ⟨_, _, _, rfl, rfl, CellIs.cast (CellIs.app2 (CellIs.kc []) rfl) (by simp)⟩))
theorem Sy.cut_v (s : ByteArray) (h : limB s.size) : CallTo Try.prog 13 [.lit (.string s)] M0 fun v _ => v = kv (cutT s) :=
  CallTo.frz0 ((cut_t s h).mono fun v M' hv => OwnEnd.frz hv true) ⟨trivial, trivial⟩ (kv_free _)
end Go.Proofs.Ytlmanlpgknhfpaa
namespace Go.Proofs.Ytlmanlpgknhfpaa
open Go Go.RowKit Pl Sy
abbrev BA (L : List UInt8) : ByteArray := ⟨⟨L⟩⟩
theorem ba_size (L : List UInt8) : (BA L).size = L.length := rfl
theorem by_get (L : List UInt8) (k : Nat) : byteAt (BA L) k = match L[k]? with | some c => (c.toNat : Int) | none => 0 := by
  unfold byteAt
  rw [nth_eq]
  cases h : L[k]? with
  | none => rfl
  | some c => rfl
theorem by_at (P : List UInt8) (c : UInt8) (Q : List UInt8) : byteAt (BA (P ++ c :: Q)) P.length = c.toNat := by
  rw [by_get, List.getElem?_append_right (Nat.le_refl _)]
  simp
theorem up_at (g : Int → Bool) : ∀ (X P Q : List UInt8), (∀ x ∈ X, g x.toNat = true) → (∀ q ∈ Q.head?, g q.toNat = false) → upI g (BA (P ++ (X ++ Q))) P.length = ((P.length + X.length : Nat) : Int)
  | [], P, Q, hX, hQ => by
    rw [upI_step _ _ _ (by omega), if_neg]
    · simp
    · rintro ⟨h1, h2⟩
      cases Q with
      | nil => rw [ba_size] at h1; simp at h1
      | cons q Q =>
        have := hQ q rfl
        rw [List.nil_append, show ((P.length : Nat) : Int).toNat = P.length by omega, by_at] at h2
        rw [this] at h2
        cases h2
  | x :: X, P, Q, hX, hQ => by
    rw [upI_step _ _ _ (by omega), if_pos]
    · have := up_at g X (P ++ [x]) Q (fun y hy => hX y (by simp [hy])) hQ
      rw [show P ++ [x] ++ (X ++ Q) = P ++ (x :: X ++ Q) by simp] at this
      rw [show ((P.length : Nat) : Int) + 1 = ((P ++ [x]).length : Nat) by simp, this]
      simp only [List.length_append, List.length_cons, List.length_nil]
      omega
    · refine ⟨?_, ?_⟩
      · rw [ba_size]
        simp only [List.length_append, List.length_cons]
        omega
      · rw [show ((P.length : Nat) : Int).toNat = P.length by omega, List.cons_append, by_at]
        exact hX x (by simp)
theorem span_at (g : Int → Bool) (X P Q : List UInt8) (hX : ∀ x ∈ X, g x.toNat = true) (hQ : ∀ q ∈ Q.head?, g q.toNat = false) : spnI g (BA (P ++ (X ++ Q))) P.length = X.length := by
  unfold spnI
  rw [up_at g X P Q hX hQ]
  omega
theorem ex_at (P X Q : List UInt8) : (BA (P ++ (X ++ Q))).extract P.length (P.length + X.length) = BA X := by
  refine ByteArray.ext ?_
  rw [ByteArray.data_extract]
  refine Array.ext' ?_
  rw [Array.toList_extract]
  show List.extract (P ++ (X ++ Q)) P.length (P.length + X.length) = X
  rw [List.extract_eq_take_drop]
  simp
theorem has_first {s : ByteArray} {x : UInt8} {t : List UInt8} {a : Int} (h0 : 0 ≤ a) (h : hsI s (BA (x :: t)) a = true) : byteAt s a.toNat = x.toNat := by
  unfold hsI at h
  rw [Bool.and_eq_true, bytesEq_eq, decide_eq_true_eq, ByteArray.data_extract, Array.toList_extract] at h
  have h2 := h.2
  have h1 : List.extract s.data.toList a.toNat (a + (BA (x :: t)).size).toNat = x :: t := h2
  rw [List.extract_eq_take_drop] at h1
  have hl := h.1
  rw [leI_t, ba_size] at hl
  simp only [List.length_cons] at hl
  have hlt : a.toNat < s.data.toList.length := by
    have : s.data.toList.length = s.size := by simp
    omega
  have h3 : s.data.toList[a.toNat]? = some x := by
    have := congrArg (fun l => l[0]?) h1
    simp only [List.getElem?_cons_zero] at this
    rw [List.getElem?_take, if_pos (by rw [ba_size]; simp only [List.length_cons]; omega), List.getElem?_drop, Nat.add_zero] at this
    exact this
  unfold byteAt
  rw [nth_eq, h3]
  rfl
end Go.Proofs.Ytlmanlpgknhfpaa
namespace Go.Proofs.Ytlmanlpgknhfpaa
open Go Go.RowKit
set_option maxRecDepth 20000
def dgU (d : Nat) : UInt8 := UInt8.ofNat (48 + d)
def whF : Nat → Nat → List UInt8
  | 0, n => [dgU n]
  | f + 1, n => if n < 10 then [dgU n] else whF f (n / 10) ++ [dgU (n % 10)]
def whL (n : Nat) : List UInt8 := whF n n
theorem whF_eq : ∀ (f g n : Nat), n ≤ f → n ≤ g → whF f n = whF g n
  | 0, 0, n, h1, h2 => rfl
  | 0, g + 1, n, h1, h2 => by unfold whF; rw [if_pos (by omega)]
  | f + 1, 0, n, h1, h2 => by unfold whF; rw [if_pos (by omega)]
  | f + 1, g + 1, n, h1, h2 => by
    unfold whF
    split
    · rfl
    · rw [whF_eq f g (n / 10) (by omega) (by omega)]
theorem whL_one (n : Nat) (h : n < 10) : whL n = [dgU n] := by
  unfold whL
  cases n with
  | zero => rfl
  | succ n => unfold whF; rw [if_pos h]
theorem whL_more (n : Nat) (h : ¬ n < 10) : whL n = whL (n / 10) ++ [dgU (n % 10)] := by
  unfold whL
  cases n with
  | zero => omega
  | succ n =>
    rw [show whF (n + 1) (n + 1) = whF n ((n + 1) / 10) ++ [dgU ((n + 1) % 10)] by rw [whF, if_neg h]]
    rw [whF_eq n ((n + 1) / 10) ((n + 1) / 10) (by omega) (by omega)]
theorem dg_nat {n : Nat} (h : n < 10) : (dgU n).toNat = 48 + n := by
  unfold dgU
  rw [UInt8.toNat_ofNat']
  omega
theorem convD (w : World) (g : Nat) (b : UInt8) (n : Int) (hb : n = b.toNat) (h : w.cell? ⟨g, 0, none⟩ = some (.int .u8 n)) : (convert 96 9 (.slice (some ⟨g, 0, none⟩) 1 1)).run Try.prog w = .ok (.string ⟨#[b]⟩) w :=
  run_convert_bytes_back w 96 9 5 ⟨g, 0, none⟩ 1 [b] Try.underlying96 Try.underlying5 Try.underlying9 fun j hj => by
    have : j = 0 := by simpa using hj
    subst this
    subst hb
    exact h
theorem wrap_dg (n : Nat) (h : n < 10) : IntKind.u8.wrap (IntKind.i64.wrap (48 + (n : Int))) = ((dgU n).toNat : Int) := by
  rw [IntWalk.i64_in _ (by omega), dg_nat h]
  have : n = 0 ∨ n = 1 ∨ n = 2 ∨ n = 3 ∨ n = 4 ∨ n = 5 ∨ n = 6 ∨ n = 7 ∨ n = 8 ∨ n = 9 := by omega
  rcases this with rfl | rfl | rfl | rfl | rfl | rfl | rfl | rfl | rfl | rfl <;> decide
theorem whole_1 (n : Nat) (hn : n < 10) (w : World) : Calls Try.prog 82 #[.int .i64 n] w fun e w' => e = .returned (.string ⟨⟨whL n⟩⟩) ∧ Below w.heap.size w w' := by
  rw [whL_one n hn]
  have hw := wrap_dg n hn
  have hwd := Lib.hid (wrap_dg n hn)
  have d1 : decide ((n : Int) < 10) = true := by simp; omega
  have hx := Lib.hid (show wrap64 (48 + (n : Int)) % 256 = ((dgU n).toNat : Int) by rw [IntWalk.wrap64_in _ (by omega), dg_nat hn]; omega)
  have hconv : ∀ (W : World) (g : Nat) (x : Int), W.cell? ⟨g, 0, none⟩ = some (.int .u8 x) → x = ((dgU n).toNat : Int) → (convert 96 9 (.slice (some ⟨g, 0, none⟩) 1 1)).run Try.prog W = .ok (.string ⟨#[dgU n]⟩) W := fun W g x h e => convD W g (dgU n) _ e h
  have HC := Lib.hid hconv
  clear hw hconv hn
  generalize dgU n = u at *
  go_enter Try.func82, Try.ntmps82
  go_wp2
  rw [HC.out _ _ (wrap64 (48 + (n : Int)) % 256) (by simp) hx.out]
  go_wp2
  go_ret
  exact ⟨rfl, balloc (Below.refl _ _) _⟩
theorem whole_2 (n : Nat) (hn : 10 ≤ n) (hb : n ≤ 1000000000000) (X : ByteArray) (hX : X.size ≤ 100) (hsub : ∀ w, Calls Try.prog 82 #[.int .i64 ((n / 10 : Nat) : Int)] w fun e w' => e = .returned (.string X) ∧ Below w.heap.size w w') (w : World) : Calls Try.prog 82 #[.int .i64 n] w fun e w' => e = .returned (.string (X ++ ⟨#[dgU (n % 10)]⟩)) ∧ Below w.heap.size w w' := by
  have d1 : decide ((n : Int) < 10) = false := by simp; omega
  have e1 : IntKind.i64.wrap ((n : Int) / 10) = ((n / 10 : Nat) : Int) := by
    rw [IntWalk.i64_in _ (by omega)]
    omega
  have e2 : (n : Int) % 10 = ((n % 10 : Nat) : Int) := by omega
  have H := Lib.hid hsub
  have he1 := Lib.hid e1
  have hw := wrap_dg (n % 10) (by omega)
  have hconv : ∀ (W : World) (g : Nat), W.cell? ⟨g, 0, none⟩ = some (.int .u8 (IntKind.u8.wrap (IntKind.i64.wrap (48 + (n : Int) % 10)))) → (convert 96 9 (.slice (some ⟨g, 0, none⟩) 1 1)).run Try.prog W = .ok (.string ⟨#[dgU (n % 10)]⟩) W := fun W g h => convD W g (dgU (n % 10)) _ (by rw [e2]; exact hw) h
  have HC := Lib.hid hconv
  have hXs : ∀ u : UInt8, ¬ (X.size + (ByteArray.mk #[u]).size > 9223372036854775807) := fun u => by show ¬ (X.size + 1 > _); omega
  have hXd : decide (X.size + 1 > 9223372036854775807) = false := by simp; omega
  clear hw hconv hn hb hsub e1 e2
  generalize dgU (n % 10) = u at *
  go_enter Try.func82, Try.ntmps82
  go_wp2_with fail
  go_region_with (first
    | (go_at_call 82; rw [he1.out]; refine (H.out _).mono ?_; rintro e w1 ⟨rfl, h1⟩; have hc1 := fun hlt => h1.cell (p := ⟨w.heap.size, 0, none⟩) hlt)
    | (rw [HC.out _ _ (by first | assumption | (simp; done) | (simp; rfl) | (rw [hc1 (by simp)]; simp; done) | (rw [hc1 (by simp)]; simp; rfl))]))
  all_goals go_wp2
  all_goals go_ret
  all_goals refine ⟨rfl, ?_⟩
  all_goals first
    | exact balloc ((Below.refl w.heap.size w).drew.trans h1) _
    | exact (((balloc (Below.refl w.heap.size w) _).drew).trans (h1.mono (by simp)))
    | exact ((((Below.refl w.heap.size w).drew).trans (balloc (Below.refl w.heap.size _) _)).trans (h1.mono (by simp)))
    | go_show
theorem whL_len : ∀ (f n : Nat), n < 10 ^ f → (whL n).length ≤ max f 1
  | 0, n, h => by
    rw [whL_one n (by omega)]
    simp
  | f + 1, n, h => by
    by_cases hn : n < 10
    · rw [whL_one n hn]; simp
    · rw [whL_more n hn, List.length_append]
      rw [Nat.pow_succ] at h
      have := whL_len f (n / 10) (by omega)
      simp only [List.length_cons, List.length_nil]
      rcases f with _ | f
      · simp at h; omega
      · omega
theorem whole_w : ∀ (f n : Nat), n ≤ f → n ≤ 1000000000000 → ∀ w : World, Calls Try.prog 82 #[.int .i64 n] w fun e w' => e = .returned (.string ⟨⟨whL n⟩⟩) ∧ Below w.heap.size w w'
  | 0, n, h, hb, w => whole_1 n (by omega) w
  | f + 1, n, h, hb, w => by
    by_cases hn : n < 10
    · exact whole_1 n hn w
    · have hl := whL_len 13 (n / 10) (by omega)
      have := whole_2 n (by omega) hb ⟨⟨whL (n / 10)⟩⟩ (by show (whL (n / 10)).length ≤ 100; omega) (whole_w f (n / 10) (by omega) (by omega)) w
      rw [whL_more n hn]
      have e : (⟨⟨whL (n / 10)⟩⟩ : ByteArray) ++ ⟨#[dgU (n % 10)]⟩ = ⟨⟨whL (n / 10) ++ [dgU (n % 10)]⟩⟩ := by
        refine ByteArray.ext ?_
        rw [ByteArray.data_append]
        exact Array.ext' (by simp)
      rw [e] at this
      exact this
end Go.Proofs.Ytlmanlpgknhfpaa
namespace Go.Proofs.Ytlmanlpgknhfpaa
open Go Go.RowKit Pl Sy
theorem Sy.who_c (n : Nat) (h : n ≤ 1000000000000) : CallTo Try.prog 82 [int n] M0 fun v _ => v = .lit (.string ⟨⟨whL n⟩⟩) := (CallTo.of_calls (us := [.int .i64 n]) (fun W => whole_w n n (Nat.le_refl _) h W) M0).mono fun _ _ h => h.1
noncomputable abbrev Sy.cWho : Con Try.prog := atX 82 (fun args => match args with | [.lit (.int .i64 k)] => some k | _ => none) (fun k => [int k]) (fun k => .lit (.string ⟨⟨whL k.toNat⟩⟩)) (fun k => 0 ≤ k ∧ k ≤ 1000000000000) fun k hk => ⟨⟨⟨trivial, trivial⟩, trivial⟩, by
  have := who_c k.toNat (by omega)
  rwa [show ((k.toNat : Nat) : Int) = k by omega] at this⟩
namespace Sy
abbrev prF (s : ByteArray) (p k : Int) : Fr := (none :: none :: none :: none :: some (.lit (.string s)) :: some (int p) :: some (int k) :: (nn32 []))
end Sy
def frR : Nat → Nat → List UInt8
  | 0, p => if p = 0 then [] else [dgU p]
  | j + 1, p => if p = 0 then [] else dgU (p / 10 ^ (j + 1)) :: frR j (p % 10 ^ (j + 1))
def frL (p : Nat) : List UInt8 := frR 2 p
def numL (n : Nat) : List UInt8 := whL (n / 1000) ++ (if n % 1000 = 0 then [] else 46 :: frL (n % 1000))
def numT (n : Int) : List UInt8 := if n < 0 then 45 :: numL n.natAbs else numL n.natAbs
theorem baA (x y : ByteArray) : x ++ y = ⟨⟨x.data.toList ++ y.data.toList⟩⟩ := by
  refine ByteArray.ext ?_
  rw [ByteArray.data_append]
  exact Array.ext' (by simp)
theorem baC (a b : List UInt8) : (⟨⟨a⟩⟩ : ByteArray) ++ ⟨⟨b⟩⟩ = ⟨⟨a ++ b⟩⟩ := baA _ _
theorem baN (s : ByteArray) : s ++ ⟨⟨[]⟩⟩ = s := by rw [baA]; simp
theorem baS (s : ByteArray) (a b : List UInt8) : s ++ ⟨⟨a⟩⟩ ++ ⟨⟨b⟩⟩ = s ++ ⟨⟨a ++ b⟩⟩ := by rw [baA, baA, baA]; simp
theorem frR_nil (j : Nat) : frR j 0 = [] := by cases j <;> rfl
theorem tdivN (p k : Nat) : (p : Int).tdiv (k : Int) = ((p / k : Nat) : Int) := Int.ofNat_tdiv p k |>.symm
theorem tmodN (p k : Nat) : (p : Int).tmod (k : Int) = ((p % k : Nat) : Int) := Int.ofNat_tmod p k |>.symm
namespace Sy
def PrEnd (s : ByteArray) (ex : Ex) (F' : Fr) (M' : Mem) : Prop := M' = M0 ∧ ex = .exit 0 ∧ ∃ p k, F' = prF s p k
theorem prz (s : ByteArray) (k : Int) (n : Nat) : LoopTo Try.prog (theBody Try.prog 57 11) (n + 1) (prF s 0 k) M0 (PrEnd s) :=
  roundL [cWho, cHo] [] 400 30 57 11 Try.func57 rfl (by kernel_rfl) (false :: false :: false :: false :: true :: true :: true :: (ff32 [])) (.auto 0 .done) (.leaf ((@Ex.exit 0), ((none :: none :: none :: none :: (some (@AV.lit (@Value.string s))) :: (some (int (0 : Int))) :: (some (int k)) :: (nn32 [])), (@Mem.mk 0 0 [])))) (by kernel_rfl) ⟨rfl, rfl, _, _, rfl⟩
theorem pr_leaf {s : ByteArray} {p : Nat} (h : p = 0) {k : Int} : PrEnd s (.exit 0) (prF s p k) M0 := ⟨rfl, rfl, _, _, rfl⟩
theorem wdiv (p k : Nat) (hp : p ≤ 1000000) : IntKind.i64.wrap ((p : Int).tdiv (k : Int)) = ((p / k : Nat) : Int) := by
  rw [tdivN]
  have := Nat.div_le_self p k
  generalize p / k = x at *
  exact IntWalk.i64_in _ (by omega)
theorem pr1 (s : ByteArray) (hs : s.size ≤ 1000) (p : Nat) (hp : p < 10) (n : Nat) : LoopTo Try.prog (theBody Try.prog 57 11) (n + 2) (prF s p 1) M0 (PrEnd (s ++ ⟨⟨frR 0 p⟩⟩)) := by
  refine roundL [cWho, cHo] [] 400 30 57 11 Try.func57 rfl (by kernel_rfl) (false :: false :: false :: false :: true :: true :: true :: (ff32 [])) (.br (.yes (.yes .done)) .done) (let e1 := (IntKind.i64.wrap (@Int.tdiv p (1 : Int))); let e2 := (@ByteArray.mk (@Array.mk _ (@whL (e1).toNat))); (.fork (!(leI p (0 : Int))) (.need (@isSo (@And ((@HAppend.hAppend _ _ _ _ (@HAppend.hAppend _ _ _ _ [] [(int e1)]) []) = [(int e1)]) (@And ((0 : Int) ≤ e1) (e1 ≤ (1000000000000 : Int))))) (.need (leI ((((@ByteArray.size s) + (@ByteArray.size e2)) : Nat) : Int) (9223372036854775807 : Int)) (.leaf (Ex.norm, ((none :: none :: none :: none :: (some (@AV.lit (@Value.string (@HAppend.hAppend _ _ _ _ s e2)))) :: (some (int (@Int.tmod p (1 : Int)))) :: (some (int (0 : Int))) :: (nn32 [])), (@Mem.mk 0 0 [])))))) (.leaf ((@Ex.exit 0), ((none :: none :: none :: none :: (some (@AV.lit (@Value.string s))) :: (some (int p)) :: (some (int (1 : Int))) :: (nn32 [])), (@Mem.mk 0 0 [])))))) (by kernel_rfl) ?_
  have e1 : IntKind.i64.wrap ((p : Int).tdiv 1) = ((p / 1 : Nat) : Int) := wdiv p 1 (by omega)
  have e2 : (p : Int).tmod 1 = ((p % 1 : Nat) : Int) := tmodN p 1
  conv => zeta
  rw [e1, e2, Int.toNat_natCast, Nat.div_one, Nat.mod_one]
  refine fork_ok (fun q => ?_) (fun q => ?_)
  · simp only [Bool.not_eq_true', Bool.not_eq_false', leI_t, leI_f, eqI_t, eqI_f, inR_t, inR_f, isSo_t, isSo_f] at q
    have hl := whL_len 1 p (by omega)
    have ef : frR 0 p = whL p := by rw [whL_one p hp]; unfold frR; rw [if_neg (by omega)]
    rw [ef]
    exact need_so ⟨rfl, by omega, by omega⟩ (need_t (by rw [leI_t]; show ((s.size + (whL p).length : Nat) : Int) ≤ _; omega) (prz _ _ n))
  · simp only [Bool.not_eq_true', Bool.not_eq_false', leI_t, leI_f, eqI_t, eqI_f, inR_t, inR_f, isSo_t, isSo_f] at q
    have h0 : p = 0 := by omega
    subst h0
    rw [frR_nil, baN]
    exact pr_leaf rfl
theorem pr10 (s : ByteArray) (hs : s.size ≤ 900) (p : Nat) (hp : p < 100) (n : Nat) : LoopTo Try.prog (theBody Try.prog 57 11) (n + 3) (prF s p 10) M0 (PrEnd (s ++ ⟨⟨frR 1 p⟩⟩)) := by
  refine roundL [cWho, cHo] [] 400 30 57 11 Try.func57 rfl (by kernel_rfl) (false :: false :: false :: false :: true :: true :: true :: (ff32 [])) (.br (.yes (.yes .done)) .done) (let e1 := (IntKind.i64.wrap (@Int.tdiv p (10 : Int))); let e2 := (@ByteArray.mk (@Array.mk _ (@whL (e1).toNat))); (.fork (!(leI p (0 : Int))) (.need (@isSo (@And ((@HAppend.hAppend _ _ _ _ (@HAppend.hAppend _ _ _ _ [] [(int e1)]) []) = [(int e1)]) (@And ((0 : Int) ≤ e1) (e1 ≤ (1000000000000 : Int))))) (.need (leI ((((@ByteArray.size s) + (@ByteArray.size e2)) : Nat) : Int) (9223372036854775807 : Int)) (.leaf (Ex.norm, ((none :: none :: none :: none :: (some (@AV.lit (@Value.string (@HAppend.hAppend _ _ _ _ s e2)))) :: (some (int (@Int.tmod p (10 : Int)))) :: (some (int (1 : Int))) :: (nn32 [])), (@Mem.mk 0 0 [])))))) (.leaf ((@Ex.exit 0), ((none :: none :: none :: none :: (some (@AV.lit (@Value.string s))) :: (some (int p)) :: (some (int (10 : Int))) :: (nn32 [])), (@Mem.mk 0 0 [])))))) (by kernel_rfl) ?_
  have e1 : IntKind.i64.wrap ((p : Int).tdiv 10) = ((p / 10 : Nat) : Int) := wdiv p 10 (by omega)
  have e2 : (p : Int).tmod 10 = ((p % 10 : Nat) : Int) := tmodN p 10
  conv => zeta
  rw [e1, e2, Int.toNat_natCast]
  refine fork_ok (fun q => ?_) (fun q => ?_)
  · simp only [Bool.not_eq_true', Bool.not_eq_false', leI_t, leI_f, eqI_t, eqI_f, inR_t, inR_f, isSo_t, isSo_f] at q
    have hl := whL_len 1 (p / 10) (by omega)
    have ef : frR 1 p = whL (p / 10) ++ frR 0 (p % 10) := by rw [whL_one (p / 10) (by omega)]; show (if p = 0 then [] else _) = _; rw [if_neg (by omega)]; rfl
    rw [ef, ← baS]
    exact need_so ⟨rfl, by omega, by omega⟩ (need_t (by rw [leI_t]; show ((s.size + (whL (p / 10)).length : Nat) : Int) ≤ _; omega) (pr1 _ (by rw [ByteArray.size_append]; show s.size + (whL (p / 10)).length ≤ _; omega) _ (by omega) n))
  · simp only [Bool.not_eq_true', Bool.not_eq_false', leI_t, leI_f, eqI_t, eqI_f, inR_t, inR_f, isSo_t, isSo_f] at q
    have h0 : p = 0 := by omega
    subst h0
    rw [frR_nil, baN]
    exact pr_leaf rfl
theorem pr100 (s : ByteArray) (hs : s.size ≤ 800) (p : Nat) (hp : p < 1000) (n : Nat) : LoopTo Try.prog (theBody Try.prog 57 11) (n + 4) (prF s p 100) M0 (PrEnd (s ++ ⟨⟨frL p⟩⟩)) := by
  refine roundL [cWho, cHo] [] 400 30 57 11 Try.func57 rfl (by kernel_rfl) (false :: false :: false :: false :: true :: true :: true :: (ff32 [])) (.br (.yes (.yes .done)) .done) (let e1 := (IntKind.i64.wrap (@Int.tdiv p (100 : Int))); let e2 := (@ByteArray.mk (@Array.mk _ (@whL (e1).toNat))); (.fork (!(leI p (0 : Int))) (.need (@isSo (@And ((@HAppend.hAppend _ _ _ _ (@HAppend.hAppend _ _ _ _ [] [(int e1)]) []) = [(int e1)]) (@And ((0 : Int) ≤ e1) (e1 ≤ (1000000000000 : Int))))) (.need (leI ((((@ByteArray.size s) + (@ByteArray.size e2)) : Nat) : Int) (9223372036854775807 : Int)) (.leaf (Ex.norm, ((none :: none :: none :: none :: (some (@AV.lit (@Value.string (@HAppend.hAppend _ _ _ _ s e2)))) :: (some (int (@Int.tmod p (100 : Int)))) :: (some (int (10 : Int))) :: (nn32 [])), (@Mem.mk 0 0 [])))))) (.leaf ((@Ex.exit 0), ((none :: none :: none :: none :: (some (@AV.lit (@Value.string s))) :: (some (int p)) :: (some (int (100 : Int))) :: (nn32 [])), (@Mem.mk 0 0 [])))))) (by kernel_rfl) ?_
  have e1 : IntKind.i64.wrap ((p : Int).tdiv 100) = ((p / 100 : Nat) : Int) := wdiv p 100 (by omega)
  have e2 : (p : Int).tmod 100 = ((p % 100 : Nat) : Int) := tmodN p 100
  conv => zeta
  rw [e1, e2, Int.toNat_natCast]
  refine fork_ok (fun q => ?_) (fun q => ?_)
  · simp only [Bool.not_eq_true', Bool.not_eq_false', leI_t, leI_f, eqI_t, eqI_f, inR_t, inR_f, isSo_t, isSo_f] at q
    have hl := whL_len 1 (p / 100) (by omega)
    have ef : frL p = whL (p / 100) ++ frR 1 (p % 100) := by rw [whL_one (p / 100) (by omega)]; show (if p = 0 then [] else _) = _; rw [if_neg (by omega)]; rfl
    rw [ef, ← baS]
    exact need_so ⟨rfl, by omega, by omega⟩ (need_t (by rw [leI_t]; show ((s.size + (whL (p / 100)).length : Nat) : Int) ≤ _; omega) (pr10 _ (by rw [ByteArray.size_append]; show s.size + (whL (p / 100)).length ≤ _; omega) _ (by omega) n))
  · simp only [Bool.not_eq_true', Bool.not_eq_false', leI_t, leI_f, eqI_t, eqI_f, inR_t, inR_f, isSo_t, isSo_f] at q
    have h0 : p = 0 := by omega
    subst h0
    have : frL 0 = [] := rfl
    rw [this, baN]
    exact pr_leaf rfl
structure SI where
  s : ByteArray
  p : Int
noncomputable def slotSI (F : Fr) : Option SI := match nth F 4 with
  | some (some (.lit (.string s))) => match nth F 5 with
    | some (some (.lit (.int _ p))) => some ⟨s, p⟩
    | _ => none
  | _ => none
noncomputable abbrev lp_prn : Lp Try.prog where
  f := 57
  key := 11
  S := formS (fun F M => slotSI F) (fun x => prF x.s x.p 100) (fun _ => M0) (fun x => x.s.size ≤ 800 ∧ 0 ≤ x.p ∧ x.p < 1000) (fun x => .leaf (.exit 0, (none :: none :: none :: none :: some (.lit (.string (x.s ++ ⟨⟨frL x.p.toNat⟩⟩))) :: (nn34 [])), M0)) (false :: false :: false :: false :: true :: true :: true :: (ff32 []))
  one := by kernel_rfl
  ok := formS_ok fun x h1 => by
    obtain ⟨s, p⟩ := x
    obtain ⟨h1, h2, h3⟩ := h1
    obtain ⟨p, rfl⟩ := Int.eq_ofNat_of_zero_le h2
    refine ⟨4, ?_⟩
    refine ((pr100 s h1 p (by simp only at h3; omega) 0).out (false :: false :: false :: false :: true :: (ff34 []))).mono fun ex F M hg => ?_
    obtain ⟨F0, ⟨rfl, rfl, p', k', rfl⟩, rfl⟩ := hg
    rfl
end Sy
noncomputable abbrev Sy.cNoPrn : Con Try.prog := atX 57 (fun args => match args with | [.lit (.int .i64 a)] => some a | _ => none) (fun a => [int a]) (fun _ => .lit (.string ⟨⟨[]⟩⟩)) (fun _ => False) fun a h => h.elim
theorem hold_in {n : Int} (h : -1073741824 ≤ n ∧ n ≤ 1073741824) : holdC n = n := by
  unfold holdC
  rw [if_pos (by rw [leI_t]; exact h.2), if_pos (by rw [leI_t]; exact h.1)]
theorem Sy.prn_pos (n : Nat) (h : n ≤ 1073741824) : CallTo Try.prog 57 [int n] M0 fun v _ => v = .lit (.string ⟨⟨numL n⟩⟩) := by
  refine toV [cWho, cHo, cNoPrn] [lp_prn] 400 30 (.yes (.br (.yes (.auto 0 .done)) (.yes (.br .done (.yes .done))))) (let e1 := (int (IntKind.i64.wrap ((0 : Int) - (@holdC n)))); let e2 := (IntKind.i64.wrap (@Int.tdiv (@holdC n) (1000 : Int))); let e3 := (@Int.tmod (@holdC n) (1000 : Int)); let e4 := (@ByteArray.mk (@Array.mk _ (@whL (e2).toNat))); let e5 := (some (@AV.lit (@Value.string (@HAppend.hAppend _ _ _ _ e4 (@ByteArray.mk (@Array.mk _ [(46 : UInt8)])))))); (.need (@isSo (@And ((@HAppend.hAppend _ _ _ _ (@HAppend.hAppend _ _ _ _ [] [(int n)]) []) = [(int n)]) True)) (.fork (!(leI (0 : Int) (@holdC n))) (.need (@isSo (@And ((@HAppend.hAppend _ _ _ _ (@HAppend.hAppend _ _ _ _ [] [e1]) []) = [e1]) False)) (.leaf (@AV.lit (@Value.string (@HAppend.hAppend _ _ _ _ (@ByteArray.mk (@Array.mk _ [(45 : UInt8)])) (@ByteArray.mk (@Array.mk _ []))))))) (.need (@isSo (@And ((@HAppend.hAppend _ _ _ _ (@HAppend.hAppend _ _ _ _ [] [(int e2)]) []) = [(int e2)]) (@And ((0 : Int) ≤ e2) (e2 ≤ (1000000000000 : Int))))) (.fork (eqI e3 (0 : Int)) (.leaf (@AV.lit (@Value.string e4))) (.need (leI ((((@ByteArray.size e4) + 1) : Nat) : Int) (9223372036854775807 : Int)) (.need (@isSo (@And ((none :: (none :: none :: none :: e5 :: (some (int e3)) :: (some (int (100 : Int))) :: (nn32 []))) = (none :: none :: none :: none :: e5 :: (some (int e3)) :: (some (int (100 : Int))) :: (nn32 []))) ((@Mem.mk 0 0 []) = M0))) (.need (@isSo (@And ((@ByteArray.size (@HAppend.hAppend _ _ _ _ e4 (@ByteArray.mk (@Array.mk _ [(46 : UInt8)])))) ≤ 800) (@And ((0 : Int) ≤ e3) (e3 < (1000 : Int))))) (.leaf (@AV.lit (@Value.string (@HAppend.hAppend _ _ _ _ (@HAppend.hAppend _ _ _ _ e4 (@ByteArray.mk (@Array.mk _ [(46 : UInt8)]))) (@ByteArray.mk (@Array.mk _ (@frL (e3).toNat))))))))))))))) (by kernel_rfl) ?_
  have e0 := hold_in (n := n) (by omega)
  have e1 : IntKind.i64.wrap ((n : Int).tdiv 1000) = ((n / 1000 : Nat) : Int) := by
    rw [show (1000 : Int) = ((1000 : Nat) : Int) from rfl, tdivN]
    exact IntWalk.i64_in _ (by omega)
  have e2 : (n : Int).tmod 1000 = ((n % 1000 : Nat) : Int) := tmodN n 1000
  have hl := whL_len 7 (n / 1000) (by omega)
  conv => zeta
  rw [e0, e1, e2, Int.toNat_natCast, Int.toNat_natCast]
  refine need_so ⟨rfl, trivial⟩ (fork_f (by simp only [Bool.not_eq_false', leI_t]; omega) (need_so ⟨rfl, by omega, by omega⟩ (fork_ok (fun q => ?_) (fun q => ?_))))
  · simp only [Bool.not_eq_true', Bool.not_eq_false', leI_t, leI_f, eqI_t, eqI_f, inR_t, inR_f, isSo_t, isSo_f] at q
    show _ = _
    unfold numL
    rw [if_pos (by omega), List.append_nil]
  · simp only [Bool.not_eq_true', Bool.not_eq_false', leI_t, leI_f, eqI_t, eqI_f, inR_t, inR_f, isSo_t, isSo_f] at q
    refine need_t (by rw [leI_t]; show (((whL (n / 1000)).length + 1 : Nat) : Int) ≤ _; omega) (need_so ⟨rfl, rfl⟩ (need_so ⟨?_, by omega, by omega⟩ ?_))
    · rw [ByteArray.size_append]
      show (whL (n / 1000)).length + 1 ≤ 800
      omega
    · show _ = _
      unfold numL
      rw [if_neg (by omega), baC, baC]
      rw [List.append_assoc]
      rfl
noncomputable abbrev Sy.cPrnP : Con Try.prog := atX 57 (fun args => match args with | [.lit (.int .i64 a)] => some a | _ => none) (fun a => [int a]) (fun a => .lit (.string ⟨⟨numL a.toNat⟩⟩)) (fun a => 0 ≤ a ∧ a ≤ 1073741824) fun a h => ⟨⟨⟨trivial, trivial⟩, trivial⟩, by
  have := prn_pos a.toNat (by omega)
  rwa [show ((a.toNat : Nat) : Int) = a by omega] at this⟩
theorem numL_len (n : Nat) (h : n ≤ 1073741824) : (numL n).length ≤ 100 := by
  have hl := whL_len 7 (n / 1000) (by omega)
  unfold numL
  rw [List.length_append]
  split
  · simp only [List.length_nil]; omega
  · rw [List.length_cons]
    have : (frL (n % 1000)).length ≤ 3 := by
      show (frR 2 _).length ≤ 3
      unfold frR
      split
      · simp
      · rw [List.length_cons]
        unfold frR
        split
        · simp
        · rw [List.length_cons]
          unfold frR
          split <;> simp
    omega
theorem Sy.prn_v (n : Int) (h : -1073741824 ≤ n ∧ n ≤ 1073741824) : CallTo Try.prog 57 [int n] M0 fun v _ => v = .lit (.string ⟨⟨numT n⟩⟩) := by
  by_cases hn : n < 0
  · refine toV [cWho, cHo, cPrnP] [lp_prn] 400 30 (.yes (.br (.yes (.yes .done)) (.yes (.br .done (.yes .done))))) (let e1 := (0 : Int); let e2 := (IntKind.i64.wrap (e1 - (@holdC n))); let e3 := (@ByteArray.mk (@Array.mk _ (@numL (e2).toNat))); let e4 := (IntKind.i64.wrap (@Int.tdiv (@holdC n) (1000 : Int))); let e5 := (@Int.tmod (@holdC n) (1000 : Int)); let e6 := (@ByteArray.mk (@Array.mk _ (@whL (e4).toNat))); let e7 := (some (@AV.lit (@Value.string (@HAppend.hAppend _ _ _ _ e6 (@ByteArray.mk (@Array.mk _ [(46 : UInt8)])))))); (.need (@isSo (@And ((@HAppend.hAppend _ _ _ _ (@HAppend.hAppend _ _ _ _ [] [(int n)]) []) = [(int n)]) True)) (.fork (!(leI e1 (@holdC n))) (.need (@isSo (@And ((@HAppend.hAppend _ _ _ _ (@HAppend.hAppend _ _ _ _ [] [(int e2)]) []) = [(int e2)]) (@And (e1 ≤ e2) (e2 ≤ (1073741824 : Int))))) (.need (leI (((1 + (@ByteArray.size e3)) : Nat) : Int) (9223372036854775807 : Int)) (.leaf (@AV.lit (@Value.string (@HAppend.hAppend _ _ _ _ (@ByteArray.mk (@Array.mk _ [(45 : UInt8)])) e3)))))) (.need (@isSo (@And ((@HAppend.hAppend _ _ _ _ (@HAppend.hAppend _ _ _ _ [] [(int e4)]) []) = [(int e4)]) (@And (e1 ≤ e4) (e4 ≤ (1000000000000 : Int))))) (.fork (eqI e5 e1) (.leaf (@AV.lit (@Value.string e6))) (.need (leI ((((@ByteArray.size e6) + 1) : Nat) : Int) (9223372036854775807 : Int)) (.need (@isSo (@And ((none :: (none :: none :: none :: e7 :: (some (int e5)) :: (some (int (100 : Int))) :: (nn32 []))) = (none :: none :: none :: none :: e7 :: (some (int e5)) :: (some (int (100 : Int))) :: (nn32 []))) ((@Mem.mk 0 0 []) = M0))) (.need (@isSo (@And ((@ByteArray.size (@HAppend.hAppend _ _ _ _ e6 (@ByteArray.mk (@Array.mk _ [(46 : UInt8)])))) ≤ 800) (@And (e1 ≤ e5) (e5 < (1000 : Int))))) (.leaf (@AV.lit (@Value.string (@HAppend.hAppend _ _ _ _ (@HAppend.hAppend _ _ _ _ e6 (@ByteArray.mk (@Array.mk _ [(46 : UInt8)]))) (@ByteArray.mk (@Array.mk _ (@frL (e5).toNat))))))))))))))) (by kernel_rfl) ?_
    have e0 := hold_in h
    have e1 : IntKind.i64.wrap (0 - n) = ((n.natAbs : Nat) : Int) := by rw [IntWalk.i64_in _ (by omega)]; omega
    have hl := numL_len n.natAbs (by omega)
    conv => zeta
    rw [e0, e1, Int.toNat_natCast]
    refine need_so ⟨rfl, trivial⟩ (fork_t (by simp only [Bool.not_eq_true', leI_f]; omega) (need_so ⟨rfl, by omega, by omega⟩ (need_t (by rw [leI_t]; show ((1 + (numL n.natAbs).length : Nat) : Int) ≤ _; omega) ?_)))
    show _ = _
    unfold numT
    rw [if_pos hn, baC]
    rfl
  · obtain ⟨k, rfl⟩ := Int.eq_ofNat_of_zero_le (show 0 ≤ n by omega)
    have := prn_pos k (by omega)
    unfold numT
    rw [if_neg hn, Int.natAbs_natCast]
    exact this
noncomputable abbrev Sy.cPrn : Con Try.prog := atX 57 (fun args => match args with | [.lit (.int .i64 a)] => some a | _ => none) (fun a => [int a]) (fun a => .lit (.string ⟨⟨numT a⟩⟩)) (fun a => -1073741824 ≤ a ∧ a ≤ 1073741824) fun a h => ⟨⟨⟨trivial, trivial⟩, trivial⟩, prn_v a h⟩
end Go.Proofs.Ytlmanlpgknhfpaa
namespace Go.Proofs.Ytlmanlpgknhfpaa
open Go Go.RowKit Pl Sy
theorem dg_dig {n : Nat} (h : n < 10) : digB (dgU n).toNat = true := by
  rw [dg_nat h]
  unfold digB
  rw [Bool.and_eq_true, leI_t, leI_t]
  omega
theorem whL_dig : ∀ (f n : Nat), n ≤ f → ∀ x ∈ whL n, digB x.toNat = true
  | 0, n, h, x, hx => by
    rw [whL_one n (by omega)] at hx
    simp only [List.mem_cons, List.not_mem_nil, or_false] at hx
    subst hx
    exact dg_dig (by omega)
  | f + 1, n, h, x, hx => by
    by_cases hn : n < 10
    · rw [whL_one n hn] at hx
      simp only [List.mem_cons, List.not_mem_nil, or_false] at hx
      subst hx
      exact dg_dig hn
    · rw [whL_more n hn] at hx
      rcases List.mem_append.mp hx with hx | hx
      · exact whL_dig f (n / 10) (by omega) x hx
      · simp only [List.mem_cons, List.not_mem_nil, or_false] at hx
        subst hx
        exact dg_dig (by omega)
theorem whL_pos (n : Nat) : 0 < (whL n).length := by
  by_cases hn : n < 10
  · rw [whL_one n hn]; simp
  · rw [whL_more n hn]; simp
theorem frL_cases {p : Nat} (h0 : p ≠ 0) (h1 : p < 1000) : (∃ a, a < 10 ∧ p = a * 100 ∧ frL p = [dgU a]) ∨ (∃ a b, a < 10 ∧ b < 10 ∧ p = a * 100 + b * 10 ∧ frL p = [dgU a, dgU b]) ∨ (∃ a b c, a < 10 ∧ b < 10 ∧ c < 10 ∧ p = a * 100 + b * 10 + c ∧ frL p = [dgU a, dgU b, dgU c]) := by
  have e : frL p = dgU (p / 100) :: frR 1 (p % 100) := by
    show (if p = 0 then [] else _) = _
    rw [if_neg h0]
  by_cases h2 : p % 100 = 0
  · refine .inl ⟨p / 100, by omega, by omega, ?_⟩
    rw [e, h2, frR_nil]
  · have e2 : frR 1 (p % 100) = dgU (p % 100 / 10) :: frR 0 (p % 100 % 10) := by
      show (if p % 100 = 0 then [] else _) = _
      rw [if_neg h2]
    by_cases h3 : p % 100 % 10 = 0
    · refine .inr (.inl ⟨p / 100, p % 100 / 10, by omega, by omega, by omega, ?_⟩)
      rw [e, e2, h3, frR_nil]
    · refine .inr (.inr ⟨p / 100, p % 100 / 10, p % 100 % 10, by omega, by omega, by omega, by omega, ?_⟩)
      rw [e, e2]
      show _ :: _ :: (if p % 100 % 10 = 0 then [] else _) = _
      rw [if_neg h3]
theorem frL_dig {p : Nat} (h0 : p ≠ 0) (h1 : p < 1000) : 0 < (frL p).length ∧ ∀ x ∈ frL p, digB x.toNat = true := by
  rcases frL_cases h0 h1 with ⟨a, q1, _, q⟩ | ⟨a, b, q1, q2, _, q⟩ | ⟨a, b, c, q1, q2, q3, _, q⟩
  all_goals
    rw [q]
    refine ⟨by simp, fun x hx => ?_⟩
    simp only [List.mem_cons, List.not_mem_nil, or_false] at hx
  · subst hx; exact dg_dig q1
  · rcases hx with rfl | rfl
    · exact dg_dig q1
    · exact dg_dig q2
  · rcases hx with rfl | rfl | rfl
    · exact dg_dig q1
    · exact dg_dig q2
    · exact dg_dig q3
def NoNum (Q : List UInt8) : Prop := ∀ q ∈ Q.head?, digB q.toNat = false ∧ (q.toNat : Int) ≠ 46
theorem numB_at (P Q : List UInt8) (n : Nat) (hQ : NoNum Q) (a : Int) : numB (BA (P ++ (numL n ++ Q))) P.length a = P.length + (numL n).length - a := by
  have hw := whL_dig (n / 1000) (n / 1000) (Nat.le_refl _)
  have hp := whL_pos (n / 1000)
  unfold numL
  generalize whL (n / 1000) = W at *
  by_cases hf : n % 1000 = 0
  · rw [if_pos hf, List.append_nil]
    have e1 := span_at digB W P Q hw (fun q hq => (hQ q hq).1)
    have hsz : (BA (P ++ (W ++ Q))).size = P.length + (W.length + Q.length) := by rw [ba_size, List.length_append, List.length_append]
    unfold numB
    rw [e1, if_neg, if_neg (by rw [eqI_t]; omega)]
    intro hh
    simp only [Bool.and_eq_true, Bool.not_eq_true', leI_f, eqI_t] at hh
    obtain ⟨h1, h2, h3⟩ := hh
    cases Q with
    | nil => rw [hsz] at h1; simp at h1
    | cons q Q =>
      have h4 := by_at (P ++ W) q Q
      rw [List.append_assoc, List.length_append] at h4
      rw [show ((P.length : Int) + (W.length : Int)).toNat = P.length + W.length by omega, h4] at h2
      exact (hQ q rfl).2 h2
  · rw [if_neg hf]
    obtain ⟨f1, f2⟩ := frL_dig hf (by omega)
    generalize frL (n % 1000) = F at *
    have e0 : P ++ (W ++ 46 :: F ++ Q) = P ++ (W ++ (46 :: (F ++ Q))) := by simp
    have e1 := span_at digB W P (46 :: (F ++ Q)) hw (fun q hq => by simp at hq; subst hq; decide)
    have e2 := by_at (P ++ W) 46 (F ++ Q)
    have e3 := span_at digB F (P ++ W ++ [46]) Q f2 (fun q hq => (hQ q hq).1)
    rw [List.append_assoc, List.length_append] at e2
    have e4 : P ++ W ++ [46] ++ (F ++ Q) = P ++ (W ++ (46 :: (F ++ Q))) := by simp
    have e5 : (P ++ W ++ [46]).length = P.length + W.length + 1 := by simp only [List.length_append, List.length_cons, List.length_nil]
    rw [e4, e5] at e3
    have hsz : (BA (P ++ (W ++ (46 :: (F ++ Q))))).size = P.length + (W.length + (F.length + Q.length + 1)) := by rw [ba_size, List.length_append, List.length_append, List.length_cons, List.length_append]
    rw [e0]
    unfold numB
    rw [e1, show (P.length : Int) + (W.length : Int) = ((P.length + W.length : Nat) : Int) by omega, Int.toNat_natCast, e2, show ((P.length + W.length : Nat) : Int) + 1 = ((P.length + W.length + 1 : Nat) : Int) by omega, e3, if_pos (by
      simp only [Bool.and_eq_true, Bool.not_eq_true', leI_f, eqI_t]
      refine ⟨by omega, rfl, by omega⟩)]
    rw [List.length_append, List.length_cons]
    omega
theorem numL_first (n : Nat) : ∃ c X, numL n = c :: X ∧ digB c.toNat = true := by
  have hw := whL_dig (n / 1000) (n / 1000) (Nat.le_refl _)
  have hp := whL_pos (n / 1000)
  unfold numL
  generalize whL (n / 1000) = W at *
  cases W with
  | nil => simp at hp
  | cons c W => exact ⟨c, _, rfl, hw c List.mem_cons_self⟩
theorem num_at (P Q : List UInt8) (n : Int) (hQ : NoNum Q) : numI (BA (P ++ (numT n ++ Q))) P.length = (numT n).length := by
  unfold numT
  by_cases hn : n < 0
  · rw [if_pos hn]
    have e1 := numB_at (P ++ [45]) Q n.natAbs hQ P.length
    have e2 : P ++ [45] ++ (numL n.natAbs ++ Q) = P ++ (45 :: numL n.natAbs ++ Q) := by simp
    rw [e2, List.length_append] at e1
    unfold numI
    have e3 := by_at P 45 (numL n.natAbs ++ Q)
    rw [show P ++ 45 :: (numL n.natAbs ++ Q) = P ++ (45 :: numL n.natAbs ++ Q) by simp] at e3
    have hsz : (BA (P ++ (45 :: numL n.natAbs ++ Q))).size = P.length + ((numL n.natAbs).length + 1 + Q.length) := by rw [ba_size, List.length_append, List.length_append, List.length_cons]
    rw [Int.toNat_natCast, e3, if_pos (by
      simp only [Bool.and_eq_true, Bool.or_eq_true, Bool.not_eq_true', leI_f, eqI_t]
      exact ⟨by omega, .inr rfl⟩)]
    rw [show ((P.length : Nat) : Int) + 1 = ((P.length + [(45 : UInt8)].length : Nat) : Int) by simp, e1]
    simp only [List.length_cons, List.length_nil]
    omega
  · rw [if_neg hn]
    have e1 := numB_at P Q n.natAbs hQ P.length
    obtain ⟨c, X, hc, hd⟩ := numL_first n.natAbs
    have e3 := by_at P c (X ++ Q)
    unfold numI
    rw [if_neg, e1]
    · omega
    · rw [hc, Int.toNat_natCast]
      show ¬ (_ && (eqI (byteAt (BA (P ++ c :: (X ++ Q))) P.length) 43 || _)) = true
      rw [show P ++ (c :: X ++ Q) = P ++ c :: (X ++ Q) by simp, e3]
      unfold digB at hd
      rw [Bool.and_eq_true, leI_t, leI_t] at hd
      simp only [Bool.and_eq_true, Bool.or_eq_true, eqI_t]
      omega
theorem wGo_at : ∀ (X P : List UInt8) (v l : Int), wGo (BA (P ++ X)) X.length P.length v l = X.foldl (fun x c => (wV c.toNat x.1 x.2, wL c.toNat x.1 x.2)) (v, l)
  | [], P, v, l => rfl
  | c :: X, P, v, l => by
    have e1 := by_at P c X
    have e2 := wGo_at X (P ++ [c]) (wV c.toNat v l) (wL c.toNat v l)
    rw [show P ++ [c] ++ X = P ++ c :: X by simp, List.length_append] at e2
    show wGo _ (X.length + 1) _ _ _ = _
    unfold wGo
    rw [Int.toNat_natCast, e1]
    exact e2
theorem dig_worth {d : Nat} (h : d < 10) : digD (dgU d).toNat = d := by
  rw [dg_nat h]
  unfold digD
  rw [Bool.false_and, if_neg (by decide), IntWalk.i64_in _ (by omega)]
  omega
theorem st_dig {d : Nat} (h : d < 10) (v : Nat) (hv : v * 10 + d ≤ 1000000000000000) (l : Int) (hl : l ≠ 0) : wV (dgU d).toNat v l = ((v * 10 + d : Nat) : Int) ∧ wL (dgU d).toNat v l = if l ≤ 0 then l else w64 (l - 1) := by
  have hn := dg_nat h
  have e1 : eqI ((dgU d).toNat : Int) 46 = false := by rw [eqI_f, hn]; omega
  have e2 : (leI 48 ((dgU d).toNat : Int) && leI ((dgU d).toNat : Int) 57) = true := by rw [Bool.and_eq_true, leI_t, leI_t, hn]; omega
  have e3 : eqI l 0 = false := by rw [eqI_f]; exact hl
  unfold wV wL
  rw [if_neg (by rw [e1]; decide), if_pos e2, if_neg (by rw [e3]; decide), if_neg (by rw [e1]; decide), if_pos e2, if_neg (by rw [e3]; decide)]
  constructor
  · have e4 : capB (dgU d).toNat v = ((v * 10 + d : Nat) : Int) := by
      unfold capB
      rw [dig_worth h, w64_in (r := (v : Int) * 10) (by omega), w64_in (by omega)]
      omega
    unfold capV
    rw [e4, if_pos (by rw [leI_t]; omega)]
  · by_cases q : l ≤ 0
    · rw [if_pos q, if_pos (by rw [leI_t]; exact q)]
    · rw [if_neg q, if_neg (by rw [Bool.not_eq_true, leI_f]; exact q)]
theorem fold_whole : ∀ (f n : Nat), n ≤ f → n ≤ 1000000000000 → (whL n).foldl (fun x c => (wV c.toNat x.1 x.2, wL c.toNat x.1 x.2)) ((0 : Int), (-1 : Int)) = ((n : Int), -1)
  | f, n, h, hb => by
    by_cases hn : n < 10
    · rw [whL_one n hn]
      have := st_dig hn 0 (by omega) (-1) (by decide)
      show (wV (dgU n).toNat 0 (-1), wL (dgU n).toNat 0 (-1)) = _
      have e : ((0 : Nat) : Int) = 0 := rfl
      rw [e] at this
      rw [this.1, this.2]
      simp
    · cases f with
      | zero => omega
      | succ f =>
        rw [whL_more n hn, List.foldl_append, fold_whole f (n / 10) (by omega) (by omega)]
        have := st_dig (d := n % 10) (by omega) (n / 10) (by omega) (-1) (by decide)
        show (wV (dgU (n % 10)).toNat ((n / 10 : Nat) : Int) (-1), wL (dgU (n % 10)).toNat ((n / 10 : Nat) : Int) (-1)) = _
        rw [this.1, this.2]
        have e : n / 10 * 10 + n % 10 = n := by omega
        rw [e]
        rfl
theorem st_dot (v l : Int) : wV (46 : UInt8).toNat v l = v ∧ wL (46 : UInt8).toNat v l = 3 := ⟨rfl, rfl⟩
theorem ten3 (v : Nat) (h : v ≤ 2000000000) : tenI v 3 = ((v * 1000 : Nat) : Int) ∧ tenI v 2 = ((v * 100 : Nat) : Int) ∧ tenI v 1 = ((v * 10 : Nat) : Int) ∧ tenI v 0 = v := by
  have e1 : w64 ((v : Int) * 10) = ((v * 10 : Nat) : Int) := by rw [w64_in (by omega)]; omega
  have e2 : w64 (((v * 10 : Nat) : Int) * 10) = ((v * 100 : Nat) : Int) := by rw [w64_in (by omega)]; omega
  have e3 : w64 (((v * 100 : Nat) : Int) * 10) = ((v * 1000 : Nat) : Int) := by rw [w64_in (by omega)]; omega
  refine ⟨?_, ?_, ?_, rfl⟩
  · show w64 (w64 (w64 ((v : Int) * 10) * 10) * 10) = _
    rw [e1, e2, e3]
  · show w64 (w64 ((v : Int) * 10) * 10) = _
    rw [e1, e2]
  · exact e1
theorem fold_numL (n : Nat) (h : n ≤ 1073741824) : ∃ (v : Nat) (l : Int), (numL n).foldl (fun x c => (wV c.toNat x.1 x.2, wL c.toNat x.1 x.2)) ((0 : Int), (-1 : Int)) = ((v : Int), l) ∧ tenI v (if leI 0 l = true then l else 3) = n := by
  have hw := fold_whole (n / 1000) (n / 1000) (Nat.le_refl _) (by omega)
  unfold numL
  rw [List.foldl_append, hw]
  by_cases hf : n % 1000 = 0
  · rw [if_pos hf]
    refine ⟨n / 1000, -1, rfl, ?_⟩
    rw [if_neg (by decide), (ten3 _ (by omega)).1]
    omega
  · rw [if_neg hf, List.foldl_cons, (st_dot _ _).1, (st_dot _ _).2]
    have w1 : (if (3 : Int) ≤ 0 then (3 : Int) else w64 (3 - 1)) = 2 := by decide
    have w2 : (if (2 : Int) ≤ 0 then (2 : Int) else w64 (2 - 1)) = 1 := by decide
    have w3 : (if (1 : Int) ≤ 0 then (1 : Int) else w64 (1 - 1)) = 0 := by decide
    rcases frL_cases hf (by omega) with ⟨a, q1, hp, q⟩ | ⟨a, b, q1, q2, hp, q⟩ | ⟨a, b, c, q1, q2, q3, hp, q⟩
    · rw [q]
      have s1 := st_dig q1 (n / 1000) (by omega) 3 (by decide)
      rw [w1] at s1
      refine ⟨n / 1000 * 10 + a, 2, ?_, ?_⟩
      · show (wV (dgU a).toNat _ 3, wL (dgU a).toNat _ 3) = _
        rw [s1.1, s1.2]
      · rw [if_pos (by decide), (ten3 _ (by omega)).2.1]
        omega
    · rw [q]
      have s1 := st_dig q1 (n / 1000) (by omega) 3 (by decide)
      rw [w1] at s1
      have s2 := st_dig q2 (n / 1000 * 10 + a) (by omega) 2 (by decide)
      rw [w2] at s2
      refine ⟨(n / 1000 * 10 + a) * 10 + b, 1, ?_, ?_⟩
      · rw [List.foldl_cons, s1.1, s1.2, List.foldl_cons, s2.1, s2.2]
        rfl
      · rw [if_pos (by decide), (ten3 _ (by omega)).2.2.1]
        omega
    · rw [q]
      have s1 := st_dig q1 (n / 1000) (by omega) 3 (by decide)
      rw [w1] at s1
      have s2 := st_dig q2 (n / 1000 * 10 + a) (by omega) 2 (by decide)
      rw [w2] at s2
      have s3 := st_dig q3 ((n / 1000 * 10 + a) * 10 + b) (by omega) 1 (by decide)
      rw [w3] at s3
      refine ⟨((n / 1000 * 10 + a) * 10 + b) * 10 + c, 0, ?_, ?_⟩
      · rw [List.foldl_cons, s1.1, s1.2, List.foldl_cons, s2.1, s2.2, List.foldl_cons, s3.1, s3.2]
        rfl
      · rw [if_pos (by decide), (ten3 _ (by omega)).2.2.2]
        omega
theorem worth_of {L : List UInt8} {v : Nat} {l : Int} (h : L.foldl (fun x c => (wV c.toNat x.1 x.2, wL c.toNat x.1 x.2)) ((0 : Int), (-1 : Int)) = ((v : Int), l)) : worV (BA L) = v ∧ worL (BA L) = l := by
  have := wGo_at L [] 0 (-1)
  rw [List.nil_append] at this
  have e : wGo (BA L) (BA L).size 0 0 (-1) = ((v : Int), l) := this.trans h
  unfold worV worL
  rw [e]
  exact ⟨rfl, rfl⟩
theorem worth_num (n : Int) (h : -1073741824 ≤ n ∧ n ≤ 1073741824) : worthI (BA (numT n)) = n := by
  obtain ⟨v, l, e1, e2⟩ := fold_numL n.natAbs (by omega)
  unfold numT
  by_cases hn : n < 0
  · rw [if_pos hn]
    have e3 : (45 :: numL n.natAbs).foldl (fun x c => (wV c.toNat x.1 x.2, wL c.toNat x.1 x.2)) ((0 : Int), (-1 : Int)) = ((v : Int), l) := by
      rw [List.foldl_cons]
      exact e1
    obtain ⟨w1, w2⟩ := worth_of e3
    have e4 := by_at [] 45 (numL n.natAbs)
    rw [List.nil_append] at e4
    unfold worthI worthT
    rw [if_pos (by rw [eqI_t]; exact e4), w1, w2, e2, IntWalk.i64_in _ (by omega), hold_in (by omega)]
    omega
  · rw [if_neg hn]
    obtain ⟨w1, w2⟩ := worth_of e1
    obtain ⟨c, X, hc, hd⟩ := numL_first n.natAbs
    have e4 := by_at [] c X
    rw [List.nil_append, ← hc] at e4
    unfold worthI worthT
    rw [if_neg, w1, w2, e2, hold_in (by omega)]
    · omega
    · rw [eqI_t]
      have e5 : byteAt (BA (numL n.natAbs)) 0 = c.toNat := e4
      rw [e5]
      unfold digB at hd
      rw [Bool.and_eq_true, leI_t, leI_t] at hd
      omega
end Go.Proofs.Ytlmanlpgknhfpaa
namespace Go.Proofs.Ytlmanlpgknhfpaa
open Go Go.RowKit Pl Sy
def txtL (t : TokV) : List UInt8 := if t.kind = 7 then numT t.n else if t.kind = 9 then numT t.n ++ t.text.data.toList else if t.kind = 10 then [58] else if t.kind = 13 then [40] else if t.kind = 14 then [41] else if t.kind = 20 then [32] else t.text.data.toList
inductive GoodT : TokV → Prop
  | id (x : ByteArray) : nameL x.data.toList = true → GoodT ⟨1, x, 0⟩
  | sg (k : Int) (c : UInt8) : (k = 10 ∧ c = 58) ∨ (k = 13 ∧ c = 40) ∨ (k = 14 ∧ c = 41) → GoodT ⟨k, ⟨⟨[]⟩⟩, 0⟩
  | sp : GoodT ⟨20, ⟨⟨[]⟩⟩, 0⟩
  | dl (c : UInt8) : c = 60 ∨ c = 61 ∨ c = 62 ∨ c = 47 → GoodT ⟨19, ⟨⟨[c]⟩⟩, 0⟩
  | num (n : Int) : -1073741824 ≤ n ∧ n ≤ 1073741824 → GoodT ⟨7, ⟨⟨[]⟩⟩, n⟩
  | dim (n : Int) : -1073741824 ≤ n ∧ n ≤ 1073741824 → GoodT ⟨9, ⟨⟨[112, 120]⟩⟩, n⟩
def FolT (t : TokV) (f : Int) : Prop := (t.kind = 1 → goesB f = false ∧ f ≠ 40) ∧ (t.kind = 20 → blankB f = false) ∧ (t.kind = 19 → f ≠ 42) ∧ (t.kind = 7 → goesB f = false ∧ f ≠ 46 ∧ f ≠ 37) ∧ (t.kind = 9 → goesB f = false)
def FolQ (t : TokV) (Q : List UInt8) : Prop := ∀ q ∈ Q.head?, FolT t q.toNat
theorem toNat_P (P : List UInt8) : ((P.length : Nat) : Int).toNat = P.length := by omega
theorem dig_no (P : List UInt8) (c : UInt8) (Q : List UInt8) (h : digB c.toNat = false) : spnI digB (BA (P ++ c :: Q)) P.length = 0 := by
  have := span_at digB [] P (c :: Q) (fun x hx => by cases hx) (fun q hq => by simp at hq; subst hq; exact h)
  rw [List.nil_append] at this
  exact this
theorem dig_end (P Q : List UInt8) (h : ∀ q ∈ Q.head?, digB q.toNat = false) : spnI digB (BA (P ++ Q)) P.length = 0 := by
  have := span_at digB [] P Q (fun x hx => by cases hx) h
  rw [List.nil_append] at this
  exact this
theorem num_no (P : List UInt8) (c : UInt8) (R : List UInt8) (h1 : digB c.toNat = false) (h2 : c = 46 → ∀ q ∈ R.head?, digB q.toNat = false) (h3 : c = 43 ∨ c = 45 → ∀ q ∈ R.head?, digB q.toNat = false ∧ (q.toNat : Int) ≠ 46) :
    numI (BA (P ++ c :: R)) P.length = 0 := by
  have eP : P ++ c :: R = (P ++ [c]) ++ R := by simp
  have lP : ((P.length : Nat) : Int) + 1 = ((P ++ [c]).length : Nat) := by simp
  have hsz : (BA (P ++ c :: R)).size = P.length + R.length + 1 := by rw [ba_size]; simp; omega
  have d0 := dig_no P c R h1
  have cn : ∀ n : Nat, n < 256 → ((c.toNat : Int) = n) → c = UInt8.ofNat n := fun n hn h => by
    have : c.toNat = n := by omega
    rw [← this, UInt8.ofNat_toNat]
  unfold numI
  rw [toNat_P, by_at]
  by_cases hs : eqI c.toNat 43 = true ∨ eqI c.toNat 45 = true
  · have hc : c = 43 ∨ c = 45 := by
      rcases hs with h | h
      · rw [eqI_t] at h; exact .inl (cn 43 (by decide) h)
      · rw [eqI_t] at h; exact .inr (cn 45 (by decide) h)
    rw [if_pos (by
      rw [Bool.and_eq_true, Bool.or_eq_true, Bool.not_eq_true', leI_f]
      exact ⟨by omega, hs⟩)]
    have d1 : spnI digB (BA (P ++ c :: R)) (P.length + 1 : Int) = 0 := by
      rw [lP, eP]
      exact dig_end _ _ fun q hq => (h3 hc q hq).1
    unfold numB
    rw [d1, if_neg, if_pos (by decide)]
    rw [Int.add_zero]
    intro hh
    simp only [Bool.and_eq_true, Bool.not_eq_true', leI_f, eqI_t] at hh
    obtain ⟨q1, q2, _⟩ := hh
    cases R with
    | nil => simp only [List.length_nil] at hsz; omega
    | cons r R =>
      have := (h3 hc r rfl).2
      rw [lP, eP, show (((P ++ [c]).length : Nat) : Int).toNat = (P ++ [c]).length by omega, by_at] at q2
      exact this q2
  · rw [if_neg (by
      rw [Bool.and_eq_true, Bool.or_eq_true]
      exact fun x => hs x.2)]
    unfold numB
    rw [d0, if_neg, if_pos (by decide)]
    intro hh
    rw [Int.add_zero, toNat_P, by_at] at hh
    simp only [Bool.and_eq_true, Bool.not_eq_true', leI_f, eqI_t] at hh
    obtain ⟨q1, q2, q3⟩ := hh
    have hc : c = 46 := cn 46 (by decide) q2
    have d1 : spnI digB (BA (P ++ c :: R)) (P.length + 1 : Int) = 0 := by
      rw [lP, eP]
      exact dig_end _ _ fun q hq => h2 hc q hq
    rw [d1] at q3
    omega
theorem one_hash (P : List UInt8) (c : UInt8) (R : List UInt8) (hc : c ≠ 47) (hb : blankB c.toNat = false) (hq : (c.toNat : Int) ≠ 34 ∧ (c.toNat : Int) ≠ 39) (hn : numI (BA (P ++ c :: R)) P.length = 0) :
    oneT (BA (P ++ c :: R)) P.length = hashT (BA (P ++ c :: R)) P.length := by
  unfold oneT
  rw [if_neg, if_neg, if_neg, if_neg]
  · rw [hn]; decide
  · rw [toNat_P, by_at, Bool.or_eq_true, eqI_t, eqI_t]; omega
  · rw [toNat_P, by_at, hb]; simp
  · intro hh
    have := has_first (x := 47) (t := [42]) (by omega) hh
    rw [toNat_P, by_at] at this
    apply hc
    have e47 : ((47 : UInt8).toNat : Int) = 47 := rfl
    have h2 : c.toNat = 47 := by omega
    rw [← UInt8.ofNat_toNat (x := c), h2]; rfl
theorem hash_at (P : List UInt8) (c : UInt8) (R : List UInt8) (hc : (c.toNat : Int) ≠ 35) (h64 : (c.toNat : Int) ≠ 64) : hashT (BA (P ++ c :: R)) P.length = nameT (BA (P ++ c :: R)) P.length := by
  unfold hashT
  rw [if_neg]
  · unfold atT
    rw [if_neg]
    rw [toNat_P, by_at, Bool.and_eq_true, eqI_t]
    exact fun x => h64 x.1
  · rw [toNat_P, by_at, Bool.and_eq_true, eqI_t]
    exact fun x => hc x.1
end Go.Proofs.Ytlmanlpgknhfpaa
namespace Go.Proofs.Ytlmanlpgknhfpaa
open Go Go.RowKit Pl Sy
theorem digB_f (v : Int) : digB v = false ↔ v < 48 ∨ 57 < v := by
  unfold digB
  rw [Bool.and_eq_false_iff, leI_f, leI_f]; omega
theorem blankB_f (v : Int) : blankB v = false ↔ v ≠ 32 ∧ v ≠ 9 ∧ v ≠ 10 ∧ v ≠ 12 ∧ v ≠ 13 := by
  unfold blankB
  simp only [Bool.or_eq_false_iff, eqI_f]
theorem begB_t {v : Int} (h : begB v = true) : (97 ≤ v ∧ v ≤ 122) ∨ (65 ≤ v ∧ v ≤ 90) ∨ v = 95 ∨ 128 ≤ v := by
  unfold begB at h
  simp only [Bool.or_eq_true, Bool.and_eq_true, decide_eq_true_eq] at h
  omega
theorem begB_f {v : Int} (h : ¬ ((97 ≤ v ∧ v ≤ 122) ∨ (65 ≤ v ∧ v ≤ 90) ∨ v = 95 ∨ 128 ≤ v)) : begB v = false := by
  cases hb : begB v with
  | false => rfl
  | true => exact absurd (begB_t hb) h
theorem goesB_f {v : Int} (h : ¬ ((97 ≤ v ∧ v ≤ 122) ∨ (65 ≤ v ∧ v ≤ 90) ∨ v = 95 ∨ 128 ≤ v)) (h2 : ¬ (48 ≤ v ∧ v ≤ 57)) (h3 : v ≠ 45) : goesB v = false := by
  unfold goesB
  rw [begB_f h]
  simp only [Bool.false_or, Bool.or_eq_false_iff, Bool.and_eq_false_iff, decide_eq_false_iff_not]
  omega
theorem name_first {L : List UInt8} (h : nameL L = true) : ∃ c X, L = c :: X ∧ (∀ x ∈ L, goesB x.toNat = true) ∧ (begB c.toNat = true ∨ ((c.toNat : Int) = 45 ∧ ∃ d Y, X = d :: Y ∧ (begB d.toNat = true ∨ (d.toNat : Int) = 45))) := by
  unfold nameL at h
  simp only [Bool.and_eq_true, decide_eq_true_eq] at h
  obtain ⟨⟨h1, h2⟩, _⟩ := h
  have h3 : ∀ x ∈ L, goesB x.toNat = true := List.all_eq_true.1 h2
  match L, h1, h3 with
  | [c], h1, h3 =>
    simp only [startsL, Bool.and_eq_true] at h1
    exact ⟨c, [], rfl, h3, .inl h1.2⟩
  | c :: d :: Y, h1, h3 =>
    refine ⟨c, d :: Y, rfl, h3, ?_⟩
    simp only [startsL] at h1
    split at h1
    · rename_i e
      rw [Bool.or_eq_true, decide_eq_true_eq] at h1
      exact .inr ⟨e, d, Y, rfl, h1⟩
    · exact .inl h1
theorem starts_at (P : List UInt8) (c : UInt8) (X Q : List UInt8) (h : begB c.toNat = true ∨ ((c.toNat : Int) = 45 ∧ ∃ d Y, X = d :: Y ∧ (begB d.toNat = true ∨ (d.toNat : Int) = 45))) : startsI (BA (P ++ (c :: X ++ Q))) P.length = true := by
  have hsz : (BA (P ++ (c :: X ++ Q))).size = P.length + X.length + Q.length + 1 := by rw [ba_size]; simp; omega
  unfold startsI
  rw [toNat_P, List.cons_append, by_at, Bool.and_eq_true, Bool.not_eq_true', leI_f]
  rw [List.cons_append] at hsz
  refine ⟨by omega, ?_⟩
  rcases h with h | ⟨h, d, Y, rfl, hd⟩
  · have := begB_t h
    rw [if_neg (by rw [eqI_t]; omega)]
    exact h
  · rw [if_pos (by rw [eqI_t]; exact h), Bool.and_eq_true, Bool.not_eq_true', leI_f]
    simp only [List.length_cons] at hsz
    have e : byteAt (BA (P ++ c :: (d :: Y ++ Q))) (((P.length : Nat) : Int) + 1).toNat = d.toNat := by
      have := by_at (P ++ [c]) d (Y ++ Q)
      rw [show P ++ [c] ++ d :: (Y ++ Q) = P ++ c :: (d :: Y ++ Q) by simp] at this
      rw [show (((P.length : Nat) : Int) + 1).toNat = (P ++ [c]).length by simp]
      exact this
    rw [e]
    refine ⟨by omega, ?_⟩
    rw [Bool.or_eq_true, eqI_t]
    exact hd
theorem starts_no (P : List UInt8) (c : UInt8) (R : List UInt8) (h : begB c.toNat = false) (h2 : (c.toNat : Int) ≠ 45) : startsI (BA (P ++ c :: R)) P.length = false := by
  unfold startsI
  rw [toNat_P, by_at, if_neg (by rw [eqI_t]; exact h2), h, Bool.and_false]
theorem tok_id (P : List UInt8) (x : ByteArray) (hx : nameL x.data.toList = true) (Q : List UInt8) (hQ : ∀ q ∈ Q.head?, goesB q.toNat = false ∧ (q.toNat : Int) ≠ 40) :
    oneT (BA (P ++ (x.data.toList ++ Q))) P.length = (⟨1, x, 0⟩, ((P.length + x.data.toList.length : Nat) : Int)) := by
  obtain ⟨c, X, hL, hg, hc⟩ := name_first hx
  have hst : startsI (BA (P ++ (x.data.toList ++ Q))) P.length = true := by rw [hL]; exact starts_at P c X Q hc
  have hsp := span_at goesB x.data.toList P Q hg (fun q hq => (hQ q hq).1)
  have hv : ((97 ≤ (c.toNat : Int) ∧ (c.toNat : Int) ≤ 122) ∨ (65 ≤ (c.toNat : Int) ∧ (c.toNat : Int) ≤ 90) ∨ (c.toNat : Int) = 95 ∨ 128 ≤ (c.toNat : Int)) ∨ (c.toNat : Int) = 45 := by
    rcases hc with h | ⟨h, _⟩
    · exact .inl (begB_t h)
    · exact .inr h
  have e0 : P ++ (x.data.toList ++ Q) = P ++ c :: (X ++ Q) := by rw [hL]; rfl
  have hnum : numI (BA (P ++ c :: (X ++ Q))) P.length = 0 := by
    refine num_no P c (X ++ Q) (by rw [digB_f]; omega) (fun e => ?_) (fun e => ?_)
    · exfalso; subst e
      have : ((46 : UInt8).toNat : Int) = 46 := rfl
      omega
    · rcases hc with h | ⟨h, d, Y, rfl, hd⟩
      · have := begB_t h
        exfalso
        rcases e with rfl | rfl
        · have : ((43 : UInt8).toNat : Int) = 43 := rfl
          omega
        · have : ((45 : UInt8).toNat : Int) = 45 := rfl
          omega
      · intro q hq
        simp at hq; subst hq
        rcases hd with hd | hd
        · have := begB_t hd
          exact ⟨by rw [digB_f]; omega, by omega⟩
        · exact ⟨by rw [digB_f]; omega, by omega⟩
  rw [e0] at hst hsp ⊢
  rw [one_hash P c (X ++ Q) (fun e => by subst e; have : ((47 : UInt8).toNat : Int) = 47 := rfl; omega) (by rw [blankB_f]; omega) (by omega) hnum, hash_at P c (X ++ Q) (by omega) (by omega)]
  unfold nameT
  rw [if_pos hst, hsp, if_neg, ← e0]
  · rw [toNat_P, show (((P.length : Nat) : Int) + (x.data.toList.length : Nat)).toNat = P.length + x.data.toList.length by omega, ex_at]
    rfl
  · intro hh
    have := has_first (x := 40) (t := []) (by omega) hh
    rw [show (((P.length : Nat) : Int) + (x.data.toList.length : Nat)).toNat = P.length + x.data.toList.length by omega, ← e0] at this
    cases Q with
    | nil =>
      rw [by_get, List.append_nil, List.getElem?_eq_none (by simp)] at this
      cases this
    | cons q Q =>
      have e1 := by_at (P ++ x.data.toList) q Q
      rw [List.append_assoc, List.length_append] at e1
      rw [e1] at this
      exact (hQ q rfl).2 this
theorem tn (n : Nat) : ((n : Nat) : Int).toNat = n := by omega
theorem tok_sg (P : List UInt8) (k : Int) (c : UInt8) (h : (k = 10 ∧ c = 58) ∨ (k = 13 ∧ c = 40) ∨ (k = 14 ∧ c = 41)) (Q : List UInt8) :
    oneT (BA (P ++ c :: Q)) P.length = (⟨k, ⟨⟨[]⟩⟩, 0⟩, ((P.length + 1 : Nat) : Int)) := by
  have hn : numI (BA (P ++ c :: Q)) P.length = 0 := by
    refine num_no P c Q ?_ ?_ ?_
    · rcases h with ⟨_, rfl⟩ | ⟨_, rfl⟩ | ⟨_, rfl⟩ <;> decide
    · intro e; rcases h with ⟨_, rfl⟩ | ⟨_, rfl⟩ | ⟨_, rfl⟩ <;> cases e
    · intro e; rcases h with ⟨_, rfl⟩ | ⟨_, rfl⟩ | ⟨_, rfl⟩ <;> rcases e with e | e <;> cases e
  have hs : startsI (BA (P ++ c :: Q)) P.length = false := by
    refine starts_no P c Q ?_ ?_ <;> rcases h with ⟨_, rfl⟩ | ⟨_, rfl⟩ | ⟨_, rfl⟩ <;> decide
  have hk : sgnI c.toNat = k := by rcases h with ⟨rfl, rfl⟩ | ⟨rfl, rfl⟩ | ⟨rfl, rfl⟩ <;> decide
  have hk0 : (!leI k 0) = true := by rcases h with ⟨rfl, rfl⟩ | ⟨rfl, rfl⟩ | ⟨rfl, rfl⟩ <;> decide
  rw [one_hash P c Q ?_ ?_ ?_ hn, hash_at P c Q ?_ ?_]
  · unfold nameT
    rw [hs, if_neg (by simp), tn, by_at, hk, if_pos hk0]
    rfl
  all_goals (rcases h with ⟨_, rfl⟩ | ⟨_, rfl⟩ | ⟨_, rfl⟩ <;> decide)
theorem one_hash2 (P : List UInt8) (c : UInt8) (R : List UInt8) (hc : c = 47 → ∀ q ∈ R.head?, (q.toNat : Int) ≠ 42) (hb : blankB c.toNat = false) (hq : (c.toNat : Int) ≠ 34 ∧ (c.toNat : Int) ≠ 39) (hn : numI (BA (P ++ c :: R)) P.length = 0) :
    oneT (BA (P ++ c :: R)) P.length = hashT (BA (P ++ c :: R)) P.length := by
  unfold oneT
  rw [if_neg, if_neg, if_neg, if_neg]
  · rw [hn]; decide
  · rw [toNat_P, by_at, Bool.or_eq_true, eqI_t, eqI_t]; omega
  · rw [toNat_P, by_at, hb]; simp
  · intro hh
    have h1 := has_first (x := 47) (t := [42]) (by omega) hh
    rw [toNat_P, by_at] at h1
    have e47 : ((47 : UInt8).toNat : Int) = 47 := rfl
    have h2 : c.toNat = 47 := by omega
    have h3 : c = 47 := by rw [← UInt8.ofNat_toNat (x := c), h2]; rfl
    have h4 : (P.length : Int) + 2 ≤ (BA (P ++ c :: R)).size := hsI_le (t := wSl) hh
    cases R with
    | nil =>
      rw [ba_size, List.length_append, List.length_cons, List.length_nil] at h4
      omega
    | cons r R =>
      have h5 := hc h3 r rfl
      unfold hsI at hh
      rw [Bool.and_eq_true, bytesEq_eq, decide_eq_true_eq] at hh
      have h6 := ex_at P [c, r] R
      rw [show P ++ ([c, r] ++ R) = P ++ c :: r :: R by simp] at h6
      have h7 : (BA (P ++ c :: r :: R)).extract (P.length : Int).toNat ((P.length : Int) + (wSl.size : Nat)).toNat = BA [c, r] := h6
      rw [h7] at hh
      have h8 : [c, r] = [47, 42] := hh.2
      have h9 : r = 42 := (List.cons.inj (List.cons.inj h8).2).1
      subst h9
      exact h5 rfl
theorem tok_dl (P : List UInt8) (c : UInt8) (h : c = 60 ∨ c = 61 ∨ c = 62 ∨ c = 47) (Q : List UInt8) (h1 : c = 47 → ∀ q ∈ Q.head?, (q.toNat : Int) ≠ 42) :
    oneT (BA (P ++ c :: Q)) P.length = (⟨19, ⟨⟨[c]⟩⟩, 0⟩, ((P.length + 1 : Nat) : Int)) := by
  have hn : numI (BA (P ++ c :: Q)) P.length = 0 := by
    refine num_no P c Q ?_ ?_ ?_
    · rcases h with rfl | rfl | rfl | rfl <;> decide
    · intro e; subst e; rcases h with e | e | e | e <;> cases e
    · intro e; rcases e with e | e <;> (subst e; rcases h with e | e | e | e <;> cases e)
  have hs : startsI (BA (P ++ c :: Q)) P.length = false := by
    refine starts_no P c Q ?_ ?_ <;> rcases h with rfl | rfl | rfl | rfl <;> decide
  have hk : (!leI (sgnI c.toNat) 0) = false := by rcases h with rfl | rfl | rfl | rfl <;> decide
  rw [one_hash2 P c Q h1 ?_ ?_ hn, hash_at P c Q ?_ ?_]
  · unfold nameT
    have ex := ex_at P [c] Q
    rw [hs, if_neg (by simp), tn, by_at, hk, if_neg (by simp), show (((P.length : Nat) : Int) + 1).toNat = P.length + 1 by omega]
    have ex2 : (BA (P ++ c :: Q)).extract P.length (P.length + 1) = BA [c] := ex
    rw [ex2]
    rfl
  all_goals (rcases h with rfl | rfl | rfl | rfl <;> decide)
theorem tok_sp (P Q : List UInt8) (h : ∀ q ∈ Q.head?, blankB q.toNat = false) : oneT (BA (P ++ 32 :: Q)) P.length = (⟨20, ⟨⟨[]⟩⟩, 0⟩, ((P.length + 1 : Nat) : Int)) := by
  have hs := span_at blankB [32] P Q (fun x hx => by simp at hx; subst hx; decide) h
  have hs2 : spnI blankB (BA (P ++ 32 :: Q)) P.length = 1 := hs
  unfold oneT
  rw [if_neg, if_pos, hs2]
  · rfl
  · rw [tn, by_at]; decide
  · intro hh
    have := has_first (x := 47) (t := [42]) (by omega) hh
    rw [tn, by_at] at this
    cases this
theorem NoNum.of {Q : List UInt8} (h : ∀ q ∈ Q.head?, goesB q.toNat = false ∧ (q.toNat : Int) ≠ 46) : NoNum Q := fun q hq => by
  obtain ⟨h1, h2⟩ := h q hq
  refine ⟨?_, h2⟩
  cases hd : digB q.toNat with
  | false => rfl
  | true =>
    unfold digB at hd
    rw [Bool.and_eq_true, leI_t, leI_t] at hd
    unfold goesB at h1
    simp only [Bool.or_eq_false_iff, Bool.and_eq_false_iff, decide_eq_false_iff_not] at h1
    omega
theorem numT_first (n : Int) : ∃ c X, numT n = c :: X ∧ (digB c.toNat = true ∨ c = 45) := by
  unfold numT
  split
  · exact ⟨_, _, rfl, .inr rfl⟩
  · obtain ⟨c, X, h1, h2⟩ := numL_first n.natAbs
    exact ⟨c, X, h1, .inl h2⟩
theorem first_bd {c : UInt8} (h : digB c.toNat = true ∨ c = 45) : (48 ≤ (c.toNat : Int) ∧ (c.toNat : Int) ≤ 57) ∨ (c.toNat : Int) = 45 := by
  rcases h with h | rfl
  · unfold digB at h
    rw [Bool.and_eq_true, leI_t, leI_t] at h
    exact .inl h
  · exact .inr rfl
theorem one_mea (P Q : List UInt8) (n : Int) (hQ : NoNum Q) : oneT (BA (P ++ (numT n ++ Q))) P.length = (⟨meaK (BA (P ++ (numT n ++ Q))) P.length (numT n).length, meaX (BA (P ++ (numT n ++ Q))) P.length (numT n).length, meaN (BA (P ++ (numT n ++ Q))) P.length (numT n).length⟩, meaE (BA (P ++ (numT n ++ Q))) P.length (numT n).length) := by
  have hn := num_at P Q n hQ
  obtain ⟨c, X, hc, hd⟩ := numT_first n
  have hb := first_bd hd
  have hby : byteAt (BA (P ++ (numT n ++ Q))) (P.length : Int).toNat = c.toNat := by
    rw [hc, toNat_P]
    exact by_at P c (X ++ Q)
  have hl : 0 < (numT n).length := by rw [hc]; simp
  unfold oneT
  rw [if_neg, if_neg, if_neg, if_pos, hn]
  · rw [hn, Bool.not_eq_true', leI_f]; omega
  · rw [hby, Bool.or_eq_true, eqI_t, eqI_t]; omega
  · rw [hby]
    have : blankB c.toNat = false := by rw [blankB_f]; omega
    rw [this]; simp
  · intro hh
    have := has_first (x := 47) (t := [42]) (by omega) hh
    rw [hby] at this
    have e47 : ((47 : UInt8).toNat : Int) = 47 := rfl
    omega
theorem mea_n (P Q : List UInt8) (n : Int) (h : -1073741824 ≤ n ∧ n ≤ 1073741824) : meaN (BA (P ++ (numT n ++ Q))) P.length (numT n).length = n := by
  unfold meaN
  rw [show ((P.length : Int) + ((numT n).length : Int)).toNat = P.length + (numT n).length by omega, toNat_P, ex_at]
  exact worth_num n h
theorem pct_no (P X Q : List UInt8) (h : ∀ q ∈ Q.head?, (q.toNat : Int) ≠ 37) : pctB (BA (P ++ (X ++ Q))) ((P.length : Int) + (X.length : Int)) = false := by
  unfold pctB
  rw [show ((P.length : Int) + (X.length : Int)).toNat = P.length + X.length by omega, Bool.and_eq_false_iff]
  cases Q with
  | nil =>
    refine .inl ?_
    rw [Bool.not_eq_false', leI_t, ba_size]
    simp
  | cons q Q =>
    refine .inr ?_
    have h4 := by_at (P ++ X) q Q
    rw [List.append_assoc, List.length_append] at h4
    rw [h4, eqI_f]
    exact h q rfl
theorem tok_num (P Q : List UInt8) (n : Int) (h : -1073741824 ≤ n ∧ n ≤ 1073741824) (hQ : ∀ q ∈ Q.head?, goesB q.toNat = false ∧ (q.toNat : Int) ≠ 46 ∧ (q.toNat : Int) ≠ 37) : oneT (BA (P ++ (numT n ++ Q))) P.length = (⟨7, ⟨⟨[]⟩⟩, n⟩, ((P.length + (numT n).length : Nat) : Int)) := by
  rw [one_mea P Q n (NoNum.of fun q hq => ⟨(hQ q hq).1, (hQ q hq).2.1⟩), mea_n P Q n h]
  have p := pct_no P (numT n) Q fun q hq => (hQ q hq).2.2
  have s : startsI (BA (P ++ (numT n ++ Q))) ((P.length : Int) + ((numT n).length : Int)) = false := by
    cases Q with
    | nil =>
      unfold startsI
      rw [Bool.and_eq_false_iff]
      refine .inl ?_
      rw [Bool.not_eq_false', leI_t, ba_size]
      simp
    | cons q Q =>
      have hg := (hQ q rfl).1
      have h1 : begB q.toNat = false ∧ (q.toNat : Int) ≠ 45 := by
        unfold goesB at hg
        simp only [Bool.or_eq_false_iff, Bool.and_eq_false_iff, decide_eq_false_iff_not] at hg
        exact ⟨hg.1.1, hg.2⟩
      have := starts_no (P ++ numT n) q Q h1.1 h1.2
      rw [List.append_assoc, List.length_append] at this
      rw [show (P.length : Int) + ((numT n).length : Int) = ((P.length + (numT n).length : Nat) : Int) by omega]
      exact this
  unfold meaK meaX meaE
  rw [p, s]
  simp only [Bool.false_eq_true, if_false]
  rw [show (P.length : Int) + ((numT n).length : Int) = ((P.length + (numT n).length : Nat) : Int) by omega]
theorem tok_dim (P Q : List UInt8) (n : Int) (h : -1073741824 ≤ n ∧ n ≤ 1073741824) (hQ : ∀ q ∈ Q.head?, goesB q.toNat = false) : oneT (BA (P ++ (numT n ++ [112, 120] ++ Q))) P.length = (⟨9, ⟨⟨[112, 120]⟩⟩, n⟩, ((P.length + (numT n ++ [112, 120]).length : Nat) : Int)) := by
  have e : numT n ++ [112, 120] ++ Q = numT n ++ (112 :: 120 :: Q) := by simp
  rw [e, one_mea P (112 :: 120 :: Q) n (fun q hq => by simp at hq; subst hq; exact ⟨by decide, by decide⟩), mea_n P _ n h]
  have p := pct_no P (numT n) (112 :: 120 :: Q) fun q hq => by simp at hq; subst hq; decide
  have s := starts_at (P ++ numT n) 112 [120] Q (.inl (by decide))
  have sp := span_at goesB [112, 120] (P ++ numT n) Q (fun x hx => by
    simp only [List.mem_cons, List.not_mem_nil, or_false] at hx
    rcases hx with rfl | rfl <;> decide) hQ
  have ex := ex_at (P ++ numT n) [112, 120] Q
  have e2 : P ++ numT n ++ ([112, 120] ++ Q) = P ++ (numT n ++ (112 :: 120 :: Q)) := by simp
  rw [e2, List.length_append] at sp ex
  have s : startsI (BA (P ++ numT n ++ ([112, 120] ++ Q))) ((P ++ numT n).length : Nat) = true := s
  rw [e2, List.length_append] at s
  have el : (P.length : Int) + ((numT n).length : Int) = ((P.length + (numT n).length : Nat) : Int) := by omega
  unfold meaK meaX meaE
  rw [p, el, s, sp]
  simp only [Bool.false_eq_true, if_false, if_true]
  rw [Int.toNat_natCast, show (((P.length + (numT n).length : Nat) : Int) + (([112, 120] : List UInt8).length : Nat)).toNat = P.length + (numT n).length + ([112, 120] : List UInt8).length by omega, ex]
  congr 1
  rw [List.length_append]
  omega
end Go.Proofs.Ytlmanlpgknhfpaa
namespace Go.Proofs.Ytlmanlpgknhfpaa
open Go Go.RowKit Pl Sy
theorem one_tok {t : TokV} (h : GoodT t) (P Q : List UInt8) (hf : FolQ t Q) : oneT (BA (P ++ (txtL t ++ Q))) P.length = (t, ((P.length + (txtL t).length : Nat) : Int)) := by
  cases h with
  | id x hx => exact tok_id P x hx Q fun q hq => (hf q hq).1 rfl
  | sg k c hk =>
    have e : txtL ⟨k, ⟨⟨[]⟩⟩, 0⟩ = [c] := by rcases hk with ⟨rfl, rfl⟩ | ⟨rfl, rfl⟩ | ⟨rfl, rfl⟩ <;> rfl
    rw [e]
    exact tok_sg P k c hk Q
  | sp => exact tok_sp P Q fun q hq => (hf q hq).2.1 rfl
  | dl c hc =>
    have e : txtL ⟨19, ⟨⟨[c]⟩⟩, 0⟩ = [c] := rfl
    rw [e]
    exact tok_dl P c hc Q (fun e q hq => (hf q hq).2.2.1 rfl)
  | num n hn => exact tok_num P Q n hn fun q hq => (hf q hq).2.2.2.1 rfl
  | dim n hn => exact tok_dim P Q n hn fun q hq => (hf q hq).2.2.2.2 rfl
theorem good_kind {t : TokV} (h : GoodT t) : leI t.kind 0 = false := by
  cases h with
  | sg k c hk => rw [leI_f]; show ¬ k ≤ (0 : Int); omega
  | _ => rfl
theorem good_ne {t : TokV} (h : GoodT t) : ∃ f X, txtL t = f :: X := by
  cases h with
  | id x hx =>
    obtain ⟨c, X, hL, _⟩ := name_first hx
    exact ⟨c, X, hL⟩
  | sg k c hk =>
    refine ⟨c, [], ?_⟩
    rcases hk with ⟨rfl, rfl⟩ | ⟨rfl, rfl⟩ | ⟨rfl, rfl⟩ <;> rfl
  | sp => exact ⟨_, _, rfl⟩
  | dl c hc => exact ⟨c, [], rfl⟩
  | num n hn =>
    obtain ⟨c, X, h, _⟩ := numT_first n
    exact ⟨c, X, h⟩
  | dim n hn =>
    obtain ⟨c, X, h, _⟩ := numT_first n
    exact ⟨c, X ++ [112, 120], by show numT n ++ [112, 120] = _; rw [h]; rfl⟩
def fbT (t : TokV) : Int := ((txtL t).headD 0).toNat
def ChainT : List TokV → Prop
  | [] => True
  | [_] => True
  | t :: u :: l => FolT t (fbT u) ∧ ChainT (u :: l)
def catL (l : List TokV) : List UInt8 := l.flatMap txtL
theorem catL_cons (t : TokV) (l : List TokV) : catL (t :: l) = txtL t ++ catL l := List.flatMap_cons ..
theorem chain_tail {t : TokV} {l : List TokV} (h : ChainT (t :: l)) : ChainT l := by
  cases l with
  | nil => trivial
  | cons u l => exact h.2
theorem chain_fol {t : TokV} {l : List TokV} (h : ChainT (t :: l)) (hg : ∀ u ∈ l, GoodT u) : FolQ t (catL l) := by
  cases l with
  | nil => intro q hq; cases hq
  | cons u l =>
    intro q hq
    obtain ⟨f, X, e⟩ := good_ne (hg u (by simp))
    rw [catL_cons, e] at hq
    simp at hq
    subst hq
    have := h.1
    unfold fbT at this
    rw [e] at this
    exact this
theorem cuN_cat : ∀ (l : List TokV) (P : List UInt8) (n : Nat), (∀ t ∈ l, GoodT t) → ChainT l → l.length ≤ n → cuN (BA (P ++ catL l)) n P.length = l
  | [], P, n, _, _, _ => by
    have e : catL [] = [] := rfl
    rw [e, List.append_nil]
    cases n with
    | zero => rfl
    | succ n =>
      unfold cuN
      rw [if_neg (by rw [ba_size]; omega)]
  | t :: l, P, 0, _, _, h => by simp at h
  | t :: l, P, n + 1, hg, hc, h => by
    have ht := hg t (by simp)
    have one := one_tok ht P (catL l) (chain_fol hc fun u hu => hg u (by simp [hu]))
    obtain ⟨f, X, e⟩ := good_ne ht
    have hlt : ((P.length : Nat) : Int) < (BA (P ++ catL (t :: l))).size := by
      rw [ba_size, catL_cons, e]
      simp only [List.length_append, List.length_cons]
      omega
    rw [← catL_cons] at one
    have eK : oneK (BA (P ++ catL (t :: l))) P.length = t.kind := by unfold oneK; rw [one]
    have eX : oneX (BA (P ++ catL (t :: l))) P.length = t.text := by unfold oneX; rw [one]
    have eN : oneN (BA (P ++ catL (t :: l))) P.length = t.n := by unfold oneN; rw [one]
    have eE : oneE (BA (P ++ catL (t :: l))) P.length = ((P.length + (txtL t).length : Nat) : Int) := by unfold oneE; rw [one]
    unfold cuN
    rw [if_pos hlt, eK, eX, eN, eE, if_neg (by rw [good_kind ht]; simp)]
    have ih := cuN_cat l (P ++ txtL t) n (fun u hu => hg u (by simp [hu])) (chain_tail hc) (by simpa using h)
    rw [List.append_assoc, ← catL_cons, List.length_append] at ih
    rw [ih]
    rfl
theorem cat_len : ∀ (l : List TokV), (∀ t ∈ l, GoodT t) → l.length ≤ (catL l).length
  | [], _ => Nat.zero_le _
  | t :: l, h => by
    have := cat_len l (fun u hu => h u (by simp [hu]))
    obtain ⟨f, X, e⟩ := good_ne (h t (by simp))
    rw [catL_cons, e]
    simp only [List.length_append, List.length_cons]
    omega
theorem cut_cat {l : List TokV} (h : ∀ t ∈ l, GoodT t) (hc : ChainT l) : cutT (BA (catL l)) = l := by
  have := cuN_cat l [] (BA (catL l)).size h hc (by rw [ba_size]; exact cat_len l h)
  rw [List.nil_append] at this
  exact this
def WrdK (k : Int) : Prop := k = 1 ∨ k = 7 ∨ k = 9
def AdjT (t u : TokV) : Prop := (WrdK t.kind → ¬ WrdK u.kind ∧ u.kind ≠ 13) ∧ (t.kind = 20 → u.kind ≠ 20)
theorem fol_of {t u : TokV} (ht : GoodT t) (hu : GoodT u) (h : AdjT t u) : FolT t (fbT u) := by
  have key : (¬ WrdK u.kind → goesB (fbT u) = false ∧ fbT u ≠ 46 ∧ fbT u ≠ 37 ∧ (u.kind ≠ 13 → fbT u ≠ 40)) ∧ (u.kind ≠ 20 → blankB (fbT u) = false) ∧ fbT u ≠ 42 := by
    cases hu with
    | id x hx =>
      obtain ⟨c, X, hL, _, hc⟩ := name_first hx
      have e : fbT ⟨1, x, 0⟩ = c.toNat := by
        show (((txtL ⟨1, x, 0⟩).headD 0).toNat : Int) = _
        rw [show txtL ⟨1, x, 0⟩ = c :: X from hL]; rfl
      rw [e]
      have hv : ((97 ≤ (c.toNat : Int) ∧ (c.toNat : Int) ≤ 122) ∨ (65 ≤ (c.toNat : Int) ∧ (c.toNat : Int) ≤ 90) ∨ (c.toNat : Int) = 95 ∨ 128 ≤ (c.toNat : Int)) ∨ (c.toNat : Int) = 45 := by
        rcases hc with h | ⟨h, _⟩
        · exact .inl (begB_t h)
        · exact .inr h
      exact ⟨fun h => absurd (.inl rfl) h, fun _ => by rw [blankB_f]; omega, by omega⟩
    | sg k c hk => rcases hk with ⟨rfl, rfl⟩ | ⟨rfl, rfl⟩ | ⟨rfl, rfl⟩ <;> exact ⟨fun _ => ⟨by decide, by decide, by decide, by decide⟩, fun _ => by decide, by decide⟩
    | sp => exact ⟨fun _ => ⟨by decide, by decide, by decide, by decide⟩, fun h => absurd rfl h, by decide⟩
    | dl c hc => rcases hc with rfl | rfl | rfl | rfl <;> exact ⟨fun _ => ⟨by decide, by decide, by decide, by decide⟩, fun _ => by decide, by decide⟩
    | num n hn =>
      obtain ⟨c, X, h, hd⟩ := numT_first n
      have hb := first_bd hd
      have e : fbT ⟨7, ⟨⟨[]⟩⟩, n⟩ = c.toNat := by
        show (((numT n).headD 0).toNat : Int) = _
        rw [h]; rfl
      rw [e]
      exact ⟨fun h => absurd (.inr (.inl rfl)) h, fun _ => by rw [blankB_f]; omega, by omega⟩
    | dim n hn =>
      obtain ⟨c, X, h, hd⟩ := numT_first n
      have hb := first_bd hd
      have e : fbT ⟨9, ⟨⟨[112, 120]⟩⟩, n⟩ = c.toNat := by
        show (((numT n ++ [112, 120]).headD 0).toNat : Int) = _
        rw [h]; rfl
      rw [e]
      exact ⟨fun h => absurd (.inr (.inr rfl)) h, fun _ => by rw [blankB_f]; omega, by omega⟩
  obtain ⟨k1, k2, k3⟩ := key
  obtain ⟨h1, h2⟩ := h
  exact ⟨fun e => by have := h1 (.inl e); exact ⟨(k1 this.1).1, (k1 this.1).2.2.2 this.2⟩, fun e => k2 (h2 e), fun _ => k3, fun e => by have := k1 (h1 (.inr (.inl e))).1; exact ⟨this.1, this.2.1, this.2.2.1⟩, fun e => (k1 (h1 (.inr (.inr e))).1).1⟩
def AdjL : List TokV → Prop
  | [] => True
  | [_] => True
  | t :: u :: l => AdjT t u ∧ AdjL (u :: l)
theorem AdjL.chain : ∀ {l : List TokV}, AdjL l → (∀ t ∈ l, GoodT t) → ChainT l
  | [], _, _ => trivial
  | [_], _, _ => trivial
  | t :: u :: l, h, hg => ⟨fol_of (hg t (by simp)) (hg u (by simp)) h.1, AdjL.chain h.2 (fun x hx => hg x (by simp only [List.mem_cons] at hx ⊢; exact .inr hx))⟩
theorem AdjL.app : ∀ {A B : List TokV}, AdjL A → AdjL B → (∀ t ∈ A.getLast?, ∀ u ∈ B.head?, AdjT t u) → AdjL (A ++ B)
  | [], B, _, hB, _ => hB
  | [t], [], _, _, _ => trivial
  | [t], u :: B, _, hB, h => ⟨h t rfl u rfl, hB⟩
  | t :: u :: A, B, hA, hB, h => ⟨hA.1, AdjL.app (A := u :: A) hA.2 hB (fun x hx y hy => h x (by simpa using hx) y hy)⟩
end Go.Proofs.Ytlmanlpgknhfpaa
namespace Go.Proofs.Ytlmanlpgknhfpaa
open Go Go.RowKit Pl Sy
noncomputable abbrev Sy.cNoH34 : Con Try.prog := atX 56 (fun args => match args with | [.lit (.string s)] => some s | _ => none) (fun s => [.lit (.string s)]) (fun _ => boo false) (fun _ => False) fun a h => h.elim
theorem ba_app (x y : ByteArray) : x ++ y = BA (x.data.toList ++ y.data.toList) := by
  refine ByteArray.ext ?_
  rw [ByteArray.data_append]
  exact Array.ext' (by simp)
theorem ba_cat (a b : List UInt8) : BA a ++ BA b = BA (a ++ b) := ba_app _ _
theorem leaf_txt {s s' : ByteArray} (h : s = s') : (Tr.leaf (AV.tup [.lit (.string s), boo true])).Ok fun v => v = .tup [.lit (.string s'), boo true] := by rw [h]; exact rfl
theorem fork_n {α : Type} {a b : Int} {A B : Tr α} {G : α → Prop} (h : ¬ a = b) (hB : B.Ok G) : (Tr.fork (eqI a b) A B).Ok G := fork_ok (fun q => by rw [eqI_t] at q; exact absurd q h) (fun _ => hB)
theorem fork_y {α : Type} {a : Int} {A B : Tr α} {G : α → Prop} (hA : A.Ok G) : (Tr.fork (eqI a a) A B).Ok G := fork_ok (fun _ => hA) (fun q => by rw [eqI_f] at q; exact absurd rfl q)
theorem numT_len (n : Int) (h : -1073741824 ≤ n ∧ n ≤ 1073741824) : (numT n).length ≤ 101 := by
  have := numL_len n.natAbs (by omega)
  unfold numT
  split
  · rw [List.length_cons]; omega
  · omega
theorem Sy.txt_t (t : TokV) (h : GoodT t) : CallTo Try.prog 30 [tokA t] M0 fun v _ => v = .tup [.lit (.string (BA (txtL t))), boo true] := by
  refine toV [cPrn, cNoH34] [] 400 30 (.br (.auto 0 .done) (.br .done (.br (.yes .done) (.br (.yes .done) (.br (.yes .done) (.br (.yes (.auto 0 (.yes (.yes .done)))) (.br (.yes .done) (.br (.yes (.yes .done)) (.br (.yes (.yes .done)) (.br .done (.br .done (.br .done (.br .done (.br .done (.br .done (.br .done (.br .done (.br .done (.br .done .done))))))))))))))))))) (let e1 := (@AV.lit (@Value.string (t).text)); let e2 := (boo true); let e3 := (@ByteArray.size (t).text); let e4 := (9223372036854775807 : Int); let e5 := (@ByteArray.mk (@Array.mk _ [(40 : UInt8)])); let e6 := (leI (((1 + e3) : Nat) : Int) e4); let e7 := (@ByteArray.mk (@Array.mk _ [(34 : UInt8)])); let e8 := (@isSo (@And ((@HAppend.hAppend _ _ _ _ (@HAppend.hAppend _ _ _ _ [] [(int (t).n)]) []) = [(int (t).n)]) (@And ((-1073741824 : Int) ≤ (t).n) ((t).n ≤ (1073741824 : Int))))); let e9 := (@ByteArray.mk (@Array.mk _ (@numT (t).n))); (.fork (eqI (t).kind (1 : Int)) (.leaf (@AV.tup [e1, e2])) (.fork (eqI (t).kind (19 : Int)) (.leaf (@AV.tup [e1, e2])) (.fork (eqI (t).kind (2 : Int)) (.need (leI (((e3 + 1) : Nat) : Int) e4) (.leaf (@AV.tup [(@AV.lit (@Value.string (@HAppend.hAppend _ _ _ _ (t).text e5))), e2]))) (.fork (eqI (t).kind (3 : Int)) (.need e6 (.leaf (@AV.tup [(@AV.lit (@Value.string (@HAppend.hAppend _ _ _ _ (@ByteArray.mk (@Array.mk _ [(64 : UInt8)])) (t).text))), e2]))) (.fork (eqI (t).kind (4 : Int)) (.need e6 (.leaf (@AV.tup [(@AV.lit (@Value.string (@HAppend.hAppend _ _ _ _ (@ByteArray.mk (@Array.mk _ [(35 : UInt8)])) (t).text))), e2]))) (.fork (eqI (t).kind (5 : Int)) (.need (@isSo (@And ((@HAppend.hAppend _ _ _ _ (@HAppend.hAppend _ _ _ _ [] [e1]) []) = [e1]) False)) (.need e6 (.need (leI ((((@ByteArray.size (@HAppend.hAppend _ _ _ _ e7 (t).text)) + 1) : Nat) : Int) e4) (.leaf (@AV.tup [(@AV.lit (@Value.string (@HAppend.hAppend _ _ _ _ (@HAppend.hAppend _ _ _ _ e7 (t).text) e7))), e2]))))) (.fork (eqI (t).kind (7 : Int)) (.need e8 (.leaf (@AV.tup [(@AV.lit (@Value.string e9)), e2]))) (.fork (eqI (t).kind (8 : Int)) (.need e8 (.need (leI ((((@ByteArray.size e9) + 1) : Nat) : Int) e4) (.leaf (@AV.tup [(@AV.lit (@Value.string (@HAppend.hAppend _ _ _ _ e9 (@ByteArray.mk (@Array.mk _ [(37 : UInt8)]))))), e2])))) (.fork (eqI (t).kind (9 : Int)) (.need e8 (.need (leI ((((@ByteArray.size e9) + e3) : Nat) : Int) e4) (.leaf (@AV.tup [(@AV.lit (@Value.string (@HAppend.hAppend _ _ _ _ e9 (t).text))), e2])))) (.fork (eqI (t).kind (10 : Int)) (.leaf (@AV.tup [(@AV.lit (@Value.string (@ByteArray.mk (@Array.mk _ [(58 : UInt8)])))), e2])) (.fork (eqI (t).kind (11 : Int)) (.leaf (@AV.tup [(@AV.lit (@Value.string (@ByteArray.mk (@Array.mk _ [(59 : UInt8)])))), e2])) (.fork (eqI (t).kind (12 : Int)) (.leaf (@AV.tup [(@AV.lit (@Value.string (@ByteArray.mk (@Array.mk _ [(44 : UInt8)])))), e2])) (.fork (eqI (t).kind (13 : Int)) (.leaf (@AV.tup [(@AV.lit (@Value.string e5)), e2])) (.fork (eqI (t).kind (14 : Int)) (.leaf (@AV.tup [(@AV.lit (@Value.string (@ByteArray.mk (@Array.mk _ [(41 : UInt8)])))), e2])) (.fork (eqI (t).kind (15 : Int)) (.leaf (@AV.tup [(@AV.lit (@Value.string (@ByteArray.mk (@Array.mk _ [(91 : UInt8)])))), e2])) (.fork (eqI (t).kind (16 : Int)) (.leaf (@AV.tup [(@AV.lit (@Value.string (@ByteArray.mk (@Array.mk _ [(93 : UInt8)])))), e2])) (.fork (eqI (t).kind (17 : Int)) (.leaf (@AV.tup [(@AV.lit (@Value.string (@ByteArray.mk (@Array.mk _ [(123 : UInt8)])))), e2])) (.fork (eqI (t).kind (18 : Int)) (.leaf (@AV.tup [(@AV.lit (@Value.string (@ByteArray.mk (@Array.mk _ [(125 : UInt8)])))), e2])) (.fork (eqI (t).kind (20 : Int)) (.leaf (@AV.tup [(@AV.lit (@Value.string (@ByteArray.mk (@Array.mk _ [(32 : UInt8)])))), e2])) (.leaf (@AV.tup [(@AV.lit (@Value.string (@ByteArray.mk (@Array.mk _ [])))), (boo false)])))))))))))))))))))))) (by kernel_rfl) ?_
  have ye : ∀ {a : Int} {P : Prop}, eqI a a = false → P := fun h1 => by rw [eqI_f] at h1; exact absurd rfl h1
  conv => zeta
  cases h with
  | id x hx => exact fork_ok (fun _ => leaf_txt rfl) (fun q => ye q)
  | sg k c hk =>
    rcases hk with ⟨rfl, rfl⟩ | ⟨rfl, rfl⟩ | ⟨rfl, rfl⟩
    all_goals repeat' (first | exact leaf_txt rfl | refine fork_n (by decide) ?_ | refine fork_y ?_)
  | sp => repeat' (first | exact leaf_txt rfl | refine fork_n (by decide) ?_ | refine fork_y ?_)
  | dl c hc => repeat' (first | exact leaf_txt rfl | refine fork_n (by show ¬ ((19 : Int) = _); decide) ?_ | refine fork_y ?_)
  | num n hn => repeat' (first | exact need_so ⟨rfl, hn⟩ (leaf_txt rfl) | refine fork_n (by show ¬ ((7 : Int) = _); decide) ?_ | refine fork_y ?_)
  | dim n hn =>
    have hl := numT_len n hn
    have hs : leI (((⟨⟨numT n⟩⟩ : ByteArray).size + (⟨⟨[112, 120]⟩⟩ : ByteArray).size : Nat) : Int) 9223372036854775807 = true := by
      rw [leI_t]
      show (((numT n).length + 2 : Nat) : Int) ≤ _
      omega
    repeat' (first | exact need_so ⟨rfl, hn⟩ (need_t hs (leaf_txt (ba_app _ _))) | refine fork_n (by show ¬ ((9 : Int) = _); decide) ?_ | refine fork_y ?_)
end Go.Proofs.Ytlmanlpgknhfpaa
namespace Go.Proofs.Ytlmanlpgknhfpaa
open Go Go.RowKit Pl Sy
theorem Sy.WR.giveO {w0 : World} {ρ : Rho} {M : Mem} {w : World} (h : WR w0 ρ M w) {b n s : Nat} {B : Blk} {R : Rw} {u : Value} (hb : M.get b = some B) (hR : B.rows = some R) (hn : n ≤ R.n) (hs : R.s = s) (hr : rel ρ (.own b n s) u) {cell : Nat → Nat → AV} (hc : ∀ i j, i < n → j < s → Sub (R.cell i j) (cell i j)) :
    ∃ ρ', Ext ρ ρ' ∧ WR w0 ρ' (M.put b none) w ∧ rel ρ' (.view n s cell) u := by
  have hr' := hr
  simp only [rel] at hr'
  rcases hr' with ⟨_, rfl, rfl⟩ | ⟨g, tot, cap, hg, rfl, h1, h2, h3⟩
  · refine ⟨ρ, Ext.refl ρ, h.die (Mem.get_lt hb), ?_⟩
    simp only [rel]
    exact ⟨none, 0, rfl, Nat.le_refl _, by unfold maxLen; omega, fun _ => rfl, fun h => by omega⟩
  · obtain ⟨cur, q1, q2, q3, q4, q5⟩ := h.freeze hb hg
    refine ⟨_, q4, q5, ?_⟩
    simp only [rel]
    refine ⟨_, cap, rfl, h1, h2, (fun h => by cases h), fun _ => ⟨g, 0, rfl, fun i j hi hj => ?_⟩⟩
    obtain ⟨x, r1, r2, r3⟩ := q3.2 R hR i j (by omega) (by omega)
    refine ⟨x, ?_, hc i j hi hj _ _ (r2.ext q4), r3⟩
    show (quiet ρ g cur).still g _ = _
    simp only [quiet, if_true]
    rw [Nat.zero_add, ← hs]; exact r1
theorem Sy.CallTo.give {P : Program} {f : FuncId} {args args' : List AV} {G : AV → Prop} {b : Nat} {M : Mem} (h : CallTo P f args' ⟨0, 0, []⟩ fun v _ => Free v ∧ G v) (hf : Frees args')
    (hs : ∀ w0 ρ w us, WR w0 ρ M w → rels ρ args us → ∃ ρ', Ext ρ ρ' ∧ WR w0 ρ' (M.put b none) w ∧ rels ρ' args' us) : CallTo P f args M fun v M' => M' = M.put b none ∧ G v := fun w0 ρ us w hr hW => by
  obtain ⟨ρ', q1, q2, q3⟩ := hs w0 ρ w us hW hr
  refine (h.frame hf (M.put b none) w0 ρ' us w q3 q2).mono ?_
  rintro e w' ⟨ρ2, u, v, M', r1, r2, r3, r4, r5, r6⟩
  exact ⟨ρ2, u, v, M', r1, q1.trans r2, r3, r4, r5, r6⟩
theorem Sy.CallTo.sub {P : Program} {f : FuncId} {args args' : List AV} {G : AV → Mem → Prop} {M : Mem} (h : CallTo P f args' M G) (hs : ∀ ρ us, rels ρ args us → rels ρ args' us) : CallTo P f args M G := fun w0 ρ us w hr hW => h w0 ρ us w (hs ρ us hr) hW
def intA : AV → Int
  | .lit (.int _ k) => k
  | _ => 0
def strA : AV → ByteArray
  | .lit (.string s) => s
  | _ => ⟨#[]⟩
def toksOf (n : Nat) (c : Nat → Nat → AV) : List TokV := (List.range n).map fun i => ⟨intA (c i 0), strA (c i 1), intA (c i 2)⟩
theorem toksOf_is {n : Nat} {c : Nat → Nat → AV} {L : List TokV} (h : CellIs n c L) : toksOf n c = L := by
  obtain ⟨h1, h2⟩ := h
  unfold toksOf
  refine List.ext_getElem (by simp [h1]) fun i q1 q2 => ?_
  simp only [List.getElem_map, List.getElem_range]
  have hi : i < n := by omega
  rw [h2 i 0 hi (by decide), h2 i 1 hi (by decide), h2 i 2 hi (by decide)]
  have e : L.getD i tok0 = L[i] := by rw [List.getD_eq_getElem?_getD, List.getElem?_eq_getElem q2]; rfl
  show (⟨(L.getD i tok0).kind, (L.getD i tok0).text, (L.getD i tok0).n⟩ : TokV) = _
  rw [e]
namespace Sy
structure GX where
  b : Option Nat
  n : Nat
  m : Nat
  c : Nat → Nat → AV
def gGet3 (b n : Nat) : Option Blk → Option GX
  | some ⟨_, _, some R⟩ => match Nat.beq R.s 3 with
    | true => some ⟨some b, n, R.n, R.cell⟩
    | false => none
  | _ => none
noncomputable def gGet (M : Mem) : AV → Option GX
  | .view n s c => match Nat.beq s 3 with
    | true => some ⟨none, n, n, c⟩
    | false => none
  | .own b n s => match Nat.beq s 3 with
    | true => gGet3 b n (M.get b)
    | false => none
  | _ => none
noncomputable def gMem (M : Mem) : Option Nat → Mem
  | none => M
  | some b => M.put b none
end Sy
theorem gGet_ok {M : Mem} {v : AV} {x : GX} (h : gGet M v = some x) : (x.b = none ∧ v = .view x.n 3 x.c) ∨ ∃ b B R, x.b = some b ∧ v = .own b x.n 3 ∧ M.get b = some B ∧ B.rows = some R ∧ R.s = 3 ∧ x.m = R.n ∧ x.c = R.cell := by
  unfold gGet at h
  split at h
  · rename_i n s c
    split at h
    · rename_i hs
      have hs := Nat.eq_of_beq_eq_true hs
      subst hs
      simp at h
      subst h
      exact .inl ⟨rfl, rfl⟩
    · cases h
  · rename_i b n s
    split at h
    · rename_i hs
      have hs := Nat.eq_of_beq_eq_true hs
      subst hs
      cases hg : M.get b with
      | none => rw [hg] at h; cases h
      | some B =>
        rw [hg] at h
        unfold gGet3 at h
        split at h
        · rename_i cs e R heq
          simp at heq
          subst heq
          split at h
          · rename_i hb
            have h1 := Nat.eq_of_beq_eq_true hb
            simp at h
            subst h
            exact .inr ⟨b, _, R, rfl, rfl, hg, rfl, h1, rfl, rfl⟩
          · cases h
        · cases h
    · cases h
  · cases h
noncomputable def Sy.conG (f : FuncId) (v0 : List TokV → AV) (C : List TokV → Prop) (h : ∀ L, C L → Free (v0 L) ∧ CallTo Try.prog f [kv L] M0 fun v _ => v = v0 L) : Con Try.prog where
  f := f
  run := fun args M => match args with
    | [v] => (match gGet M v with | some x => some (v0 (toksOf x.n x.c), gMem M x.b) | none => none)
    | _ => none
  ob := fun args M => match args with
    | [v] => (match gGet M v with | some x => some (isSo (x.n ≤ x.m ∧ TokRows x.n x.c ∧ C (toksOf x.n x.c))) | none => none)
    | _ => none
  ok := fun args M v M' hr hob => by
    match args, hr, hob with
    | [a], hr, hob =>
      have hr : (match gGet M a with | some x => some (v0 (toksOf x.n x.c), gMem M x.b) | none => none) = some (v, M') := hr
      have hob : owed (match gGet M a with | some x => some (isSo (x.n ≤ x.m ∧ TokRows x.n x.c ∧ C (toksOf x.n x.c))) | none => none) := hob
      cases hg : gGet M a with
      | none => rw [hg] at hr; cases hr
      | some x =>
        rw [hg] at hr hob
        simp at hr
        obtain ⟨rfl, rfl⟩ := hr
        have h1 := hob _ rfl
        rw [isSo_t] at h1
        obtain ⟨hm, ⟨L, hL⟩, hC⟩ := h1
        rw [toksOf_is hL] at hC ⊢
        obtain ⟨q1, q2⟩ := h L hC
        rcases gGet_ok hg with ⟨e1, e2⟩ | ⟨b, B, R, e1, e2, e3, e4, e5, e6, e7⟩
        · rw [e1, e2]
          refine ⟨Grow.refl _, ?_⟩
          have k := ((q2.mono fun v _ e => (⟨e ▸ q1, e⟩ : Free v ∧ v = v0 L)).frame ⟨kv_free L, trivial⟩ M).mono fun v' M' (hx : M' = M ∧ v' = v0 L) => (⟨hx.2, hx.1⟩ : v' = v0 L ∧ M' = M)
          refine k.sub fun ρ us hr => ?_
          simp only [rels] at hr ⊢
          obtain ⟨u, us', r1, r2, r3⟩ := hr
          refine ⟨u, us', r1, ?_, r3⟩
          simp only [rel] at r2 ⊢
          obtain ⟨o1, o2, o3, o4, o5, o6, o7⟩ := r2
          refine ⟨o1, o2, by rw [← hL.1]; exact o3, by rw [← hL.1]; exact o4, o5, o6, fun hn => ?_⟩
          obtain ⟨g, o, s1, s2⟩ := o7 (by rw [hL.1]; exact hn)
          refine ⟨g, o, s1, fun i j hi hj => ?_⟩
          obtain ⟨y, t1, t2, t3⟩ := s2 i j (by rw [hL.1]; exact hi) hj
          refine ⟨y, t1, ?_, t3⟩
          rw [hL.2 i j (by rw [hL.1]; exact hi) hj] at t2
          exact t2
        · rw [e1, e2]
          refine ⟨Grow.put M b none, ?_⟩
          refine (CallTo.give (b := b) (q2.mono fun v _ e => (⟨e ▸ q1, e⟩ : Free v ∧ v = v0 L)) ⟨kv_free L, trivial⟩ fun w0 ρ w us hW hr => ?_).mono fun v' M' hx => ⟨hx.2, hx.1⟩
          simp only [rels] at hr
          obtain ⟨u, us', r1, r2, r3⟩ := hr
          obtain ⟨ρ', z1, z2, z3⟩ := WR.giveO hW e3 e4 (by omega) e5 r2 (cell := kcell L) (fun i j hi hj => Sub.of_eq (by rw [← e7]; exact hL.2 i j hi hj))
          refine ⟨ρ', z1, z2, ?_⟩
          simp only [rels]
          refine ⟨u, us', r1, ?_, r3⟩
          have e : kv L = .view L.length 3 (kcell L) := rfl
          rw [e, ← hL.1]
          exact z3
end Go.Proofs.Ytlmanlpgknhfpaa
namespace Go.Proofs.Ytlmanlpgknhfpaa
open Go Go.RowKit Pl Sy
namespace Sy
theorem conV_frame {P : Program} {f : FuncId} {rest : List AV} {L X : List TokV} {v0 : AV} (h : CallTo P f (.ptr 0 0 :: rest) (wM L) fun v M' => v = v0 ∧ WrEnd M' (L ++ X)) (hf : Frees rest) (hv : Free v0) {M : Mem} {wb b n : Nat} {cell : Nat → Nat → AV} (h0 : M.get wb = some (wB b n)) (h1 : M.get b = some (rowB n cell)) (hc : CellIs n cell L) :
    CallTo P f (.ptr wb 0 :: rest) M fun v M' => v = v0 ∧ M' = wRes M wb b n cell X := by
  have hn := hc.1
  have hne : wb ≠ b := fun e => by subst e; rw [h0] at h1; cases h1
  refine CallTo.frameG (σ := nm [wb, b]) h ⟨⟨rfl, rfl⟩, RenVs.free _ hf⟩ (.of rfl rfl (by simp [hne]) ⟨⟨b, _, rfl, h1, rfl, trivial, hn.symm, rfl, fun i j hi hj => hc.free _ (by have hi : i < L.length := hi; omega) hj⟩, ⟨wb, _, rfl, h0, rfl, ⟨⟨rfl, hn, rfl⟩, trivial⟩, trivial⟩, trivial⟩) ?_ ?_
  · intro x c hx
    rcases x with _ | _ | x
    · exact ⟨_, rfl⟩
    · exact ⟨_, rfl⟩
    · cases hx
  · rintro v M2 ⟨rfl, b2, n2, cell2, q1, q2, q3, q4⟩
    have hn2 : n2 = n + X.length := by rw [q4.1, List.length_append, hn]
    subst hn2
    have hwt := Mem.get_lt h0
    have hbt := Mem.get_lt h1
    refine ⟨fun x => if x = wb then some 0 else if x = M.top then some b2 else none, _, _, ⟨rfl, rfl⟩, RenV.free _ hv, Nat.le_succ _, fun x c hx => ?_, fun x c hlt hx => ?_, fun x x' c hx hx' => ?_, fun x B' hx => ?_⟩
    · show x < M.top + 1
      split at hx
      · omega
      · split at hx
        · omega
        · cases hx
    · split at hx
      · rename_i e; subst e
        simp at hx; subst hx
        exact ⟨Nat.le_of_ble_eq_true rfl, rfl⟩
      · split at hx
        · omega
        · cases hx
    · split at hx <;> split at hx'
      · omega
      · split at hx'
        · simp at hx hx'; omega
        · cases hx'
      · split at hx
        · simp at hx hx'; omega
        · cases hx
      · split at hx
        · split at hx'
          · omega
          · cases hx'
        · cases hx
    · rcases wRes_get h0 h1 hne hx with ⟨rfl, rfl⟩ | ⟨rfl, rfl⟩ | ⟨e1, e2, e3, e4⟩
      · refine .inr ⟨b2, _, by rw [if_neg (by omega), if_pos rfl], q2, rfl, trivial, rfl, rfl, fun i j hi hj => ?_⟩
        exact q4.free' _ hi hj (hc.app (CellIs.kc X))
      · refine .inr ⟨0, _, by rw [if_pos rfl], q1, rfl, ⟨⟨?_, rfl, rfl⟩, trivial⟩, trivial⟩
        show (if M.top = x then some 0 else if M.top = M.top then some b2 else none) = some b2
        rw [if_neg (by omega), if_pos rfl]
      · refine .inl ⟨e1, fun c hc => ?_, e4⟩
        rcases c with _ | _ | c
        · have : some wb = some x := hc
          simp at this; omega
        · have : some b = some x := hc
          simp at this; omega
        · cases hc
abbrev wB0 : Blk := ⟨[.lit (.slice none 0 0)], 48, none⟩
noncomputable def wNil (M : Mem) (wb : Nat) : Mem := (M.push (rowB 0 (kcell []))).put wb (some (wB M.top 0))
theorem wNil_get {M : Mem} {wb : Nat} (h : M.get wb = some wB0) : (wNil M wb).get wb = some (wB M.top 0) ∧ (wNil M wb).get M.top = some (rowB 0 (kcell [])) := by
  have hlt := Mem.get_lt h
  have hlt' : wb < (M.push (rowB 0 (kcell []))).top := by show wb < M.top + 1; omega
  unfold wNil
  constructor
  · rw [Mem.put_def, Mem.get_def]
    simp only [if_pos hlt']
    have hlen : (M.push (rowB 0 (kcell []))).top - 1 - wb < (M.push (rowB 0 (kcell []))).bs.length := by
      have h2 := h
      rw [Mem.get_def, if_pos hlt] at h2
      have h3 : M.top - 1 - wb < M.bs.length := by
        rcases Nat.lt_or_ge (M.top - 1 - wb) M.bs.length with q | q
        · exact q
        · rw [List.getElem?_eq_none q] at h2; cases h2
      show M.top + 1 - 1 - wb < (_ :: M.bs).length
      simp only [List.length_cons]
      omega
    rw [List.getElem?_set_self hlen]
  · rw [Mem.get_put_ne _ hlt' (by omega), Mem.get_push_new]
theorem CallTo.nilc {P : Program} {f : FuncId} {args : List AV} {M : Mem} {wb : Nat} {G : AV → Mem → Prop} (hb : M.get wb = some wB0) (h : CallTo P f args (wNil M wb) G) : CallTo P f args M G := fun w0 ρ us w hr hW => by
  obtain ⟨h1, h2, h3⟩ := hW.virt 40 3 (kcell [])
  have hlt := Mem.get_lt hb
  have hlt' : wb < (M.push (rowB 0 (kcell []))).top := by show wb < M.top + 1; omega
  have h4 : WR w0 (nilled ρ M.top) (wNil M wb) w := by
    refine WR.swap h3 (Nat.le_refl _) fun b' B' hb' => ?_
    rcases Mem.get_put hlt' hb' with ⟨rfl, hB⟩ | ⟨hne, hB⟩
    · simp at hB; subst hB
      refine ⟨wB0, by rw [Mem.get_push_old _ _ hlt]; exact hb, rfl, fun cur hH => ⟨fun k v hv => ?_, hH.2⟩, .inr (by simp)⟩
      rcases k with _ | k
      · simp at hv; subst hv
        obtain ⟨u, q1, q2⟩ := hH.1 0 _ rfl
        refine ⟨u, q1, ?_⟩
        simp only [rel] at q2 ⊢
        exact .inl ⟨h2, trivial, q2⟩
      · simp at hv
    · exact ⟨B', hB, rfl, fun cur hH => hH, .inl rfl⟩
  refine (h w0 (nilled ρ M.top) us w (rels.ext h1 hr) h4).mono ?_
  rintro e w' ⟨ρ', u, v, M', q1, q2, q3, q4, q5⟩
  exact ⟨ρ', u, v, M', q1, h1.trans q2, q3, q4, q5⟩
noncomputable def wGet0 (args : List AV) (M : Mem) : Option (Nat × List AV) := match args with
  | .ptr wb 0 :: rest => (match M.get wb with
    | some ⟨[.lit (.slice none _ _)], e, none⟩ => (match Nat.beq e 48 with | true => some (wb, rest) | false => none)
    | _ => none)
  | _ => none
noncomputable def conV {Y : Type} (f : FuncId) (get : List AV → Option Y) (args0 : Y → List AV) (v0 : Y → AV) (X : Y → List TokV) (C : Y → Prop) (h : ∀ L y, C y → limT (L.length + (X y).length) → (Frees (args0 y) ∧ Free (v0 y)) ∧ CallTo Try.prog f (.ptr 0 0 :: args0 y) (wM L) fun v M' => v = v0 y ∧ WrEnd M' (L ++ X y)) : Con Try.prog where
  f := f
  run := fun args M => match wGet args M with
    | some x => (match get x.rest with
      | some y => some (v0 y, wRes M x.wb x.b x.n x.cell (X y))
      | none => none)
    | none => (match wGet0 args M with
      | some x => (match get x.2 with
        | some y => some (v0 y, wRes (wNil M x.1) x.1 M.top 0 (kcell []) (X y))
        | none => none)
      | none => none)
  ob := fun args M => match wGet args M with
    | some x => (match get x.rest with
      | some y => some (isSo (x.rest = args0 y ∧ TokRows x.n x.cell ∧ x.m = x.n ∧ C y ∧ limT (x.n + (X y).length)))
      | none => none)
    | none => (match wGet0 args M with
      | some x => (match get x.2 with
        | some y => some (isSo (x.2 = args0 y ∧ M.get x.1 = some wB0 ∧ C y ∧ limT (X y).length))
        | none => none)
      | none => none)
  ok := fun args M v M' hr hob => by
    cases hg : wGet args M with
    | none =>
      rw [hg] at hr hob
      simp only at hr hob
      cases hg0 : wGet0 args M with
      | none => rw [hg0] at hr; cases hr
      | some x =>
        rw [hg0] at hr hob
        cases hy : get x.2 with
        | none => simp only [hy] at hr; cases hr
        | some y =>
          simp only [hy] at hr hob
          simp at hr
          obtain ⟨rfl, rfl⟩ := hr
          have h1 := hob _ rfl
          rw [isSo_t] at h1
          obtain ⟨hrest, hb, hC, hl⟩ := h1
          have e : args = .ptr x.1 0 :: x.2 := by
            unfold wGet0 at hg0
            split at hg0
            · split at hg0
              · split at hg0
                · simp at hg0; subst hg0; rfl
                · cases hg0
              · cases hg0
            · cases hg0
          rw [e, hrest]
          obtain ⟨⟨hf, hv⟩, h2⟩ := h [] y hC (by rw [List.length_nil, Nat.zero_add]; exact hl)
          obtain ⟨g1, g2⟩ := wNil_get hb
          refine ⟨?_, CallTo.nilc hb (conV_frame h2 hf hv g1 g2 (CellIs.kc []))⟩
          unfold wRes wNil
          exact ((((Grow.push M _).trans (Grow.put _ _ _)).trans (Grow.put _ _ _)).trans (Grow.put _ _ _)).trans (Grow.push _ _)
    | some x =>
      rw [hg] at hr hob
      cases hy : get x.rest with
      | none => simp only [hy] at hr; cases hr
      | some y =>
        simp only [hy] at hr hob
        simp at hr
        obtain ⟨rfl, rfl⟩ := hr
        have h1 := hob _ rfl
        rw [isSo_t] at h1
        obtain ⟨hrest, ⟨L, hL⟩, hm, hC, hl⟩ := h1
        unfold wGet at hg
        split at hg
        · rename_i wb rest
          obtain ⟨rfl, e, g0, g1⟩ := wGet2_ok hg
          rw [hm] at g1
          rw [← e, hrest]
          obtain ⟨⟨hf, hv⟩, h2⟩ := h L y hC (by rw [← hL.1]; exact hl)
          refine ⟨?_, conV_frame h2 hf hv g0 g1 hL⟩
          unfold wRes
          exact ((Grow.put M _ _).trans (Grow.put _ _ _)).trans (Grow.push _ _)
        · cases hg
end Sy
noncomputable abbrev Sy.cPutV : Con Try.prog := conV 16 (fun r => match r with | [.lit (.int .i64 k), .lit (.string s), .lit (.int .i64 n)] => some (PutY.mk k s n) | _ => none) (fun y => [int y.k, .lit (.string y.s), int y.n]) (fun _ => .tup []) (fun y => [⟨y.k, y.s, y.n⟩]) (fun _ => True) fun L y _ hl => ⟨⟨⟨trivial, trivial, trivial, trivial⟩, trivial⟩, put_t L y.k y.s y.n hl⟩
end Go.Proofs.Ytlmanlpgknhfpaa
namespace Go.Proofs.Ytlmanlpgknhfpaa
open Go Go.RowKit Pl Sy
abbrev spT : TokV := ⟨20, ⟨#[]⟩, 0⟩
abbrev eqT : TokV := ⟨19, ⟨#[61]⟩, 0⟩
abbrev ltT : TokV := ⟨19, ⟨#[60]⟩, 0⟩
abbrev gtT : TokV := ⟨19, ⟨#[62]⟩, 0⟩
abbrev slT : TokV := ⟨19, ⟨#[47]⟩, 0⟩
abbrev opnT : TokV := ⟨13, ⟨#[]⟩, 0⟩
abbrev cloT : TokV := ⟨14, ⟨#[]⟩, 0⟩
abbrev idT (s : ByteArray) : TokV := ⟨1, s, 0⟩
def opT (o : Int) : List TokV := if o = 1 then [ltT] else if o = 2 then [ltT, eqT] else if o = 3 then [eqT] else if o = 4 then [gtT, eqT] else [gtT]
def valT (f n d : Int) : List TokV := if f = 5 then [⟨7, ⟨#[]⟩, n⟩, spT, slT, spT, ⟨7, ⟨#[]⟩, d⟩] else [⟨9, ⟨#[112, 120]⟩, n⟩]
def trnT (n : Int) : List TokV := [⟨10, ⟨#[]⟩, 0⟩, spT, idT (if n = 1 then ⟨#[112, 111, 114, 116, 114, 97, 105, 116]⟩ else ⟨#[108, 97, 110, 100, 115, 99, 97, 112, 101]⟩)]
theorem opT_len (o : Int) : (opT o).length ≤ 2 := by unfold opT; (repeat' split) <;> simp
theorem valT_len (f n d : Int) : (valT f n d).length ≤ 5 := by unfold valT; split <;> simp
theorem Sy.wsp_t (L : List TokV) (hl : limT (L.length + 1)) : CallTo Try.prog 17 [.ptr 0 0] (wM L) fun v M' => v = .tup [] ∧ WrEnd M' (L ++ [spT]) :=
  to (G := fun r => r.1 = .tup [] ∧ WrEnd r.2 (L ++ [spT])) [cPutV] [] 400 30 (.yes .done) (.need (@isSo (@And ([(int (20 : Int)), (@AV.lit (@Value.string (@ByteArray.mk (@Array.mk _ [])))), (int (0 : Int))] = [(int (20 : Int)), (@AV.lit (@Value.string (@ByteArray.mk (@Array.mk _ [])))), (int (0 : Int))]) (@And (@TokRows (L).length (@kcell L)) (@And ((L).length = (L).length) (@And True (((L).length + 1) ≤ 1000000)))))) (.leaf ((@AV.tup []), (@Mem.mk (2 + 1) ((0 + 1) + 1) ((some (@Blk.mk [] 40 (some (@Rw.mk ((L).length + 1) 3 (@appc (L).length (@kcell L) (@kcell [(@TokV.mk (20 : Int) (@ByteArray.mk (@Array.mk _ [])) (0 : Int))])))))) :: [none, (some (@Blk.mk [(@AV.own 2 ((L).length + 1) 3)] 48 none))]))))) (by kernel_rfl) (by
    unfold limT at hl
    exact (need_so ⟨rfl, (by repeat' (first | exact TokRows.kc _ | refine TokRows.app ?_ rfl)), rfl, trivial, (by (try unfold limT); (try simp only [List.length_cons, List.length_nil] at *); omega)⟩ ⟨rfl, _, _, _, rfl, rfl, by decide, CellIs.cast (CellIs.app2 (CellIs.kc _) rfl) (by simp [])⟩))
noncomputable abbrev Sy.cSp : Con Try.prog := conV 17 (fun r => match r with | [] => some () | _ => none) (fun _ => []) (fun _ => .tup []) (fun _ => [spT]) (fun _ => True) fun L y _ hl => ⟨⟨trivial, trivial⟩, wsp_t L hl⟩
theorem Sy.wop_t (L : List TokV) (o : Int) (h0 : 1 ≤ o) (h5 : o ≤ 5) (hl : limT (L.length + (opT o).length)) : CallTo Try.prog 64 [.ptr 0 0, int o] (wM L) fun v M' => v = .tup [] ∧ WrEnd M' (L ++ opT o) := by
  unfold limT at hl
  have hc : o = 1 ∨ o = 2 ∨ o = 3 ∨ o = 4 ∨ o = 5 := by omega
  rcases hc with rfl | rfl | rfl | rfl | rfl <;> simp [opT] at hl
  · exact to (G := fun r => r.1 = .tup [] ∧ WrEnd r.2 (L ++ opT 1)) [cPutV] [] 400 30 (.auto 1 (.yes (.auto 3 .done))) (.need (@isSo (@And ([(int (19 : Int)), (@AV.lit (@Value.string (@ByteArray.mk (@Array.mk _ [(60 : UInt8)])))), (int (0 : Int))] = [(int (19 : Int)), (@AV.lit (@Value.string (@ByteArray.mk (@Array.mk _ [(60 : UInt8)])))), (int (0 : Int))]) (@And (@TokRows (L).length (@kcell L)) (@And ((L).length = (L).length) (@And True (((L).length + 1) ≤ 1000000)))))) (.leaf ((@AV.tup []), (@Mem.mk (2 + 1) ((0 + 1) + 1) ((some (@Blk.mk [] 40 (some (@Rw.mk ((L).length + 1) 3 (@appc (L).length (@kcell L) (@kcell [(@TokV.mk (19 : Int) (@ByteArray.mk (@Array.mk _ [(60 : UInt8)])) (0 : Int))])))))) :: [none, (some (@Blk.mk [(@AV.own 2 ((L).length + 1) 3)] 48 none))]))))) (by kernel_rfl) (need_so ⟨rfl, (by repeat' (first | exact TokRows.kc _ | refine TokRows.app ?_ rfl)), rfl, trivial, (by (try unfold limT); (try simp only [List.length_cons, List.length_nil] at *); omega)⟩ ⟨rfl, _, _, _, rfl, rfl, by decide, CellIs.cast (CellIs.app2 (CellIs.kc _) rfl) (by simp [opT])⟩)
  · exact to (G := fun r => r.1 = .tup [] ∧ WrEnd r.2 (L ++ opT 2)) [cPutV] [] 400 30 (.auto 1 (.yes (.auto 3 (.yes .done)))) (let e1 := (int (19 : Int)); let e2 := (@ByteArray.mk (@Array.mk _ [(60 : UInt8)])); let e3 := (int (0 : Int)); let e4 := ((L).length + 1); let e5 := (@ByteArray.mk (@Array.mk _ [(61 : UInt8)])); let e6 := (@appc (L).length (@kcell L) (@kcell [(@TokV.mk (19 : Int) e2 (0 : Int))])); (.need (@isSo (@And ([e1, (@AV.lit (@Value.string e2)), e3] = [e1, (@AV.lit (@Value.string e2)), e3]) (@And (@TokRows (L).length (@kcell L)) (@And ((L).length = (L).length) (@And True (e4 ≤ 1000000)))))) (.need (@isSo (@And ([e1, (@AV.lit (@Value.string e5)), e3] = [e1, (@AV.lit (@Value.string e5)), e3]) (@And (@TokRows e4 e6) (@And (e4 = e4) (@And True ((e4 + 1) ≤ 1000000)))))) (.leaf ((@AV.tup []), (@Mem.mk ((2 + 1) + 1) ((((0 + 1) + 1) + 1) + 1) ((some (@Blk.mk [] 40 (some (@Rw.mk (e4 + 1) 3 (@appc e4 e6 (@kcell [(@TokV.mk (19 : Int) e5 (0 : Int))])))))) :: (none :: [none, (some (@Blk.mk [(@AV.own (2 + 1) (e4 + 1) 3)] 48 none))])))))))) (by kernel_rfl) (need_so ⟨rfl, (by repeat' (first | exact TokRows.kc _ | refine TokRows.app ?_ rfl)), rfl, trivial, (by (try unfold limT); (try simp only [List.length_cons, List.length_nil] at *); omega)⟩ (need_so ⟨rfl, (by repeat' (first | exact TokRows.kc _ | refine TokRows.app ?_ rfl)), rfl, trivial, (by (try unfold limT); (try simp only [List.length_cons, List.length_nil] at *); omega)⟩ ⟨rfl, _, _, _, rfl, rfl, by decide, CellIs.cast (CellIs.app2 (CellIs.app2 (CellIs.kc _) rfl) rfl) (by simp [opT])⟩))
  · exact to (G := fun r => r.1 = .tup [] ∧ WrEnd r.2 (L ++ opT 3)) [cPutV] [] 400 30 (.auto 7 (.yes .done)) (.need (@isSo (@And ([(int (19 : Int)), (@AV.lit (@Value.string (@ByteArray.mk (@Array.mk _ [(61 : UInt8)])))), (int (0 : Int))] = [(int (19 : Int)), (@AV.lit (@Value.string (@ByteArray.mk (@Array.mk _ [(61 : UInt8)])))), (int (0 : Int))]) (@And (@TokRows (L).length (@kcell L)) (@And ((L).length = (L).length) (@And True (((L).length + 1) ≤ 1000000)))))) (.leaf ((@AV.tup []), (@Mem.mk (2 + 1) ((0 + 1) + 1) ((some (@Blk.mk [] 40 (some (@Rw.mk ((L).length + 1) 3 (@appc (L).length (@kcell L) (@kcell [(@TokV.mk (19 : Int) (@ByteArray.mk (@Array.mk _ [(61 : UInt8)])) (0 : Int))])))))) :: [none, (some (@Blk.mk [(@AV.own 2 ((L).length + 1) 3)] 48 none))]))))) (by kernel_rfl) (need_so ⟨rfl, (by repeat' (first | exact TokRows.kc _ | refine TokRows.app ?_ rfl)), rfl, trivial, (by (try unfold limT); (try simp only [List.length_cons, List.length_nil] at *); omega)⟩ ⟨rfl, _, _, _, rfl, rfl, by decide, CellIs.cast (CellIs.app2 (CellIs.kc _) rfl) (by simp [opT])⟩)
  · exact to (G := fun r => r.1 = .tup [] ∧ WrEnd r.2 (L ++ opT 4)) [cPutV] [] 400 30 (.auto 3 (.yes (.auto 3 (.yes .done)))) (let e1 := (int (19 : Int)); let e2 := (@ByteArray.mk (@Array.mk _ [(62 : UInt8)])); let e3 := (int (0 : Int)); let e4 := ((L).length + 1); let e5 := (@ByteArray.mk (@Array.mk _ [(61 : UInt8)])); let e6 := (@appc (L).length (@kcell L) (@kcell [(@TokV.mk (19 : Int) e2 (0 : Int))])); (.need (@isSo (@And ([e1, (@AV.lit (@Value.string e2)), e3] = [e1, (@AV.lit (@Value.string e2)), e3]) (@And (@TokRows (L).length (@kcell L)) (@And ((L).length = (L).length) (@And True (e4 ≤ 1000000)))))) (.need (@isSo (@And ([e1, (@AV.lit (@Value.string e5)), e3] = [e1, (@AV.lit (@Value.string e5)), e3]) (@And (@TokRows e4 e6) (@And (e4 = e4) (@And True ((e4 + 1) ≤ 1000000)))))) (.leaf ((@AV.tup []), (@Mem.mk ((2 + 1) + 1) ((((0 + 1) + 1) + 1) + 1) ((some (@Blk.mk [] 40 (some (@Rw.mk (e4 + 1) 3 (@appc e4 e6 (@kcell [(@TokV.mk (19 : Int) e5 (0 : Int))])))))) :: (none :: [none, (some (@Blk.mk [(@AV.own (2 + 1) (e4 + 1) 3)] 48 none))])))))))) (by kernel_rfl) (need_so ⟨rfl, (by repeat' (first | exact TokRows.kc _ | refine TokRows.app ?_ rfl)), rfl, trivial, (by (try unfold limT); (try simp only [List.length_cons, List.length_nil] at *); omega)⟩ (need_so ⟨rfl, (by repeat' (first | exact TokRows.kc _ | refine TokRows.app ?_ rfl)), rfl, trivial, (by (try unfold limT); (try simp only [List.length_cons, List.length_nil] at *); omega)⟩ ⟨rfl, _, _, _, rfl, rfl, by decide, CellIs.cast (CellIs.app2 (CellIs.app2 (CellIs.kc _) rfl) rfl) (by simp [opT])⟩))
  · exact to (G := fun r => r.1 = .tup [] ∧ WrEnd r.2 (L ++ opT 5)) [cPutV] [] 400 30 (.auto 3 (.yes (.auto 3 .done))) (.need (@isSo (@And ([(int (19 : Int)), (@AV.lit (@Value.string (@ByteArray.mk (@Array.mk _ [(62 : UInt8)])))), (int (0 : Int))] = [(int (19 : Int)), (@AV.lit (@Value.string (@ByteArray.mk (@Array.mk _ [(62 : UInt8)])))), (int (0 : Int))]) (@And (@TokRows (L).length (@kcell L)) (@And ((L).length = (L).length) (@And True (((L).length + 1) ≤ 1000000)))))) (.leaf ((@AV.tup []), (@Mem.mk (2 + 1) ((0 + 1) + 1) ((some (@Blk.mk [] 40 (some (@Rw.mk ((L).length + 1) 3 (@appc (L).length (@kcell L) (@kcell [(@TokV.mk (19 : Int) (@ByteArray.mk (@Array.mk _ [(62 : UInt8)])) (0 : Int))])))))) :: [none, (some (@Blk.mk [(@AV.own 2 ((L).length + 1) 3)] 48 none))]))))) (by kernel_rfl) (need_so ⟨rfl, (by repeat' (first | exact TokRows.kc _ | refine TokRows.app ?_ rfl)), rfl, trivial, (by (try unfold limT); (try simp only [List.length_cons, List.length_nil] at *); omega)⟩ ⟨rfl, _, _, _, rfl, rfl, by decide, CellIs.cast (CellIs.app2 (CellIs.kc _) rfl) (by simp [opT])⟩)
noncomputable abbrev Sy.cWop : Con Try.prog := conV 64 (fun r => match r with | [.lit (.int .i64 o)] => some o | _ => none) (fun o => [int o]) (fun _ => .tup []) (fun o => opT o) (fun o => 1 ≤ o ∧ o ≤ 5) fun L o h hl => ⟨⟨⟨trivial, trivial⟩, trivial⟩, wop_t L o h.1 h.2 hl⟩
theorem Sy.wval_t (L : List TokV) (f o n e : Int) (hl : limT (L.length + (valT f n e).length)) : CallTo Try.prog 63 [.ptr 0 0, int f, .agg [int o, int n, int e]] (wM L) fun v M' => v = .tup [] ∧ WrEnd M' (L ++ valT f n e) :=
  to (G := fun r => r.1 = .tup [] ∧ WrEnd r.2 (L ++ valT f n e)) [cPutV] [] 400 30 (.br (.yes .done) (.yes (.yes (.yes (.yes (.yes .done)))))) (let e1 := (@ByteArray.mk (@Array.mk _ [(112 : UInt8), (120 : UInt8)])); let e2 := (@TokRows (L).length (@kcell L)); let e3 := (@TokV.mk (Int.ofNat 9) e1 n); let e4 := ((L).length + ([e3]).length); let e5 := (some (@Blk.mk [(int o), (int n), (int e)] 43 none)); let e6 := (@ByteArray.mk (@Array.mk _ [])); let e7 := (@AV.lit (@Value.string e6)); let e8 := (@TokV.mk (Int.ofNat 7) e6 n); let e9 := ((L).length + ([e8]).length); let e10 := (int (0 : Int)); let e11 := ([(int (20 : Int)), e7, e10] = [(int (20 : Int)), e7, e10]); let e12 := (@appc (L).length (@kcell L) (@kcell [e8])); let e13 := (@ByteArray.mk (@Array.mk _ [(47 : UInt8)])); let e14 := (@AV.lit (@Value.string e13)); let e15 := (@kcell [(@TokV.mk (20 : Int) e6 (0 : Int))]); let e16 := ((e9 + 1) + 1); let e17 := (@appc (e9 + 1) (@appc e9 e12 e15) (@kcell [(@TokV.mk (19 : Int) e13 (0 : Int))])); let e18 := (e16 + 1); let e19 := (@TokV.mk (Int.ofNat 7) e6 e); let e20 := (e18 + ([e19]).length); let e21 := (((((2 + 1) + 1) + 1) + 1) + 1); (.fork (!(eqI f (5 : Int))) (.need (@isSo (@And ([(int (9 : Int)), (@AV.lit (@Value.string e1)), (int n)] = [(int (Int.ofNat 9)), (@AV.lit (@Value.string e1)), (int n)]) (@And e2 (@And ((L).length = (L).length) (@And True (e4 ≤ 1000000)))))) (.leaf ((@AV.tup []), (@Mem.mk ((2 + 1) + 1) ((0 + 1) + 1) ((some (@Blk.mk [] 40 (some (@Rw.mk e4 3 (@appc (L).length (@kcell L) (@kcell [e3])))))) :: [e5, none, (some (@Blk.mk [(@AV.own (2 + 1) e4 3)] 48 none))]))))) (.need (@isSo (@And ([(int (7 : Int)), e7, (int n)] = [(int (Int.ofNat 7)), e7, (int n)]) (@And e2 (@And ((L).length = (L).length) (@And True (e9 ≤ 1000000)))))) (.need (@isSo (@And e11 (@And (@TokRows e9 e12) (@And (e9 = e9) (@And True ((e9 + 1) ≤ 1000000)))))) (.need (@isSo (@And ([(int (19 : Int)), e14, e10] = [(int (19 : Int)), e14, e10]) (@And (@TokRows (e9 + 1) (@appc e9 e12 e15)) (@And ((e9 + 1) = (e9 + 1)) (@And True (e16 ≤ 1000000)))))) (.need (@isSo (@And e11 (@And (@TokRows e16 e17) (@And (e16 = e16) (@And True (e18 ≤ 1000000)))))) (.need (@isSo (@And ([(int (7 : Int)), e7, (int e)] = [(int (Int.ofNat 7)), e7, (int e)]) (@And (@TokRows e18 (@appc e16 e17 e15)) (@And (e18 = e18) (@And True (e20 ≤ 1000000)))))) (.leaf ((@AV.tup []), (@Mem.mk (e21 + 1) ((((((((((0 + 1) + 1) + 1) + 1) + 1) + 1) + 1) + 1) + 1) + 1) ((some (@Blk.mk [] 40 (some (@Rw.mk e20 3 (@appc e18 (@appc e16 e17 e15) (@kcell [e19])))))) :: (none :: (none :: (none :: (none :: [e5, none, (some (@Blk.mk [(@AV.own e21 e20 3)] 48 none))]))))))))))))))) (by kernel_rfl) (by
    unfold limT valT at hl
    unfold valT
    refine fork_ok (fun c => ?_) (fun c => ?_)
    · have c := n_t c
      rw [eqI_f] at c
      rw [if_neg c] at hl ⊢
      simp only [List.length_cons, List.length_nil] at hl
      exact (need_so ⟨rfl, (by repeat' (first | exact TokRows.kc _ | refine TokRows.app ?_ rfl)), rfl, trivial, (by (try unfold limT); (try simp only [List.length_cons, List.length_nil] at *); omega)⟩ ⟨rfl, _, _, _, rfl, rfl, by decide, CellIs.cast (CellIs.app2 (CellIs.kc _) rfl) (by simp [])⟩)
    · have c := n_f c
      rw [eqI_t] at c
      rw [if_pos c] at hl ⊢
      simp only [List.length_cons, List.length_nil] at hl
      exact (need_so ⟨rfl, (by repeat' (first | exact TokRows.kc _ | refine TokRows.app ?_ rfl)), rfl, trivial, (by (try unfold limT); (try simp only [List.length_cons, List.length_nil] at *); omega)⟩ (need_so ⟨rfl, (by repeat' (first | exact TokRows.kc _ | refine TokRows.app ?_ rfl)), rfl, trivial, (by (try unfold limT); (try simp only [List.length_cons, List.length_nil] at *); omega)⟩ (need_so ⟨rfl, (by repeat' (first | exact TokRows.kc _ | refine TokRows.app ?_ rfl)), rfl, trivial, (by (try unfold limT); (try simp only [List.length_cons, List.length_nil] at *); omega)⟩ (need_so ⟨rfl, (by repeat' (first | exact TokRows.kc _ | refine TokRows.app ?_ rfl)), rfl, trivial, (by (try unfold limT); (try simp only [List.length_cons, List.length_nil] at *); omega)⟩ (need_so ⟨rfl, (by repeat' (first | exact TokRows.kc _ | refine TokRows.app ?_ rfl)), rfl, trivial, (by (try unfold limT); (try simp only [List.length_cons, List.length_nil] at *); omega)⟩ ⟨rfl, _, _, _, rfl, rfl, by decide, CellIs.cast (CellIs.app2 (CellIs.app2 (CellIs.app2 (CellIs.app2 (CellIs.app2 (CellIs.kc _) rfl) rfl) rfl) rfl) rfl) (by simp [])⟩))))))
structure BnY where
  f : Int
  o : Int
  n : Int
  e : Int
noncomputable abbrev Sy.cWval : Con Try.prog := conV 63 (fun r => match r with | [.lit (.int .i64 f), .agg [.lit (.int .i64 o), .lit (.int .i64 n), .lit (.int .i64 e)]] => some (BnY.mk f o n e) | _ => none) (fun y => [int y.f, .agg [int y.o, int y.n, int y.e]]) (fun _ => .tup []) (fun y => valT y.f y.n y.e) (fun _ => True) fun L y _ hl => ⟨⟨⟨trivial, ⟨trivial, trivial, trivial, trivial⟩, trivial⟩, trivial⟩, wval_t L y.f y.o y.n y.e hl⟩
theorem Sy.wtrn_t (L : List TokV) (o n e : Int) (hl : limT (L.length + (trnT n).length)) : CallTo Try.prog 66 [.ptr 0 0, .agg [int o, int n, int e]] (wM L) fun v M' => v = .tup [] ∧ WrEnd M' (L ++ trnT n) :=
  to (G := fun r => r.1 = .tup [] ∧ WrEnd r.2 (L ++ trnT n)) [cPutV] [] 400 30 (.yes (.yes (.br (.yes .done) (.yes .done)))) (let e1 := (@ByteArray.mk (@Array.mk _ [])); let e2 := (@AV.lit (@Value.string e1)); let e3 := (int (0 : Int)); let e4 := ((L).length + 1); let e5 := (@appc (L).length (@kcell L) (@kcell [(@TokV.mk (10 : Int) e1 (0 : Int))])); let e6 := (int (1 : Int)); let e7 := (@ByteArray.mk (@Array.mk _ [(112 : UInt8), (111 : UInt8), (114 : UInt8), (116 : UInt8), (114 : UInt8), (97 : UInt8), (105 : UInt8), (116 : UInt8)])); let e8 := (@appc e4 e5 (@kcell [(@TokV.mk (20 : Int) e1 (0 : Int))])); let e9 := ((e4 + 1) + 1); let e10 := (@And (@TokRows (e4 + 1) e8) (@And ((e4 + 1) = (e4 + 1)) (@And True (e9 ≤ 1000000)))); let e11 := ((((((0 + 1) + 1) + 1) + 1) + 1) + 1); let e12 := (@ByteArray.mk (@Array.mk _ [(108 : UInt8), (97 : UInt8), (110 : UInt8), (100 : UInt8), (115 : UInt8), (99 : UInt8), (97 : UInt8), (112 : UInt8), (101 : UInt8)])); let e13 := (@AV.lit (@Value.string e12)); (.need (@isSo (@And ([(int (10 : Int)), e2, e3] = [(int (10 : Int)), e2, e3]) (@And (@TokRows (L).length (@kcell L)) (@And ((L).length = (L).length) (@And True (e4 ≤ 1000000)))))) (.need (@isSo (@And ([(int (20 : Int)), e2, e3] = [(int (20 : Int)), e2, e3]) (@And (@TokRows e4 e5) (@And (e4 = e4) (@And True ((e4 + 1) ≤ 1000000)))))) (.fork (eqI n (1 : Int)) (.need (@isSo (@And ([e6, (@AV.lit (@Value.string e7)), e3] = [e6, (@AV.lit (@Value.string e7)), e3]) e10)) (.leaf ((@AV.tup []), (@Mem.mk ((((2 + 1) + 1) + 1) + 1) e11 ((some (@Blk.mk [] 40 (some (@Rw.mk e9 3 (@appc (e4 + 1) e8 (@kcell [(@TokV.mk (1 : Int) e7 (0 : Int))])))))) :: (none :: (none :: [(some (@Blk.mk [(int o), (int n), (int e)] 43 none)), none, (some (@Blk.mk [(@AV.own (((2 + 1) + 1) + 1) e9 3)] 48 none))]))))))) (.need (@isSo (@And ([e6, e13, e3] = [e6, e13, e3]) e10)) (.leaf ((@AV.tup []), (@Mem.mk ((((2 + 1) + 1) + 1) + 1) e11 ((some (@Blk.mk [] 40 (some (@Rw.mk e9 3 (@appc (e4 + 1) e8 (@kcell [(@TokV.mk (1 : Int) e12 (0 : Int))])))))) :: (none :: (none :: [(some (@Blk.mk [(int o), (int n), (int e)] 43 none)), none, (some (@Blk.mk [(@AV.own (((2 + 1) + 1) + 1) e9 3)] 48 none))]))))))))))) (by kernel_rfl) (by
    unfold limT trnT at hl
    simp only [List.length_cons, List.length_nil] at hl
    unfold trnT
    refine need_so ⟨rfl, (by repeat' (first | exact TokRows.kc _ | refine TokRows.app ?_ rfl)), rfl, trivial, (by (try unfold limT); (try simp only [List.length_cons, List.length_nil] at *); omega)⟩ (need_so ⟨rfl, (by repeat' (first | exact TokRows.kc _ | refine TokRows.app ?_ rfl)), rfl, trivial, (by (try unfold limT); (try simp only [List.length_cons, List.length_nil] at *); omega)⟩ (fork_ok (fun c => ?_) (fun c => ?_)))
    · rw [eqI_t] at c
      rw [if_pos c]
      exact (need_so ⟨rfl, (by repeat' (first | exact TokRows.kc _ | refine TokRows.app ?_ rfl)), rfl, trivial, (by (try unfold limT); (try simp only [List.length_cons, List.length_nil] at *); omega)⟩ ⟨rfl, _, _, _, rfl, rfl, by decide, CellIs.cast (CellIs.app2 (CellIs.app2 (CellIs.app2 (CellIs.kc _) rfl) rfl) rfl) (by simp [])⟩)
    · rw [eqI_f] at c
      rw [if_neg c]
      exact (need_so ⟨rfl, (by repeat' (first | exact TokRows.kc _ | refine TokRows.app ?_ rfl)), rfl, trivial, (by (try unfold limT); (try simp only [List.length_cons, List.length_nil] at *); omega)⟩ ⟨rfl, _, _, _, rfl, rfl, by decide, CellIs.cast (CellIs.app2 (CellIs.app2 (CellIs.app2 (CellIs.kc _) rfl) rfl) rfl) (by simp [])⟩))
structure OnY where
  o : Int
  n : Int
  e : Int
noncomputable abbrev Sy.cWtrn : Con Try.prog := conV 66 (fun r => match r with | [.agg [.lit (.int .i64 o), .lit (.int .i64 n), .lit (.int .i64 e)]] => some (OnY.mk o n e) | _ => none) (fun y => [.agg [int y.o, int y.n, int y.e]]) (fun _ => .tup []) (fun y => trnT y.n) (fun _ => True) fun L y _ hl => ⟨⟨⟨⟨trivial, trivial, trivial, trivial⟩, trivial⟩, trivial⟩, wtrn_t L y.o y.n y.e hl⟩
def loT (q : QNodeV) : List TokV := if leI q.lo 0 = true then [] else valT q.feat q.ln q.ld ++ ([spT] ++ (opT q.lo ++ [spT]))
def hiT (q : QNodeV) : List TokV := if q.ho = 0 then [] else if q.feat = 6 then trnT q.hn else [spT] ++ (opT q.ho ++ ([spT] ++ valT q.feat q.hn q.hd))
def feaT (q : QNodeV) : List TokV := [opnT] ++ (loT q ++ ([idT (featS q.feat)] ++ (hiT q ++ [cloT])))
def OpsIn (q : QNodeV) : Prop := (0 < q.lo → q.lo ≤ 5) ∧ (q.ho ≠ 0 → 1 ≤ q.ho ∧ q.ho ≤ 5)
theorem Sy.wfea_t (L : List TokV) (q : QNodeV) (hq : OpsIn q) (hl : limT (L.length + (feaT q).length)) : CallTo Try.prog 36 [.ptr 0 0, qG q] (wM L) fun v M' => v = .tup [] ∧ WrEnd M' (L ++ feaT q) :=
  to (G := fun r => r.1 = .tup [] ∧ WrEnd r.2 (L ++ feaT q)) [cPutV, cSp, cWop, cWval, cWtrn, cFea] [] 400 30 (.yes (.br (.yes (.yes (.yes (.yes (.yes (.br (.yes .done) (.br (.yes (.yes .done)) (.yes (.yes (.yes (.yes (.yes .done)))))))))))) (.yes (.br (.yes .done) (.br (.yes (.yes .done)) (.yes (.yes (.yes (.yes (.yes .done)))))))))) (let e1 := (@ByteArray.mk (@Array.mk _ [])); let e2 := (@AV.lit (@Value.string e1)); let e3 := (int (0 : Int)); let e4 := ((L).length + 1); let e5 := (int (q).feat); let e6 := (@AV.agg [(int (q).lo), (int (q).ln), (int (q).ld)]); let e7 := (@appc (L).length (@kcell L) (@kcell [(@TokV.mk (13 : Int) e1 (0 : Int))])); let e8 := (@valT (q).feat (q).ln (q).ld); let e9 := (e4 + (e8).length); let e10 := (([] : List AV) = []); let e11 := (@kcell [spT]); let e12 := (@appc e9 (@appc e4 e7 (@kcell e8)) e11); let e13 := ((e9 + 1) + ((@opT (q).lo)).length); let e14 := (@appc (e9 + 1) e12 (@kcell (@opT (q).lo))); let e15 := (e13 + 1); let e16 := (@AV.lit (@Value.string (@featS (q).feat))); let e17 := ([(int (1 : Int)), e16, e3] = [(int (Int.ofNat 1)), e16, (int (Int.ofNat 0))]); let e18 := (@TokV.mk (Int.ofNat 1) (@featS (q).feat) (Int.ofNat 0)); let e19 := (e15 + ([e18]).length); let e20 := ([(int (14 : Int)), e2, e3] = [(int (14 : Int)), e2, e3]); let e21 := (@appc e15 (@appc e13 e14 e11) (@kcell [e18])); let e22 := (e19 + 1); let e23 := (@And (@TokRows e19 e21) (@And (e19 = e19) (@And True (e22 ≤ 1000000)))); let e24 := (@AV.tup []); let e25 := ((((2 + 1) + 1) + 1) + 1); let e26 := (((e25 + 1) + 1) + 1); let e27 := ((((((0 + 1) + 1) + 1) + 1) + 1) + 1); let e28 := ((((((((e27 + 1) + 1) + 1) + 1) + 1) + 1) + 1) + 1); let e29 := (@kcell [(@TokV.mk (14 : Int) e1 (0 : Int))]); let e30 := (some (@Blk.mk [(int (q).kind), (int (q).count), e5, (int (q).lo), (int (q).ln), (int (q).ld), (int (q).ho), (int (q).hn), (int (q).hd)] 45 none)); let e31 := (@AV.agg [(int (q).ho), (int (q).hn), (int (q).hd)]); let e32 := (e19 + ((@trnT (q).hn)).length); let e33 := (@appc e19 e21 (@kcell (@trnT (q).hn))); let e34 := ([(int (q).ho)] = [(int (q).ho)]); let e35 := (@And ((1 : Int) ≤ (q).ho) ((q).ho ≤ (5 : Int))); let e36 := (e22 + ((@opT (q).ho)).length); let e37 := (@appc e22 (@appc e19 e21 e11) (@kcell (@opT (q).ho))); let e38 := (e36 + 1); let e39 := (@valT (q).feat (q).hn (q).hd); let e40 := (e38 + (e39).length); let e41 := (@appc e38 (@appc e36 e37 e11) (@kcell e39)); let e42 := (e4 + ([e18]).length); let e43 := (@appc e4 e7 (@kcell [e18])); let e44 := (e42 + 1); let e45 := (@And (@TokRows e42 e43) (@And (e42 = e42) (@And True (e44 ≤ 1000000)))); let e46 := (e42 + ((@trnT (q).hn)).length); let e47 := (@appc e42 e43 (@kcell (@trnT (q).hn))); let e48 := (e44 + ((@opT (q).ho)).length); let e49 := (@appc e44 (@appc e42 e43 e11) (@kcell (@opT (q).ho))); let e50 := (e48 + 1); let e51 := (e50 + (e39).length); let e52 := (@appc e50 (@appc e48 e49 e11) (@kcell e39)); (.need (@isSo (@And ([(int (13 : Int)), e2, e3] = [(int (13 : Int)), e2, e3]) (@And (@TokRows (L).length (@kcell L)) (@And ((L).length = (L).length) (@And True (e4 ≤ 1000000)))))) (.fork (!(leI (q).lo (0 : Int))) (.need (@isSo (@And ([e5, e6] = [e5, e6]) (@And (@TokRows e4 e7) (@And (e4 = e4) (@And True (e9 ≤ 1000000)))))) (.need (@isSo (@And e10 (@And (@TokRows e9 (@appc e4 e7 (@kcell e8))) (@And (e9 = e9) (@And True ((e9 + 1) ≤ 1000000)))))) (.need (@isSo (@And ([(int (q).lo)] = [(int (q).lo)]) (@And (@TokRows (e9 + 1) e12) (@And ((e9 + 1) = (e9 + 1)) (@And (@And ((1 : Int) ≤ (q).lo) ((q).lo ≤ (5 : Int))) (e13 ≤ 1000000)))))) (.need (@isSo (@And e10 (@And (@TokRows e13 e14) (@And (e13 = e13) (@And True (e15 ≤ 1000000)))))) (.need (@isSo (@And e17 (@And (@TokRows e15 (@appc e13 e14 e11)) (@And (e15 = e15) (@And True (e19 ≤ 1000000)))))) (.fork (eqI (q).ho (0 : Int)) (.need (@isSo (@And e20 e23)) (.leaf (e24, (@Mem.mk (e26 + 1) e28 ((some (@Blk.mk [] 40 (some (@Rw.mk e22 3 (@appc e19 e21 e29))))) :: (none :: (none :: (none :: (none :: (none :: (none :: [e30, none, (some (@Blk.mk [(@AV.own e26 e22 3)] 48 none))]))))))))))) (.fork (eqI (q).feat (6 : Int)) (.need (@isSo (@And ([e31] = [e31]) (@And (@TokRows e19 e21) (@And (e19 = e19) (@And True (e32 ≤ 1000000)))))) (.need (@isSo (@And e20 (@And (@TokRows e32 e33) (@And (e32 = e32) (@And True ((e32 + 1) ≤ 1000000)))))) (.leaf (e24, (@Mem.mk ((e26 + 1) + 1) ((e28 + 1) + 1) ((some (@Blk.mk [] 40 (some (@Rw.mk (e32 + 1) 3 (@appc e32 e33 e29))))) :: (none :: (none :: (none :: (none :: (none :: (none :: (none :: [e30, none, (some (@Blk.mk [(@AV.own (e26 + 1) (e32 + 1) 3)] 48 none))]))))))))))))) (.need (@isSo (@And e10 e23)) (.need (@isSo (@And e34 (@And (@TokRows e22 (@appc e19 e21 e11)) (@And (e22 = e22) (@And e35 (e36 ≤ 1000000)))))) (.need (@isSo (@And e10 (@And (@TokRows e36 e37) (@And (e36 = e36) (@And True (e38 ≤ 1000000)))))) (.need (@isSo (@And ([e5, e31] = [e5, e31]) (@And (@TokRows e38 (@appc e36 e37 e11)) (@And (e38 = e38) (@And True (e40 ≤ 1000000)))))) (.need (@isSo (@And e20 (@And (@TokRows e40 e41) (@And (e40 = e40) (@And True ((e40 + 1) ≤ 1000000)))))) (.leaf (e24, (@Mem.mk (((((e26 + 1) + 1) + 1) + 1) + 1) ((((((((e28 + 1) + 1) + 1) + 1) + 1) + 1) + 1) + 1) ((some (@Blk.mk [] 40 (some (@Rw.mk (e40 + 1) 3 (@appc e40 e41 e29))))) :: (none :: (none :: (none :: (none :: (none :: (none :: (none :: (none :: (none :: (none :: [e30, none, (some (@Blk.mk [(@AV.own ((((e26 + 1) + 1) + 1) + 1) (e40 + 1) 3)] 48 none))])))))))))))))))))))))))))) (.need (@isSo (@And e17 (@And (@TokRows e4 e7) (@And (e4 = e4) (@And True (e42 ≤ 1000000)))))) (.fork (eqI (q).ho (0 : Int)) (.need (@isSo (@And e20 e45)) (.leaf (e24, (@Mem.mk e25 e27 ((some (@Blk.mk [] 40 (some (@Rw.mk e44 3 (@appc e42 e43 e29))))) :: (none :: (none :: [e30, none, (some (@Blk.mk [(@AV.own (((2 + 1) + 1) + 1) e44 3)] 48 none))]))))))) (.fork (eqI (q).feat (6 : Int)) (.need (@isSo (@And ([e31] = [e31]) (@And (@TokRows e42 e43) (@And (e42 = e42) (@And True (e46 ≤ 1000000)))))) (.need (@isSo (@And e20 (@And (@TokRows e46 e47) (@And (e46 = e46) (@And True ((e46 + 1) ≤ 1000000)))))) (.leaf (e24, (@Mem.mk (e25 + 1) ((e27 + 1) + 1) ((some (@Blk.mk [] 40 (some (@Rw.mk (e46 + 1) 3 (@appc e46 e47 e29))))) :: (none :: (none :: (none :: [e30, none, (some (@Blk.mk [(@AV.own e25 (e46 + 1) 3)] 48 none))]))))))))) (.need (@isSo (@And e10 e45)) (.need (@isSo (@And e34 (@And (@TokRows e44 (@appc e42 e43 e11)) (@And (e44 = e44) (@And e35 (e48 ≤ 1000000)))))) (.need (@isSo (@And e10 (@And (@TokRows e48 e49) (@And (e48 = e48) (@And True (e50 ≤ 1000000)))))) (.need (@isSo (@And ([e5, e31] = [e5, e31]) (@And (@TokRows e50 (@appc e48 e49 e11)) (@And (e50 = e50) (@And True (e51 ≤ 1000000)))))) (.need (@isSo (@And e20 (@And (@TokRows e51 e52) (@And (e51 = e51) (@And True ((e51 + 1) ≤ 1000000)))))) (.leaf (e24, (@Mem.mk (e26 + 1) e28 ((some (@Blk.mk [] 40 (some (@Rw.mk (e51 + 1) 3 (@appc e51 e52 e29))))) :: (none :: (none :: (none :: (none :: (none :: (none :: [e30, none, (some (@Blk.mk [(@AV.own e26 (e51 + 1) 3)] 48 none))]))))))))))))))))))))) (by kernel_rfl) (by
    unfold limT at hl
    have hh := hq.2
    unfold feaT loT hiT at hl ⊢
    refine need_so ⟨rfl, (by repeat' (first | exact TokRows.kc _ | refine TokRows.app ?_ rfl)), rfl, trivial, (by (try unfold limT); simp only [List.length_append, List.length_cons, List.length_nil] at hl; omega)⟩ (fork_ok (fun c1 => ?_) (fun c1 => ?_))
    · have c1 := n_t c1
      have hlo : 1 ≤ q.lo := by rw [leI_f] at c1; omega
      have hlo5 := hq.1 (by omega)
      rw [if_neg (by rw [c1]; simp)] at hl ⊢
      have hl0 := hl
      simp only [List.length_append, List.length_cons, List.length_nil] at hl0
      refine need_so ⟨rfl, (by repeat' (first | exact TokRows.kc _ | refine TokRows.app ?_ rfl)), rfl, trivial, (by (try unfold limT); (try simp only [List.length_cons, List.length_nil] at *); omega)⟩ (need_so ⟨rfl, (by repeat' (first | exact TokRows.kc _ | refine TokRows.app ?_ rfl)), rfl, trivial, (by (try unfold limT); (try simp only [List.length_cons, List.length_nil] at *); omega)⟩ (need_so ⟨rfl, (by repeat' (first | exact TokRows.kc _ | refine TokRows.app ?_ rfl)), rfl, ⟨hlo, hlo5⟩, (by (try unfold limT); (try simp only [List.length_cons, List.length_nil] at *); omega)⟩ (need_so ⟨rfl, (by repeat' (first | exact TokRows.kc _ | refine TokRows.app ?_ rfl)), rfl, trivial, (by (try unfold limT); (try simp only [List.length_cons, List.length_nil] at *); omega)⟩ (need_so ⟨rfl, (by repeat' (first | exact TokRows.kc _ | refine TokRows.app ?_ rfl)), rfl, trivial, (by (try unfold limT); (try simp only [List.length_cons, List.length_nil] at *); omega)⟩ ?_))))
      refine fork_ok (fun c2 => ?_) (fun c2 => ?_)
      · rw [eqI_t] at c2
        rw [if_pos c2] at hl ⊢
        simp only [List.length_append, List.length_cons, List.length_nil] at hl
        exact (need_so ⟨rfl, (by repeat' (first | exact TokRows.kc _ | refine TokRows.app ?_ rfl)), rfl, trivial, (by (try unfold limT); (try simp only [List.length_cons, List.length_nil] at *); omega)⟩ ⟨rfl, _, _, _, rfl, rfl, by decide, CellIs.cast (CellIs.app2 (CellIs.app2 (CellIs.app2 (CellIs.app2 (CellIs.app2 (CellIs.app2 (CellIs.app2 (CellIs.kc _) rfl) rfl) rfl) rfl) rfl) rfl) rfl) (by simp [List.append_assoc])⟩)
      · rw [eqI_f] at c2
        have hho := hh c2
        rw [if_neg c2] at hl ⊢
        refine fork_ok (fun c3 => ?_) (fun c3 => ?_)
        · rw [eqI_t] at c3
          rw [if_pos c3] at hl ⊢
          simp only [List.length_append, List.length_cons, List.length_nil] at hl
          exact (need_so ⟨rfl, (by repeat' (first | exact TokRows.kc _ | refine TokRows.app ?_ rfl)), rfl, trivial, (by (try unfold limT); (try simp only [List.length_cons, List.length_nil] at *); omega)⟩ (need_so ⟨rfl, (by repeat' (first | exact TokRows.kc _ | refine TokRows.app ?_ rfl)), rfl, trivial, (by (try unfold limT); (try simp only [List.length_cons, List.length_nil] at *); omega)⟩ ⟨rfl, _, _, _, rfl, rfl, by decide, CellIs.cast (CellIs.app2 (CellIs.app2 (CellIs.app2 (CellIs.app2 (CellIs.app2 (CellIs.app2 (CellIs.app2 (CellIs.app2 (CellIs.kc _) rfl) rfl) rfl) rfl) rfl) rfl) rfl) rfl) (by simp [List.append_assoc])⟩))
        · rw [eqI_f] at c3
          rw [if_neg c3] at hl ⊢
          simp only [List.length_append, List.length_cons, List.length_nil] at hl
          exact (need_so ⟨rfl, (by repeat' (first | exact TokRows.kc _ | refine TokRows.app ?_ rfl)), rfl, trivial, (by (try unfold limT); (try simp only [List.length_cons, List.length_nil] at *); omega)⟩ (need_so ⟨rfl, (by repeat' (first | exact TokRows.kc _ | refine TokRows.app ?_ rfl)), rfl, hho, (by (try unfold limT); (try simp only [List.length_cons, List.length_nil] at *); omega)⟩ (need_so ⟨rfl, (by repeat' (first | exact TokRows.kc _ | refine TokRows.app ?_ rfl)), rfl, trivial, (by (try unfold limT); (try simp only [List.length_cons, List.length_nil] at *); omega)⟩ (need_so ⟨rfl, (by repeat' (first | exact TokRows.kc _ | refine TokRows.app ?_ rfl)), rfl, trivial, (by (try unfold limT); (try simp only [List.length_cons, List.length_nil] at *); omega)⟩ (need_so ⟨rfl, (by repeat' (first | exact TokRows.kc _ | refine TokRows.app ?_ rfl)), rfl, trivial, (by (try unfold limT); (try simp only [List.length_cons, List.length_nil] at *); omega)⟩ ⟨rfl, _, _, _, rfl, rfl, by decide, CellIs.cast (CellIs.app2 (CellIs.app2 (CellIs.app2 (CellIs.app2 (CellIs.app2 (CellIs.app2 (CellIs.app2 (CellIs.app2 (CellIs.app2 (CellIs.app2 (CellIs.app2 (CellIs.kc _) rfl) rfl) rfl) rfl) rfl) rfl) rfl) rfl) rfl) rfl) rfl) (by simp [List.append_assoc])⟩)))))
    · have c1 := n_f c1
      rw [if_pos c1] at hl ⊢
      have hl0 := hl
      simp only [List.length_append, List.length_cons, List.length_nil] at hl0
      refine need_so ⟨rfl, (by repeat' (first | exact TokRows.kc _ | refine TokRows.app ?_ rfl)), rfl, trivial, (by (try unfold limT); (try simp only [List.length_cons, List.length_nil] at *); omega)⟩ ?_
      refine fork_ok (fun c2 => ?_) (fun c2 => ?_)
      · rw [eqI_t] at c2
        rw [if_pos c2] at hl ⊢
        simp only [List.length_append, List.length_cons, List.length_nil] at hl
        exact (need_so ⟨rfl, (by repeat' (first | exact TokRows.kc _ | refine TokRows.app ?_ rfl)), rfl, trivial, (by (try unfold limT); (try simp only [List.length_cons, List.length_nil] at *); omega)⟩ ⟨rfl, _, _, _, rfl, rfl, by decide, CellIs.cast (CellIs.app2 (CellIs.app2 (CellIs.app2 (CellIs.kc _) rfl) rfl) rfl) (by simp [List.append_assoc])⟩)
      · rw [eqI_f] at c2
        have hho := hh c2
        rw [if_neg c2] at hl ⊢
        refine fork_ok (fun c3 => ?_) (fun c3 => ?_)
        · rw [eqI_t] at c3
          rw [if_pos c3] at hl ⊢
          simp only [List.length_append, List.length_cons, List.length_nil] at hl
          exact (need_so ⟨rfl, (by repeat' (first | exact TokRows.kc _ | refine TokRows.app ?_ rfl)), rfl, trivial, (by (try unfold limT); (try simp only [List.length_cons, List.length_nil] at *); omega)⟩ (need_so ⟨rfl, (by repeat' (first | exact TokRows.kc _ | refine TokRows.app ?_ rfl)), rfl, trivial, (by (try unfold limT); (try simp only [List.length_cons, List.length_nil] at *); omega)⟩ ⟨rfl, _, _, _, rfl, rfl, by decide, CellIs.cast (CellIs.app2 (CellIs.app2 (CellIs.app2 (CellIs.app2 (CellIs.kc _) rfl) rfl) rfl) rfl) (by simp [List.append_assoc])⟩))
        · rw [eqI_f] at c3
          rw [if_neg c3] at hl ⊢
          simp only [List.length_append, List.length_cons, List.length_nil] at hl
          exact (need_so ⟨rfl, (by repeat' (first | exact TokRows.kc _ | refine TokRows.app ?_ rfl)), rfl, trivial, (by (try unfold limT); (try simp only [List.length_cons, List.length_nil] at *); omega)⟩ (need_so ⟨rfl, (by repeat' (first | exact TokRows.kc _ | refine TokRows.app ?_ rfl)), rfl, hho, (by (try unfold limT); (try simp only [List.length_cons, List.length_nil] at *); omega)⟩ (need_so ⟨rfl, (by repeat' (first | exact TokRows.kc _ | refine TokRows.app ?_ rfl)), rfl, trivial, (by (try unfold limT); (try simp only [List.length_cons, List.length_nil] at *); omega)⟩ (need_so ⟨rfl, (by repeat' (first | exact TokRows.kc _ | refine TokRows.app ?_ rfl)), rfl, trivial, (by (try unfold limT); (try simp only [List.length_cons, List.length_nil] at *); omega)⟩ (need_so ⟨rfl, (by repeat' (first | exact TokRows.kc _ | refine TokRows.app ?_ rfl)), rfl, trivial, (by (try unfold limT); (try simp only [List.length_cons, List.length_nil] at *); omega)⟩ ⟨rfl, _, _, _, rfl, rfl, by decide, CellIs.cast (CellIs.app2 (CellIs.app2 (CellIs.app2 (CellIs.app2 (CellIs.app2 (CellIs.app2 (CellIs.app2 (CellIs.kc _) rfl) rfl) rfl) rfl) rfl) rfl) rfl) (by simp [List.append_assoc])⟩))))))
noncomputable abbrev Sy.cWfea : Con Try.prog := conV 36 (fun r => match r with | [.agg [.lit (.int .i64 k), .lit (.int .i64 c), .lit (.int .i64 f), .lit (.int .i64 lo), .lit (.int .i64 ln), .lit (.int .i64 ld), .lit (.int .i64 ho), .lit (.int .i64 hn), .lit (.int .i64 hd)]] => some (QNodeV.mk k c f lo ln ld ho hn hd) | _ => none) (fun q => [qG q]) (fun _ => .tup []) (fun q => feaT q) (fun q => OpsIn q) fun L q h hl => ⟨⟨⟨⟨trivial, trivial, trivial, trivial, trivial, trivial, trivial, trivial, trivial, trivial⟩, trivial⟩, trivial⟩, wfea_t L q h hl⟩
end Go.Proofs.Ytlmanlpgknhfpaa
namespace Go.Proofs.Ytlmanlpgknhfpaa
open Go Go.RowKit Pl Sy
def sU : List QNodeV → Nat → Option Nat
  | [], m => if m = 0 then some 0 else none
  | _ :: _, 0 => some 0
  | n :: l, m + 1 => if hasI n.kind n.count < 0 then none else (sU l (m + (hasI n.kind n.count).toNat)).map (· + 1)
theorem sU_zero : ∀ l, sU l 0 = some 0
  | [] => rfl
  | _ :: _ => rfl
theorem sU_le : ∀ (l : List QNodeV) (m k : Nat), sU l m = some k → m ≤ k ∧ k ≤ l.length
  | [], m, k, h => by
    unfold sU at h
    split at h
    · simp at h; omega
    · cases h
  | n :: l, 0, k, h => by
    unfold sU at h
    simp at h; omega
  | n :: l, m + 1, k, h => by
    unfold sU at h
    split at h
    · cases h
    · rw [Option.map_eq_some_iff] at h
      obtain ⟨k', h1, h2⟩ := h
      have := sU_le l _ _ h1
      simp only [List.length_cons]
      omega
theorem spanL_eq (N : Int) : ∀ (l : List QNodeV) (left : Int), (l.length : Int) ≤ N → 0 ≤ left → spanL N l left = sU l left.toNat
  | [], left, h, h0 => by
    unfold spanL sU
    by_cases e : left ≤ 0
    · rw [if_pos e, if_pos (by omega)]
    · rw [if_neg e, if_neg (by omega)]
  | n :: l, left, h, h0 => by
    simp only [List.length_cons] at h
    unfold spanL
    by_cases e : left ≤ 0
    · rw [if_pos e, show left.toNat = 0 by omega, sU_zero]
    · rw [if_neg e]
      obtain ⟨m, hm⟩ : ∃ m, left.toNat = m + 1 := ⟨left.toNat - 1, by omega⟩
      rw [hm]
      unfold sU
      by_cases e1 : hasI n.kind n.count < 0
      · rw [if_pos e1, if_pos e1]
      · rw [if_neg e1, if_neg e1]
        by_cases e2 : N < hasI n.kind n.count
        · rw [if_pos e2, spanL_eq N l _ (by omega) (by omega)]
          have f1 : sU l (left + N - 1).toNat = none := by
            cases hs : sU l (left + N - 1).toNat with
            | none => rfl
            | some k => have := sU_le _ _ _ hs; omega
          have f2 : sU l (m + (hasI n.kind n.count).toNat) = none := by
            cases hs : sU l (m + (hasI n.kind n.count).toNat) with
            | none => rfl
            | some k => have := sU_le _ _ _ hs; omega
          rw [f1, f2]
        · rw [if_neg e2, spanL_eq N l _ (by omega) (by omega), show (left + hasI n.kind n.count - 1).toNat = m + (hasI n.kind n.count).toNat by omega]
theorem sU_add : ∀ (l : List QNodeV) (a b : Nat), sU l (a + b) = (sU l a).bind fun k => (sU (l.drop k) b).map (k + ·)
  | [], a, b => by
    unfold sU
    by_cases ha : a = 0
    · subst ha
      by_cases hb : b = 0
      · subst hb; rfl
      · simp [hb]
    · simp [ha]
  | n :: l, 0, b => by
    rw [sU_zero, Nat.zero_add]
    simp
  | n :: l, a + 1, b => by
    rw [show a + 1 + b = (a + b) + 1 by omega]
    rw [sU, sU]
    by_cases e1 : hasI n.kind n.count < 0
    · rw [if_pos e1, if_pos e1]; rfl
    · rw [if_neg e1, if_neg e1, show a + b + (hasI n.kind n.count).toNat = (a + (hasI n.kind n.count).toNat) + b by omega, sU_add l _ b]
      cases hs : sU l (a + (hasI n.kind n.count).toNat) with
      | none => rfl
      | some k =>
        simp only [Option.bind_some, Option.map_some, List.drop_succ_cons]
        cases hb : sU (l.drop k) b with
        | none => rfl
        | some k' => first | (simp; done) | (simp; omega)
def posI (xs : List QNodeV) (i : Int) (m : Nat) : Int := match sU (xs.drop i.toNat) m with
  | some k => i + k
  | none => 0
theorem spanI_eq (xs : List QNodeV) (i : Int) : spanI xs i = if i < 0 then 0 else posI xs i 1 := by
  unfold spanI posI
  by_cases h : i < 0
  · rw [if_pos h, if_pos h]
  · rw [if_neg h, if_neg h, spanL_eq _ _ _ (by simp only [List.length_drop]; omega) (by omega)]
    rfl
theorem posI_zero (xs : List QNodeV) (i : Int) : posI xs i 0 = i := by unfold posI; rw [sU_zero]; simp
theorem posI_pos {xs : List QNodeV} {i : Int} {m : Nat} (hi : 0 ≤ i) (hm : 1 ≤ m) (h : posI xs i m ≠ 0) : ∃ k, sU (xs.drop i.toNat) m = some k ∧ posI xs i m = i + k ∧ m ≤ k ∧ i + k ≤ xs.length := by
  unfold posI at h ⊢
  cases hs : sU (xs.drop i.toNat) m with
  | none => rw [hs] at h; exact absurd rfl h
  | some k =>
    have := sU_le _ _ _ hs
    simp only [List.length_drop] at this
    exact ⟨k, rfl, rfl, by omega, by omega⟩
theorem posI_succ (xs : List QNodeV) (i : Int) (m : Nat) (hi : 0 ≤ i) : posI xs i (m + 1) = if posI xs i 1 = 0 then 0 else posI xs (posI xs i 1) m := by
  unfold posI
  rw [show sU (xs.drop i.toNat) (m + 1) = (sU (xs.drop i.toNat) 1).bind fun k => (sU ((xs.drop i.toNat).drop k) m).map (k + ·) by rw [show m + 1 = 1 + m by omega]; exact sU_add _ 1 m]
  cases hs : sU (xs.drop i.toNat) 1 with
  | none => rfl
  | some k =>
    have := sU_le _ _ _ hs
    simp only [Option.bind_some, List.drop_drop]
    rw [if_neg (by omega), show (i + (k : Int)).toNat = i.toNat + k by omega]
    cases hb : sU (xs.drop (i.toNat + k)) m with
    | none => rfl
    | some k' => simp only [Option.map_some]; omega
theorem drop_at (xs : List QNodeV) (i : Nat) (h : i < xs.length) (z : QNodeV) : xs.drop i = xs.getD i z :: xs.drop (i + 1) := by
  rw [List.getD_eq_getElem?_getD, List.getElem?_eq_getElem h]
  exact List.drop_eq_getElem_cons h
theorem posI_one (xs : List QNodeV) (i : Int) (h0 : 0 ≤ i) (h1 : i < xs.length) : posI xs i 1 = if hasI (xs.getD i.toNat QNodeV.zero).kind (xs.getD i.toNat QNodeV.zero).count < 0 then 0 else posI xs (i + 1) (hasI (xs.getD i.toNat QNodeV.zero).kind (xs.getD i.toNat QNodeV.zero).count).toNat := by
  unfold posI
  rw [drop_at xs i.toNat (by omega) QNodeV.zero]
  rw [sU]
  by_cases e : hasI (xs.getD i.toNat QNodeV.zero).kind (xs.getD i.toNat QNodeV.zero).count < 0
  · rw [if_pos e, if_pos e]
  · rw [if_neg e, if_neg e, show (i + 1).toNat = i.toNat + 1 by omega, Nat.zero_add]
    cases sU (xs.drop (i.toNat + 1)) (hasI (xs.getD i.toNat QNodeV.zero).kind (xs.getD i.toNat QNodeV.zero).count).toNat with
    | none => rfl
    | some k => simp only [Option.map_some]; omega
theorem posI_out (xs : List QNodeV) (i : Int) (h1 : (xs.length : Int) ≤ i) : posI xs i 1 = 0 := by
  unfold posI
  rw [List.drop_eq_nil_of_le (by omega)]
  rfl
end Go.Proofs.Ytlmanlpgknhfpaa
namespace Go.Proofs.Ytlmanlpgknhfpaa
open Go Go.RowKit Pl Sy
def nodeN (xs : List QNodeV) (i : Int) : QNodeV := xs.getD i.toNat QNodeV.zero
def tmT (xs : List QNodeV) (g : Int → List TokV) (i : Int) : List TokV := if (nodeN xs i).kind = 4 then g i else [opnT] ++ (g i ++ [cloT])
def lpT (xs : List QNodeV) (g : Int → List TokV) (w : ByteArray) : Nat → Int → List TokV
  | 0, _ => []
  | m + 1, i => [spT, idT w, spT] ++ (tmT xs g i ++ lpT xs g w m (spanI xs i))
def wdS (k : Int) : ByteArray := if k = 2 then ⟨#[111, 114]⟩ else ⟨#[97, 110, 100]⟩
structure NdK where
  T : Int → List TokV
  C : Int → Prop
structure NdK.Ok (K : NdK) (s : ByteArray) (xs : List QNodeV) : Prop where
  call : ∀ L i, K.C i → limT (L.length + (K.T i).length) → CallTo Try.prog 18 [.ptr 0 0, query s xs, int i] (wM L) fun v M' => v = int (spanI xs i) ∧ WrEnd M' (L ++ K.T i)
theorem Sy.qv_free (s : ByteArray) (xs : List QNodeV) : Free (query s xs) := ⟨trivial, viewOf_free _ _ _ _, trivial⟩
noncomputable abbrev Sy.cNode (s : ByteArray) (xs : List QNodeV) (K : NdK) (hK : K.Ok s xs) : Con Try.prog := conV 18 (fun r => match r with | [_, .lit (.int .i64 i)] => some i | _ => none) (fun i => [query s xs, int i]) (fun i => int (spanI xs i)) (fun i => K.T i) (fun i => K.C i) fun L i h hl => ⟨⟨⟨qv_free s xs, trivial, trivial⟩, trivial⟩, hK.call L i h hl⟩
theorem Sy.wtm_t (s : ByteArray) (xs : List QNodeV) (K : NdK) (hK : K.Ok s xs) (L : List TokV) (i : Int) (h : inR i xs.length = true ∧ K.C i) (hl : limT (L.length + (tmT xs K.T i).length)) : CallTo Try.prog 37 [.ptr 0 0, query s xs, int i] (wM L) fun v M' => v = int (spanI xs i) ∧ WrEnd M' (L ++ tmT xs K.T i) :=
  to (G := fun r => r.1 = int (spanI xs i) ∧ WrEnd r.2 (L ++ tmT xs K.T i)) [cPutV, cNode s xs K hK] [] 400 30 (.yes (.br (.yes .done) (.yes (.yes (.yes .done))))) (let e1 := ([(@AV.agg [(@AV.lit (@Value.string s)), (@qview xs)]), (int i)] = [(@query s xs), (int i)]); let e2 := (@TokRows (L).length (@kcell L)); let e3 := ((L).length + (((K).T i)).length); let e4 := (some (@Blk.mk [(@AV.lit (@Value.string s)), (@qview xs)] 24 none)); let e5 := (@ByteArray.mk (@Array.mk _ [])); let e6 := (@AV.lit (@Value.string e5)); let e7 := (int (0 : Int)); let e8 := ((L).length + 1); let e9 := (@appc (L).length (@kcell L) (@kcell [(@TokV.mk (13 : Int) e5 (0 : Int))])); let e10 := (e8 + (((K).T i)).length); let e11 := (@appc e8 e9 (@kcell ((K).T i))); (.need (@inR i (xs).length) (.fork (eqI ((xs.getD (i).toNat QNodeV.zero)).kind (4 : Int)) (.need (@isSo (@And e1 (@And e2 (@And ((L).length = (L).length) (@And ((K).C i) (e3 ≤ 1000000)))))) (.leaf ((int (@spanI xs i)), (@Mem.mk ((2 + 1) + 1) ((0 + 1) + 1) ((some (@Blk.mk [] 40 (some (@Rw.mk e3 3 (@appc (L).length (@kcell L) (@kcell ((K).T i))))))) :: [e4, none, (some (@Blk.mk [(@AV.own (2 + 1) e3 3)] 48 none))]))))) (.need (@isSo (@And ([(int (13 : Int)), e6, e7] = [(int (13 : Int)), e6, e7]) (@And e2 (@And ((L).length = (L).length) (@And True (e8 ≤ 1000000)))))) (.need (@isSo (@And e1 (@And (@TokRows e8 e9) (@And (e8 = e8) (@And ((K).C i) (e10 ≤ 1000000)))))) (.need (@isSo (@And ([(int (14 : Int)), e6, e7] = [(int (14 : Int)), e6, e7]) (@And (@TokRows e10 e11) (@And (e10 = e10) (@And True ((e10 + 1) ≤ 1000000)))))) (.leaf ((int (@spanI xs i)), (@Mem.mk ((((2 + 1) + 1) + 1) + 1) ((((((0 + 1) + 1) + 1) + 1) + 1) + 1) ((some (@Blk.mk [] 40 (some (@Rw.mk (e10 + 1) 3 (@appc e10 e11 (@kcell [(@TokV.mk (14 : Int) e5 (0 : Int))])))))) :: (none :: (none :: [e4, none, (some (@Blk.mk [(@AV.own (((2 + 1) + 1) + 1) (e10 + 1) 3)] 48 none))])))))))))))) (by kernel_rfl) (by
    unfold limT tmT at hl
    unfold tmT
    refine need_t h.1 (fork_ok (fun c => ?_) (fun c => ?_))
    · have c : (nodeN xs i).kind = 4 := by rw [eqI_t] at c; exact c
      rw [if_pos c] at hl ⊢
      exact need_so ⟨rfl, (by repeat' (first | exact TokRows.kc _ | refine TokRows.app ?_ rfl)), rfl, h.2, (by (try unfold limT); (try simp only [List.length_cons, List.length_nil] at *); omega)⟩ ⟨rfl, _, _, _, rfl, rfl, by decide, CellIs.cast (CellIs.app2 (CellIs.kc _) rfl) rfl⟩
    · have c : ¬ (nodeN xs i).kind = 4 := by rw [eqI_f] at c; exact c
      rw [if_neg c] at hl ⊢
      simp only [List.length_append, List.length_cons, List.length_nil] at hl
      exact need_so ⟨rfl, (by repeat' (first | exact TokRows.kc _ | refine TokRows.app ?_ rfl)), rfl, trivial, (by (try unfold limT); (try simp only [List.length_cons, List.length_nil] at *); omega)⟩ (need_so ⟨rfl, (by repeat' (first | exact TokRows.kc _ | refine TokRows.app ?_ rfl)), rfl, h.2, (by (try unfold limT); (try simp only [List.length_cons, List.length_nil] at *); omega)⟩ (need_so ⟨rfl, (by repeat' (first | exact TokRows.kc _ | refine TokRows.app ?_ rfl)), rfl, trivial, (by (try unfold limT); (try simp only [List.length_cons, List.length_nil] at *); omega)⟩ ⟨rfl, _, _, _, rfl, rfl, by decide, CellIs.cast (CellIs.app2 (CellIs.app2 (CellIs.app2 (CellIs.kc _) rfl) rfl) rfl) (by simp [List.append_assoc])⟩)))
noncomputable abbrev Sy.cTerm (s : ByteArray) (xs : List QNodeV) (K : NdK) (hK : K.Ok s xs) : Con Try.prog := conV 37 (fun r => match r with | [_, .lit (.int .i64 i)] => some i | _ => none) (fun i => [query s xs, int i]) (fun i => int (spanI xs i)) (fun i => tmT xs K.T i) (fun i => inR i xs.length = true ∧ K.C i) fun L i h hl => ⟨⟨⟨qv_free s xs, trivial, trivial⟩, trivial⟩, wtm_t s xs K hK L i h hl⟩
namespace Sy
abbrev ndQ (s : ByteArray) (xs : List QNodeV) : Blk := ⟨[.lit (.string s), qview xs], 24, none⟩
abbrev ndN (q : QNodeV) : Blk := ⟨[int q.kind, int q.count, int q.feat, int q.lo, int q.ln, int q.ld, int q.ho, int q.hn, int q.hd], 45, none⟩
abbrev ndA (s : ByteArray) (xs : List QNodeV) (q : QNodeV) (L : List TokV) : Mem := ⟨4, 0, [some (ndN q), some (ndQ s xs), some (rowB L.length (kcell L)), some (wB 1 L.length)]⟩
abbrev ndM (s : ByteArray) (xs : List QNodeV) (L : List TokV) : Mem := ⟨5, 0, [some (rowB L.length (kcell L)), none, some (ndQ s xs), none, some (wB 4 L.length)]⟩
abbrev ndF (w : ByteArray) (i c k : Int) : Fr := (some ((@AV.ptr 0 0)) :: none :: some (int i) :: none :: some (.ptr 2 0) :: none :: none :: none :: some (.lit (.string w)) :: (nn30 (some (int c) :: some (int k) :: (nn17 []))))
end Sy
def spE (xs : List QNodeV) : Nat → Int → Int
  | 0, i => i
  | m + 1, i => spE xs m (spanI xs i)
def Spans (K : NdK) (xs : List QNodeV) : Nat → Int → Prop
  | 0, _ => True
  | m + 1, i => (inR i xs.length = true ∧ K.C i) ∧ Spans K xs m (spanI xs i)
namespace Sy
theorem ndF_ren (w : ByteArray) {x : Nat} {i i' c k k' : Int} (hi : i = i') (hk : k = k') : RenF (nm [0, 1, 2, 3, x]) (ndF w i c k) (ndF w i' c k') := by
  subst hi hk
  simp only [RenF, and_true]
  exact ⟨⟨rfl, rfl⟩, rfl, ⟨rfl, rfl⟩, rfl, rfl, rfl⟩
theorem ndM_ren {M : Mem} {s : ByteArray} {xs : List QNodeV} {L : List TokV} {x n : Nat} {cell : Nat → Nat → AV} (hd : [0, 1, 2, 3, x].Nodup) (h0 : M.get 0 = some (wB x n)) (h2 : M.get 2 = some (ndQ s xs)) (hx : M.get x = some (rowB n cell)) (hc : CellIs n cell L) : RenM (nm [0, 1, 2, 3, x]) M (ndM s xs L) :=
  .of rfl rfl hd ⟨⟨x, _, rfl, hx, rfl, trivial, hc.1.symm, rfl, fun i j hi hj => hc.free _ (by have hi : i < L.length := hi; have := hc.1; omega) hj⟩, ⟨2, _, rfl, h2, rfl, ⟨rfl, RenV.free _ (viewOf_free _ _ _ _), trivial⟩, trivial⟩, ⟨0, _, rfl, h0, rfl, ⟨⟨rfl, hc.1, rfl⟩, trivial⟩, trivial⟩, trivial⟩
end Sy
theorem Sy.wnd_loop (s : ByteArray) (xs : List QNodeV) (K : NdK) (hK : K.Ok s xs) (w : ByteArray) (c : Int) (hc : c ≤ 100000) : ∀ (r : Nat) (L : List TokV) (i k : Int), 1 ≤ k → k + r = c → Spans K xs r i → limT (L.length + (lpT xs K.T w r i).length) →
    LoopToT 4 Try.prog (theBody Try.prog 18 16) (r + 1) (ndF w i c k) (ndM s xs L) (RG 4 fun ex F M => ex = .exit 1 ∧ F = ndF w (spE xs r i) c c ∧ M = ndM s xs (L ++ lpT xs K.T w r i)) := by
  intro r
  induction r with
  | zero =>
    intro L i k h1 h2 h3 h4
    refine roundT plain mixed 4 [cPutV, cSp, cTerm s xs K hK] [] 400 30 18 16 Try.func18 rfl (by kernel_rfl) (true :: false :: true :: false :: true :: false :: false :: false :: true :: (ff30 (true :: true :: (ff17 [])))) (.br (.br (.yes (.yes (.yes (.yes .done)))) (.yes .done)) .done) (let e1 := (@TokRows (L).length (@kcell L)); let e2 := ((L).length + 1); let e3 := (@AV.lit (@Value.string w)); let e4 := (@appc (L).length (@kcell L) (@kcell [spT])); let e5 := (@TokV.mk (Int.ofNat 1) w (Int.ofNat 0)); let e6 := (e2 + ([e5]).length); let e7 := ([(@AV.agg [(@AV.lit (@Value.string s)), (@qview xs)]), (int i)] = [(@query s xs), (int i)]); let e8 := (@appc e6 (@appc e2 e4 (@kcell [e5])) (@kcell [spT])); let e9 := (@And ((@inR i (xs).length) = true) ((K).C i)); let e10 := ((e6 + 1) + ((@tmT xs (K).T i)).length); let e11 := (some (@AV.ptr 0 0)); let e12 := (some (@AV.ptr 2 0)); let e13 := (some (int (w64 (k + (1 : Int))))); let e14 := (some (@Blk.mk [(@AV.lit (@Value.string s)), (@qview xs)] 24 none)); let e15 := ((L).length + ((@tmT xs (K).T i)).length); (.fork (!(leI c k)) (.fork (!(leI k (0 : Int))) (.need (@isSo (@And (([] : List AV) = []) (@And e1 (@And ((L).length = (L).length) (@And True (e2 ≤ 1000000)))))) (.need (@isSo (@And ([(int (1 : Int)), e3, (int (0 : Int))] = [(int (Int.ofNat 1)), e3, (int (Int.ofNat 0))]) (@And (@TokRows e2 e4) (@And (e2 = e2) (@And True (e6 ≤ 1000000)))))) (.need (@isSo (@And (([] : List AV) = []) (@And (@TokRows e6 (@appc e2 e4 (@kcell [e5]))) (@And (e6 = e6) (@And True ((e6 + 1) ≤ 1000000)))))) (.need (@isSo (@And e7 (@And (@TokRows (e6 + 1) e8) (@And ((e6 + 1) = (e6 + 1)) (@And e9 (e10 ≤ 1000000)))))) (.leaf (Ex.norm, ((e11 :: none :: (some (int (@spanI xs i))) :: none :: e12 :: none :: none :: none :: (some e3) :: (nn30 ((some (int c)) :: e13 :: (nn17 [])))), (@Mem.mk ((((5 + 1) + 1) + 1) + 1) ((((((((0 + 1) + 1) + 1) + 1) + 1) + 1) + 1) + 1) ((some (@Blk.mk [] 40 (some (@Rw.mk e10 3 (@appc (e6 + 1) e8 (@kcell (@tmT xs (K).T i))))))) :: (none :: (none :: (none :: [none, none, e14, none, (some (@Blk.mk [(@AV.own (((5 + 1) + 1) + 1) e10 3)] 48 none))])))))))))))) (.need (@isSo (@And e7 (@And e1 (@And ((L).length = (L).length) (@And e9 (e15 ≤ 1000000)))))) (.leaf (Ex.norm, ((e11 :: none :: (some (int (@spanI xs i))) :: none :: e12 :: none :: none :: none :: (some e3) :: (nn30 ((some (int c)) :: e13 :: (nn17 [])))), (@Mem.mk (5 + 1) ((0 + 1) + 1) ((some (@Blk.mk [] 40 (some (@Rw.mk e15 3 (@appc (L).length (@kcell L) (@kcell (@tmT xs (K).T i))))))) :: [none, none, e14, none, (some (@Blk.mk [(@AV.own 5 e15 3)] 48 none))]))))))) (.leaf ((@Ex.exit 1), ((e11 :: none :: (some (int i)) :: none :: e12 :: none :: none :: none :: (some e3) :: (nn30 ((some (int c)) :: (some (int k)) :: (nn17 [])))), (@Mem.mk 5 0 [(some (@Blk.mk [] 40 (some (@Rw.mk (L).length 3 (@kcell L))))), none, e14, none, (some (@Blk.mk [(@AV.own 4 (L).length 3)] 48 none))])))))) (by kernel_rfl) ?_
    refine fork_ok (fun q => ?_) (fun q => ?_)
    · simp only [Bool.not_eq_true', Bool.not_eq_false', leI_t, leI_f, eqI_t, eqI_f, inR_t, inR_f, isSo_t, isSo_f] at q
      omega
    · have hk : k = c := by omega
      subst hk
      rw [show lpT xs K.T w 0 i = [] from rfl, List.append_nil]
      exact ⟨_, _, [0, 1, 2, 3, 4], rfl, ndF_ren w rfl rfl, ndM_ren (by decide) rfl rfl rfl (CellIs.kc L), rfl, rfl, rfl⟩
  | succ r ih =>
    intro L i k h1 h2 h3 h4
    obtain ⟨h5, h6⟩ := h3
    have e : lpT xs K.T w (r + 1) i = [spT, idT w, spT] ++ (tmT xs K.T i ++ lpT xs K.T w r (spanI xs i)) := rfl
    rw [e] at h4 ⊢
    unfold limT at h4
    simp only [List.length_append, List.length_cons, List.length_nil] at h4
    refine roundT plain mixed 4 [cPutV, cSp, cTerm s xs K hK] [] 400 30 18 16 Try.func18 rfl (by kernel_rfl) (true :: false :: true :: false :: true :: false :: false :: false :: true :: (ff30 (true :: true :: (ff17 [])))) (.br (.br (.yes (.yes (.yes (.yes .done)))) (.yes .done)) .done) (let e1 := (@TokRows (L).length (@kcell L)); let e2 := ((L).length + 1); let e3 := (@AV.lit (@Value.string w)); let e4 := (@appc (L).length (@kcell L) (@kcell [spT])); let e5 := (@TokV.mk (Int.ofNat 1) w (Int.ofNat 0)); let e6 := (e2 + ([e5]).length); let e7 := ([(@AV.agg [(@AV.lit (@Value.string s)), (@qview xs)]), (int i)] = [(@query s xs), (int i)]); let e8 := (@appc e6 (@appc e2 e4 (@kcell [e5])) (@kcell [spT])); let e9 := (@And ((@inR i (xs).length) = true) ((K).C i)); let e10 := ((e6 + 1) + ((@tmT xs (K).T i)).length); let e11 := (some (@AV.ptr 0 0)); let e12 := (some (@AV.ptr 2 0)); let e13 := (some (int (w64 (k + (1 : Int))))); let e14 := (some (@Blk.mk [(@AV.lit (@Value.string s)), (@qview xs)] 24 none)); let e15 := ((L).length + ((@tmT xs (K).T i)).length); (.fork (!(leI c k)) (.fork (!(leI k (0 : Int))) (.need (@isSo (@And (([] : List AV) = []) (@And e1 (@And ((L).length = (L).length) (@And True (e2 ≤ 1000000)))))) (.need (@isSo (@And ([(int (1 : Int)), e3, (int (0 : Int))] = [(int (Int.ofNat 1)), e3, (int (Int.ofNat 0))]) (@And (@TokRows e2 e4) (@And (e2 = e2) (@And True (e6 ≤ 1000000)))))) (.need (@isSo (@And (([] : List AV) = []) (@And (@TokRows e6 (@appc e2 e4 (@kcell [e5]))) (@And (e6 = e6) (@And True ((e6 + 1) ≤ 1000000)))))) (.need (@isSo (@And e7 (@And (@TokRows (e6 + 1) e8) (@And ((e6 + 1) = (e6 + 1)) (@And e9 (e10 ≤ 1000000)))))) (.leaf (Ex.norm, ((e11 :: none :: (some (int (@spanI xs i))) :: none :: e12 :: none :: none :: none :: (some e3) :: (nn30 ((some (int c)) :: e13 :: (nn17 [])))), (@Mem.mk ((((5 + 1) + 1) + 1) + 1) ((((((((0 + 1) + 1) + 1) + 1) + 1) + 1) + 1) + 1) ((some (@Blk.mk [] 40 (some (@Rw.mk e10 3 (@appc (e6 + 1) e8 (@kcell (@tmT xs (K).T i))))))) :: (none :: (none :: (none :: [none, none, e14, none, (some (@Blk.mk [(@AV.own (((5 + 1) + 1) + 1) e10 3)] 48 none))])))))))))))) (.need (@isSo (@And e7 (@And e1 (@And ((L).length = (L).length) (@And e9 (e15 ≤ 1000000)))))) (.leaf (Ex.norm, ((e11 :: none :: (some (int (@spanI xs i))) :: none :: e12 :: none :: none :: none :: (some e3) :: (nn30 ((some (int c)) :: e13 :: (nn17 [])))), (@Mem.mk (5 + 1) ((0 + 1) + 1) ((some (@Blk.mk [] 40 (some (@Rw.mk e15 3 (@appc (L).length (@kcell L) (@kcell (@tmT xs (K).T i))))))) :: [none, none, e14, none, (some (@Blk.mk [(@AV.own 5 e15 3)] 48 none))]))))))) (.leaf ((@Ex.exit 1), ((e11 :: none :: (some (int i)) :: none :: e12 :: none :: none :: none :: (some e3) :: (nn30 ((some (int c)) :: (some (int k)) :: (nn17 [])))), (@Mem.mk 5 0 [(some (@Blk.mk [] 40 (some (@Rw.mk (L).length 3 (@kcell L))))), none, e14, none, (some (@Blk.mk [(@AV.own 4 (L).length 3)] 48 none))])))))) (by kernel_rfl) ?_
    refine fork_ok (fun q => fork_ok (fun q2 => ?_) (fun q2 => ?_)) (fun q => ?_)
    · refine need_so ⟨rfl, (by repeat' (first | exact TokRows.kc _ | refine TokRows.app ?_ rfl)), rfl, trivial, (by (try unfold limT); (try simp only [List.length_cons, List.length_nil] at *); omega)⟩ (need_so ⟨rfl, (by repeat' (first | exact TokRows.kc _ | refine TokRows.app ?_ rfl)), rfl, trivial, (by (try unfold limT); (try simp only [List.length_cons, List.length_nil] at *); omega)⟩ (need_so ⟨rfl, (by repeat' (first | exact TokRows.kc _ | refine TokRows.app ?_ rfl)), rfl, trivial, (by (try unfold limT); (try simp only [List.length_cons, List.length_nil] at *); omega)⟩ (need_so ⟨rfl, (by repeat' (first | exact TokRows.kc _ | refine TokRows.app ?_ rfl)), rfl, h5, (by (try unfold limT); (try simp only [List.length_cons, List.length_nil] at *); omega)⟩ ?_)))
      have hi := ih (L ++ ([spT, idT w, spT] ++ tmT xs K.T i)) (spanI xs i) (k + 1) (by omega) (by omega) h6 (by unfold limT; simp only [List.length_append, List.length_cons, List.length_nil]; omega)
      have e2 : L ++ ([spT, idT w, spT] ++ tmT xs K.T i) ++ lpT xs K.T w r (spanI xs i) = L ++ ([spT, idT w, spT] ++ (tmT xs K.T i ++ lpT xs K.T w r (spanI xs i))) := by simp [List.append_assoc]
      rw [e2] at hi
      refine LoopToT.ren [0, 1, 2, 3, 8] rfl (ndF_ren w rfl (w64_in (by omega))) (ndM_ren (by decide) rfl rfl rfl (CellIs.cast (CellIs.app2 (CellIs.app2 (CellIs.app2 (CellIs.app2 (CellIs.kc _) rfl) rfl) rfl) rfl) (by simp [List.append_assoc]))) hi
    · simp only [Bool.not_eq_true', Bool.not_eq_false', leI_t, leI_f, eqI_t, eqI_f, inR_t, inR_f, isSo_t, isSo_f] at q2
      omega
    · simp only [Bool.not_eq_true', Bool.not_eq_false', leI_t, leI_f, eqI_t, eqI_f, inR_t, inR_f, isSo_t, isSo_f] at q
      omega
theorem Sy.wnd_first (s : ByteArray) (xs : List QNodeV) (K : NdK) (hK : K.Ok s xs) (w : ByteArray) (q : QNodeV) (L : List TokV) (i : Int) (r : Nat) (hr : r + 1 ≤ 100000) (h3 : Spans K xs (r + 1) i) (h4 : limT (L.length + (tmT xs K.T i ++ lpT xs K.T w r (spanI xs i)).length)) :
    LoopToT 4 Try.prog (theBody Try.prog 18 16) (r + 2) (ndF w i ((r + 1 : Nat) : Int) 0) (ndA s xs q L) (RG 4 fun ex F M => ex = .exit 1 ∧ F = ndF w (spE xs (r + 1) i) ((r + 1 : Nat) : Int) ((r + 1 : Nat) : Int) ∧ M = ndM s xs (L ++ (tmT xs K.T i ++ lpT xs K.T w r (spanI xs i)))) := by
  obtain ⟨h5, h6⟩ := h3
  unfold limT at h4
  simp only [List.length_append] at h4
  refine roundT plain mixed 4 [cPutV, cSp, cTerm s xs K hK] [] 400 30 18 16 Try.func18 rfl (by kernel_rfl) (true :: false :: true :: false :: true :: false :: false :: false :: true :: (ff30 (true :: true :: (ff17 [])))) (.br (.auto 0 (.yes .done)) .done) (let c : Int := ((r + 1 : Nat) : Int); (let e1 := ((L).length + ((@tmT xs (K).T i)).length); let e2 := (some (@AV.lit (@Value.string w))); let e3 := (some (@Blk.mk [(int (q).kind), (int (q).count), (int (q).feat), (int (q).lo), (int (q).ln), (int (q).ld), (int (q).ho), (int (q).hn), (int (q).hd)] 45 none)); let e4 := (some (@Blk.mk [(@AV.lit (@Value.string s)), (@qview xs)] 24 none)); (.fork (!(leI c (0 : Int))) (.need (@isSo (@And ([(@AV.agg [(@AV.lit (@Value.string s)), (@qview xs)]), (int i)] = [(@query s xs), (int i)]) (@And (@TokRows (L).length (@kcell L)) (@And ((L).length = (L).length) (@And (@And ((@inR i (xs).length) = true) ((K).C i)) (e1 ≤ 1000000)))))) (.leaf (Ex.norm, (((some (@AV.ptr 0 0)) :: none :: (some (int (@spanI xs i))) :: none :: (some (@AV.ptr 2 0)) :: none :: none :: none :: e2 :: (nn30 ((some (int c)) :: (some (int (1 : Int))) :: (nn17 [])))), (@Mem.mk (4 + 1) ((0 + 1) + 1) ((some (@Blk.mk [] 40 (some (@Rw.mk e1 3 (@appc (L).length (@kcell L) (@kcell (@tmT xs (K).T i))))))) :: [e3, e4, none, (some (@Blk.mk [(@AV.own 4 e1 3)] 48 none))])))))) (.leaf ((@Ex.exit 1), (((some (@AV.ptr 0 0)) :: none :: (some (int i)) :: none :: (some (@AV.ptr 2 0)) :: none :: none :: none :: e2 :: (nn30 ((some (int c)) :: (some (int (0 : Int))) :: (nn17 [])))), (@Mem.mk 4 0 [e3, e4, (some (@Blk.mk [] 40 (some (@Rw.mk (L).length 3 (@kcell L))))), (some (@Blk.mk [(@AV.own 1 (L).length 3)] 48 none))]))))))) (by kernel_rfl) ?_
  refine fork_ok (fun q1 => ?_) (fun q1 => ?_)
  · refine need_so ⟨rfl, (by repeat' (first | exact TokRows.kc _ | refine TokRows.app ?_ rfl)), rfl, h5, (by (try unfold limT); omega)⟩ ?_
    have hi := Sy.wnd_loop s xs K hK w ((r + 1 : Nat) : Int) (by omega) r (L ++ tmT xs K.T i) (spanI xs i) 1 (Int.le_refl 1) (by omega) h6 (by unfold limT; simp only [List.length_append]; omega)
    rw [List.append_assoc] at hi
    exact LoopToT.ren [0, 1, 2, 3, 4] rfl (ndF_ren w rfl rfl) (ndM_ren (by decide) rfl rfl rfl (CellIs.cast (CellIs.app2 (CellIs.kc _) rfl) rfl)) hi
  · simp only [Bool.not_eq_true', Bool.not_eq_false', leI_t, leI_f, eqI_t, eqI_f, inR_t, inR_f, isSo_t, isSo_f] at q1
    omega
end Go.Proofs.Ytlmanlpgknhfpaa
namespace Go.Proofs.Ytlmanlpgknhfpaa
open Go Go.RowKit Pl Sy
theorem byE_t (a b : List UInt8) : (bytesEq a b = true) = (a = b) := by rw [bytesEq_eq]; simp
theorem byE_f (a b : List UInt8) : (bytesEq a b = false) = (a ≠ b) := by rw [bytesEq_eq]; simp
def At (T : List TokV) (a : Int) (l : List TokV) : Prop := (0 ≤ a ∧ a ≤ T.length) ∧ T.drop a.toNat = l
theorem At.zero (T : List TokV) : At T 0 T := ⟨⟨Int.le_refl 0, by omega⟩, rfl⟩
theorem At.len {T : List TokV} {a : Int} {l : List TokV} (h : At T a l) : a + l.length = T.length := by
  have h2 := congrArg List.length h.2
  rw [List.length_drop] at h2
  have := h.1
  omega
theorem At.app {T : List TokV} {a : Int} {x r : List TokV} (h : At T a (x ++ r)) : At T (a + x.length) r := by
  have hl := h.len
  rw [List.length_append] at hl
  have h1 := h.1
  refine ⟨by omega, ?_⟩
  rw [show (a + (x.length : Int)).toNat = a.toNat + x.length by omega, ← List.drop_drop, h.2, List.drop_left]
theorem At.tail {T : List TokV} {a : Int} {t : TokV} {l : List TokV} (h : At T a (t :: l)) : At T (a + 1) l := At.app (x := [t]) h
theorem At.head {T : List TokV} {a : Int} {t : TokV} {l : List TokV} (h : At T a (t :: l)) : T.getD a.toNat tok0 = t := by
  have h2 := congrArg (fun l => l.getD 0 tok0) h.2
  simp only [List.getD_cons_zero] at h2
  rw [← h2, List.getD_eq_getElem?_getD, List.getD_eq_getElem?_getD, List.getElem?_drop, Nat.add_zero]
theorem At.lt {T : List TokV} {a : Int} {t : TokV} {l : List TokV} (h : At T a (t :: l)) : a < T.length := by
  have := h.len
  rw [List.length_cons] at this
  omega
theorem At.end_ {T : List TokV} {a : Int} (h : At T a []) : a = T.length := by have := h.len; simp at this; omega
theorem At.kind {T : List TokV} {a : Int} {t : TokV} {l : List TokV} (h : At T a (t :: l)) : kindI T a = t.kind := by
  unfold kindI
  rw [if_neg (by rw [leI_t]; have := h.lt; omega), h.head]
theorem At.kind0 {T : List TokV} {a : Int} (h : At T a []) : kindI T a = 0 := by
  unfold kindI
  rw [if_pos (by rw [leI_t]; have := h.end_; omega)]
theorem At.sp {T : List TokV} {a : Int} {t : TokV} {l : List TokV} (h : At T a (t :: l)) (ht : t.kind = 20) : skI T a = skI T (a + 1) := by
  have h1 := h.1
  unfold skI
  rw [skp_step, if_pos ⟨by have := h.lt; omega, by unfold tokAt; rw [h.head]; unfold spB; rw [eqI_t]; exact ht⟩, show (a + 1).toNat = a.toNat + 1 by omega]
theorem At.ns {T : List TokV} {a : Int} {t : TokV} {l : List TokV} (h : At T a (t :: l)) (ht : t.kind ≠ 20) : skI T a = a := by
  have h1 := h.1
  unfold skI
  rw [skp_step, if_neg (by
    rintro ⟨_, h3⟩
    unfold tokAt at h3
    rw [h.head] at h3
    unfold spB at h3
    rw [eqI_t] at h3
    exact ht h3)]
  omega
theorem At.sk0 {T : List TokV} {a : Int} (h : At T a []) : skI T a = a := by
  have h1 := h.1
  have h2 := h.end_
  unfold skI
  rw [skp_step, if_neg (by rintro ⟨h3, _⟩; omega)]
  omega
def NsL : List TokV → Prop
  | [] => True
  | t :: _ => t.kind ≠ 20
theorem At.sk {T : List TokV} {a : Int} {l : List TokV} (h : At T a l) (hn : NsL l) : skI T a = a := by
  cases l with
  | nil => exact h.sk0
  | cons t l => exact h.ns hn
theorem At.sk1 {T : List TokV} {a : Int} {l : List TokV} (h : At T a (spT :: l)) (hn : NsL l) : skI T a = a + 1 := (h.sp rfl).trans (h.tail.sk hn)
theorem At.done {T : List TokV} {a : Int} (h : At T a []) : doneB T a = true := by
  unfold doneB
  rw [h.sk0, eqI_t]
  exact h.end_
theorem At.undone {T : List TokV} {a : Int} {t : TokV} {l : List TokV} (h : At T (skI T a) (t :: l)) : doneB T a = false := by
  unfold doneB
  rw [eqI_f]
  have := h.lt
  omega
theorem At.word {T : List TokV} {a : Int} {s : ByteArray} {l : List TokV} (h : At T (skI T a) (idT s :: l)) : wordB T a s = true ∧ wordA T a s = skI T a + 1 := by
  have h1 : wordB T a s = true := by
    unfold wordB
    rw [h.kind, h.head, show eqI (idT s).kind 1 = true from rfl, Bool.true_and, byE_t]
  exact ⟨h1, by unfold wordA; rw [if_pos h1]⟩
theorem At.noword {T : List TokV} {a : Int} {t : TokV} {s : ByteArray} {l : List TokV} (h : At T (skI T a) (t :: l)) (ht : t.kind ≠ 1 ∨ t.text.data.toList ≠ s.data.toList) : wordB T a s = false ∧ wordA T a s = skI T a := by
  have h1 : wordB T a s = false := by
    unfold wordB
    rw [h.kind, h.head, Bool.and_eq_false_iff, eqI_f, byE_f]
    exact ht
  exact ⟨h1, by unfold wordA; rw [if_neg (by rw [h1]; decide)]⟩
theorem At.noword0 {T : List TokV} {a : Int} (s : ByteArray) (h : At T (skI T a) []) : wordB T a s = false ∧ wordA T a s = skI T a := by
  have h1 : wordB T a s = false := by
    unfold wordB
    rw [h.kind0]
    rfl
  exact ⟨h1, by unfold wordA; rw [if_neg (by rw [h1]; decide)]⟩
theorem At.sign {T : List TokV} {a : Int} {s : ByteArray} {l : List TokV} (h : At T a (⟨19, s, 0⟩ :: l)) : signB T a s = true ∧ signA T a s = a + 1 := by
  have h1 : signB T a s = true := by
    unfold signB
    rw [h.kind, h.head, show eqI (19 : Int) 19 = true from rfl, Bool.true_and, byE_t]
  exact ⟨h1, by unfold signA; rw [if_pos h1]⟩
theorem At.nosign {T : List TokV} {a : Int} {t : TokV} {s : ByteArray} {l : List TokV} (h : At T a (t :: l)) (ht : t.kind ≠ 19 ∨ t.text.data.toList ≠ s.data.toList) : signB T a s = false ∧ signA T a s = a := by
  have h1 : signB T a s = false := by
    unfold signB
    rw [h.kind, h.head, Bool.and_eq_false_iff, eqI_f, byE_f]
    exact ht
  exact ⟨h1, by unfold signA; rw [if_neg (by rw [h1]; decide)]⟩
theorem At.op {T : List TokV} {a : Int} {o : Int} {l : List TokV} (h0 : 1 ≤ o) (h5 : o ≤ 5) (h : At T (skI T a) (opT o ++ spT :: l)) : opI T a = o ∧ opA T a = skI T a + (opT o).length := by
  have hc : o = 1 ∨ o = 2 ∨ o = 3 ∨ o = 4 ∨ o = 5 := by omega
  unfold opI opA opG opL
  rcases hc with rfl | rfl | rfl | rfl | rfl
  · have h : At T (skI T a) (ltT :: spT :: l) := h
    obtain ⟨e1, e2⟩ := h.sign
    obtain ⟨e3, e4⟩ := h.tail.nosign (s := ⟨⟨[61]⟩⟩) (.inl (by decide))
    simp only [e1, e2, e3, e4, if_true, if_false, Bool.false_eq_true]
    exact ⟨trivial, rfl⟩
  · have h : At T (skI T a) (ltT :: eqT :: spT :: l) := h
    obtain ⟨e1, e2⟩ := h.sign
    obtain ⟨e3, e4⟩ := h.tail.sign
    simp only [e1, e2, e3, e4, if_true, if_false, Bool.false_eq_true]
    exact ⟨trivial, by show _ = skI T a + (2 : Nat); omega⟩
  · have h : At T (skI T a) (eqT :: spT :: l) := h
    obtain ⟨e1, e2⟩ := h.nosign (s := ⟨⟨[60]⟩⟩) (.inr (by decide))
    obtain ⟨e3, e4⟩ := h.nosign (s := ⟨⟨[62]⟩⟩) (.inr (by decide))
    obtain ⟨e5, e6⟩ := h.sign
    simp only [e1, e2, e3, e4, e5, e6, if_true, if_false, Bool.false_eq_true]
    exact ⟨trivial, rfl⟩
  · have h : At T (skI T a) (gtT :: eqT :: spT :: l) := h
    obtain ⟨e1, e2⟩ := h.nosign (s := ⟨⟨[60]⟩⟩) (.inr (by decide))
    obtain ⟨e3, e4⟩ := h.sign
    obtain ⟨e5, e6⟩ := h.tail.sign
    simp only [e1, e2, e3, e4, e5, e6, if_true, if_false, Bool.false_eq_true]
    exact ⟨trivial, by show _ = skI T a + (2 : Nat); omega⟩
  · have h : At T (skI T a) (gtT :: spT :: l) := h
    obtain ⟨e1, e2⟩ := h.nosign (s := ⟨⟨[60]⟩⟩) (.inr (by decide))
    obtain ⟨e3, e4⟩ := h.sign
    obtain ⟨e5, e6⟩ := h.tail.nosign (s := ⟨⟨[61]⟩⟩) (.inl (by decide))
    simp only [e1, e2, e3, e4, e5, e6, if_true, if_false, Bool.false_eq_true]
    exact ⟨trivial, rfl⟩
theorem lenV {T : List TokV} {a : Int} {n : Int} {l : List TokV} (h : At T a (⟨9, ⟨#[112, 120]⟩, n⟩ :: l)) : lenN T a = n ∧ lenB T a = true ∧ lenA T a = a + 1 := by
  have h1 : pxB T a = true := by
    unfold pxB
    rw [h.kind, h.head, show eqI (9 : Int) 9 = true from rfl, Bool.true_and, byE_t]
  unfold lenN lenB lenA nI
  rw [h1, h.head]
  exact ⟨rfl, rfl, rfl⟩
theorem numV {T : List TokV} {a : Int} {n : Int} {l : List TokV} (h : At T a (⟨7, ⟨#[]⟩, n⟩ :: l)) : numbN T a = n ∧ numbB T a = true ∧ numbA T a = a + 1 := by
  have h1 : numbB T a = true := by
    unfold numbB
    rw [h.kind]
    rfl
  unfold numbN numbA nI
  rw [h1, h.head]
  exact ⟨rfl, rfl, rfl⟩
theorem ratV {T : List TokV} {a : Int} {n d : Int} {l : List TokV} (hn : 1 ≤ n) (hd : 1 ≤ d) (h : At T a (⟨7, ⟨#[]⟩, n⟩ :: spT :: slT :: spT :: ⟨7, ⟨#[]⟩, d⟩ :: l)) : ratB T a = true ∧ numbN T a = n ∧ ratD T a = d ∧ ratA T a = a + 5 := by
  obtain ⟨e1, e2, e3⟩ := numV h
  have h2 := h.tail
  have e4 : ratS T a = a + 2 := by
    unfold ratS
    rw [e3, h2.sk1 (by show (19 : Int) ≠ 20; decide)]
    omega
  have h3 : At T (a + 2) (slT :: spT :: ⟨7, ⟨#[]⟩, d⟩ :: l) := by have := h2.tail; rwa [show a + 1 + 1 = a + 2 by omega] at this
  obtain ⟨e5, e6⟩ := h3.sign
  have h4 := h3.tail
  have e7 : ratK T a = a + 4 := by
    unfold ratK
    rw [e4, e6, h4.sk1 (by show (7 : Int) ≠ 20; decide)]
    omega
  have h5 : At T (a + 4) (⟨7, ⟨#[]⟩, d⟩ :: l) := by have := h4.tail; rwa [show a + 2 + 1 + 1 = a + 4 by omega] at this
  obtain ⟨e8, e9, e10⟩ := numV h5
  have l1 : leI n 0 = false := by rw [leI_f]; omega
  have l2 : leI d 0 = false := by rw [leI_f]; omega
  refine ⟨?_, e1, ?_, ?_⟩
  · unfold ratB
    rw [e4, if_pos e5, e7, e2, e9, e1, e8, l1, l2]
    rfl
  · unfold ratD
    rw [e4, if_pos e5, e7, e8]
  · unfold ratA
    rw [e4, if_pos e5, e7, e10]
    omega
def VOk (f n d : Int) : Prop := if f = 5 then 1 ≤ n ∧ 1 ≤ d else d = 0
theorem At.value {T : List TokV} {a : Int} {f n d : Int} {l : List TokV} (h1 : f ≠ 6) (hv : VOk f n d) (h : At T (skI T a) (valT f n d ++ l)) : bnB T a f = true ∧ bnN T a f = n ∧ bnD T a f = d ∧ bnA T a f = skI T a + (valT f n d).length := by
  unfold bnB bnN bnD bnA
  unfold VOk at hv
  unfold valT at h ⊢
  have e6 : eqI f 6 = false := by rw [eqI_f]; exact h1
  by_cases h5 : f = 5
  · subst h5
    rw [if_pos rfl] at hv h
    have h : At T (skI T a) (⟨7, ⟨#[]⟩, n⟩ :: spT :: slT :: spT :: ⟨7, ⟨#[]⟩, d⟩ :: l) := h
    obtain ⟨r1, r2, r3, r4⟩ := ratV hv.1 hv.2 h
    simp only [show eqI (5 : Int) 5 = true from rfl, if_true]
    exact ⟨r1, r2, r3, r4⟩
  · have e5 : eqI f 5 = false := by rw [eqI_f]; exact h5
    rw [if_neg h5] at hv h ⊢
    have h : At T (skI T a) (⟨9, ⟨#[112, 120]⟩, n⟩ :: l) := h
    obtain ⟨r1, r2, r3⟩ := lenV h
    simp only [e5, e6, Bool.false_eq_true, if_false]
    exact ⟨r2, r1, hv.symm, r3⟩
end Go.Proofs.Ytlmanlpgknhfpaa
namespace Go.Proofs.Ytlmanlpgknhfpaa
open Go Go.RowKit Pl Sy
theorem fits_cases {f lo ln ld ho hn hd : Int} (h : fitsV f lo ln ld ho hn hd = true) :
    (ho = 0 ∧ hn = 0 ∧ hd = 0 ∧ lo = 0 ∧ ln = 0 ∧ ld = 0) ∨ (f = 6 ∧ (ho = 3 ∧ (hn = 1 ∨ hn = 2) ∧ hd = 0) ∧ lo = 0 ∧ ln = 0 ∧ ld = 0) ∨
    (f ≠ 6 ∧ (1 ≤ ho ∧ ho ≤ 5) ∧ VOk f hn hd ∧ ((lo = 0 ∧ ln = 0 ∧ ld = 0) ∨ ((1 ≤ lo ∧ lo ≤ 5) ∧ VOk f ln ld))) := by
  unfold fitsV at h
  rw [decide_eq_true_eq] at h
  unfold valOk at h
  simp only [decide_eq_true_eq] at h
  unfold VOk
  rcases h with h | ⟨h1, h2, h3, h4, h5⟩
  · exact .inl h
  · refine .inr ?_
    by_cases h6 : f = 6
    · refine .inl ⟨h6, ?_⟩
      omega
    · refine .inr ⟨h6, ⟨h2, h3⟩, ?_, ?_⟩
      · split <;> omega
      · rcases h5 with h5 | ⟨h5, h7, h8⟩
        · exact .inl h5
        · refine .inr ⟨by omega, ?_⟩
          split <;> omega
def fiT (q : QNodeV) : List TokV := loT q ++ ([idT (featS q.feat)] ++ hiT q)
theorem feaT_fi (q : QNodeV) : feaT q = opnT :: (fiT q ++ [cloT]) := by unfold feaT fiT; simp [List.append_assoc]
theorem featS_cal (f : Int) (h1 : 1 ≤ f) (h6 : f ≤ 6) : calI (featS f) = f ∧ nmdF (featS f) = f ∧ nmdO (featS f) = 3 := by
  have hc : f = 1 ∨ f = 2 ∨ f = 3 ∨ f = 4 ∨ f = 5 ∨ f = 6 := by omega
  rcases hc with rfl | rfl | rfl | rfl | rfl | rfl <;> exact ⟨by decide, by decide, by decide⟩
theorem opT_cons (o : Int) : ∃ t l, opT o = t :: l ∧ t.kind = 19 := by
  unfold opT
  (repeat' split) <;> exact ⟨_, _, rfl, rfl⟩
theorem valT_cons (f n d : Int) : ∃ t l, valT f n d = t :: l ∧ (t.kind = 9 ∨ t.kind = 7) := by
  unfold valT
  split
  · exact ⟨_, _, rfl, .inr rfl⟩
  · exact ⟨_, _, rfl, .inl rfl⟩
theorem NsL.op (o : Int) (l : List TokV) : NsL (opT o ++ l) := by
  obtain ⟨t, r, e, h⟩ := opT_cons o
  rw [e]
  show t.kind ≠ 20
  omega
theorem NsL.val (f n d : Int) (l : List TokV) : NsL (valT f n d ++ l) := by
  obtain ⟨t, r, e, h⟩ := valT_cons f n d
  rw [e]
  show t.kind ≠ 20
  omega
theorem idP_step (l : List TokV) (k : Nat) : idP l k = if k < l.length ∧ eqI (tokAt l k).kind 1 = false then idP l (k + 1) else k := by
  unfold idP
  rw [Sy.hops_step (fun k _ => Nat.lt_succ_self k)]
theorem At.id {T : List TokV} {s : ByteArray} {r : List TokV} : ∀ {x : List TokV} {a : Int}, (∀ t ∈ x, t.kind ≠ 1) → At T a (x ++ idT s :: r) → idI T a = a + x.length
  | [], a, hx, h => by
    have h1 := h.1
    have h : At T a (idT s :: r) := h
    unfold idI
    rw [idP_step, if_neg (by
      rintro ⟨_, h3⟩
      unfold tokAt at h3
      rw [h.head, eqI_f] at h3
      exact h3 rfl)]
    simp
    omega
  | t :: x, a, hx, h => by
    have h1 := h.1
    have h : At T a (t :: (x ++ idT s :: r)) := h
    have ih := At.id (fun t ht => hx t (List.mem_cons_of_mem _ ht)) h.tail
    have h2 := h.lt
    unfold idI at ih ⊢
    rw [idP_step, if_pos ⟨by omega, by unfold tokAt; rw [h.head, eqI_f]; exact hx t (List.mem_cons_self)⟩, show a.toNat + 1 = (a + 1).toNat by omega, ih, List.length_cons]
    omega
theorem opT_noid (o : Int) : ∀ t ∈ opT o, t.kind ≠ 1 := by
  unfold opT
  (repeat' split) <;> simp
theorem valT_noid (f n d : Int) : ∀ t ∈ valT f n d, t.kind ≠ 1 := by
  unfold valT
  split <;> simp
theorem read_none (f : Int) (h1 : 1 ≤ f) (h6 : f ≤ 6) : ftB (fiT ⟨4, 0, f, 0, 0, 0, 0, 0, 0⟩) 0 = true ∧ ftV (fiT ⟨4, 0, f, 0, 0, 0, 0, 0, 0⟩) 0 = ⟨4, 0, f, 0, 0, 0, 0, 0, 0⟩ := by
  have hc : f = 1 ∨ f = 2 ∨ f = 3 ∨ f = 4 ∨ f = 5 ∨ f = 6 := by omega
  rcases hc with rfl | rfl | rfl | rfl | rfl | rfl <;> exact ⟨by rfl, by rfl⟩
theorem read_turned (n : Int) (hn : n = 1 ∨ n = 2) : ftB (fiT ⟨4, 0, 6, 0, 0, 0, 3, n, 0⟩) 0 = true ∧ ftV (fiT ⟨4, 0, 6, 0, 0, 0, 3, n, 0⟩) 0 = ⟨4, 0, 6, 0, 0, 0, 3, n, 0⟩ := by
  rcases hn with rfl | rfl <;> exact ⟨by rfl, by rfl⟩
theorem read_hi (f ho hn hd : Int) (h1 : 1 ≤ f) (h6 : f ≤ 6) (hf : f ≠ 6) (ho1 : 1 ≤ ho) (ho5 : ho ≤ 5) (hv : VOk f hn hd) : ftB (fiT ⟨4, 0, f, 0, 0, 0, ho, hn, hd⟩) 0 = true ∧ ftV (fiT ⟨4, 0, f, 0, 0, 0, ho, hn, hd⟩) 0 = ⟨4, 0, f, 0, 0, 0, ho, hn, hd⟩ := by
  have eL : fiT ⟨4, 0, f, 0, 0, 0, ho, hn, hd⟩ = idT (featS f) :: spT :: (opT ho ++ spT :: (valT f hn hd ++ [])) := by
    unfold fiT loT hiT
    rw [if_pos (by rfl), if_neg (by show ¬ ho = 0; omega), if_neg hf]
    simp
  rw [eL]
  generalize hT : idT (featS f) :: spT :: (opT ho ++ spT :: (valT f hn hd ++ [])) = T
  have a0 : At T 0 (idT (featS f) :: spT :: (opT ho ++ spT :: (valT f hn hd ++ []))) := by rw [← hT]; exact At.zero _
  obtain ⟨c1, c2, c3⟩ := featS_cal f h1 h6
  have s0 : skI T 0 = 0 := a0.ns (by show (1 : Int) ≠ 20; decide)
  have b0 : ftB0 T 0 = true := by unfold ftB0; rw [s0, a0.kind]; rfl
  have a1 := a0.tail
  have a2 := a1.tail
  have f1 : frF T 0 = f := by unfold frF; rw [a0.head]; exact c2
  have f2 : frO T 0 = 3 := by unfold frO; rw [a0.head]; exact c3
  have f3 : frS T 0 = 2 := by unfold frS; rw [a1.sk1 (NsL.op ho _)]; rfl
  have a2 : At T 2 (opT ho ++ spT :: (valT f hn hd ++ [])) := a2
  have s2 : skI T 2 = 2 := a2.sk (NsL.op ho _)
  obtain ⟨t, l, e1, e2⟩ := opT_cons ho
  have k2 : kindI T 2 = 19 := by rw [e1] at a2; rw [a2.kind]; exact e2
  have d2 : doneB T 2 = false := by rw [e1] at a2; exact At.undone (by rw [s2]; exact a2)
  obtain ⟨o1, o2⟩ := At.op ho1 ho5 (by rw [s2]; exact a2)
  have a3 := a2.app
  have s3 : skI T (2 + (opT ho).length) = 2 + (opT ho).length + 1 := a3.sk1 (NsL.val f hn hd _)
  have a4 := a3.tail
  rw [s2] at o2
  obtain ⟨v1, v2, v3, v4⟩ := At.value (f := f) (n := hn) (d := hd) (a := 2 + (opT ho).length) hf hv (by rw [s3]; exact a4)
  have a5 := a4.app
  have fq : frQ T 0 = 2 + (opT ho).length := by unfold frQ; rw [f3, s2, o2]
  have g : ∀ {α : Type} (no col opm emp bad full : α), frG T 0 no col opm emp bad full = full := by
    intro α no col opm emp bad full
    unfold frG
    rw [f1, f2, f3, k2, d2, s2, o1]
    rw [show leI f 0 = false by rw [leI_f]; omega, show eqI ho 0 = false by rw [eqI_f]; omega, show eqI f 6 = false by rw [eqI_f]; exact hf]
    rfl
  unfold ftB ftV
  rw [b0, s0]
  simp only [if_true]
  unfold frB frV frHo frHn frHd
  simp only [g]
  rw [f1, f3, fq, s2, v1, v2, v3, v4, s3, o1]
  exact ⟨by rw [Bool.true_and]; exact a5.done, rfl⟩
end Go.Proofs.Ytlmanlpgknhfpaa
namespace Go.Proofs.Ytlmanlpgknhfpaa
open Go Go.RowKit Pl Sy
theorem read_two (f lo ln ld ho hn hd : Int) (h1 : 1 ≤ f) (h6 : f ≤ 6) (hf : f ≠ 6) (ho1 : 1 ≤ ho) (ho5 : ho ≤ 5) (hv : VOk f hn hd) (lo1 : 1 ≤ lo) (lo5 : lo ≤ 5) (hw : VOk f ln ld) (hfit : fitsV f lo ln ld ho hn hd = true) : ftB (fiT ⟨4, 0, f, lo, ln, ld, ho, hn, hd⟩) 0 = true ∧ ftV (fiT ⟨4, 0, f, lo, ln, ld, ho, hn, hd⟩) 0 = ⟨4, 0, f, lo, ln, ld, ho, hn, hd⟩ := by
  have eL : fiT ⟨4, 0, f, lo, ln, ld, ho, hn, hd⟩ = valT f ln ld ++ spT :: (opT lo ++ spT :: idT (featS f) :: spT :: (opT ho ++ spT :: (valT f hn hd ++ []))) := by
    unfold fiT loT hiT
    rw [if_neg (by show ¬ leI lo 0 = true; rw [leI_t]; omega), if_neg (by show ¬ ho = 0; omega), if_neg hf]
    simp
  rw [eL]
  generalize hT : valT f ln ld ++ spT :: (opT lo ++ spT :: idT (featS f) :: spT :: (opT ho ++ spT :: (valT f hn hd ++ []))) = T
  have a0 : At T 0 (valT f ln ld ++ spT :: (opT lo ++ spT :: idT (featS f) :: spT :: (opT ho ++ spT :: (valT f hn hd ++ [])))) := by rw [← hT]; exact At.zero _
  obtain ⟨c1, c2, c3⟩ := featS_cal f h1 h6
  have s0 : skI T 0 = 0 := a0.sk (NsL.val f ln ld _)
  obtain ⟨tv, lv, ev, kv'⟩ := valT_cons f ln ld
  have b0 : ftB0 T 0 = false := by
    have a0' := a0
    rw [ev] at a0'
    unfold ftB0
    rw [s0, a0'.kind, eqI_f]
    omega
  obtain ⟨v1, v2, v3, v4⟩ := At.value (f := f) (n := ln) (d := ld) (a := 0) hf hw (by rw [s0]; exact a0)
  rw [s0] at v4
  have a1 := a0.app
  generalize hp1 : (0 : Int) + (valT f ln ld).length = p1 at a1 v4
  have s1 : skI T p1 = p1 + 1 := a1.sk1 (NsL.op lo _)
  have a2 := a1.tail
  obtain ⟨o1, o2⟩ := At.op (a := p1) lo1 lo5 (by rw [s1]; exact a2)
  rw [s1] at o2
  have a3 := a2.app
  have hid : idI T 0 = p1 + 1 + (opT lo).length + 1 := by
    have := At.id (T := T) (s := featS f) (r := spT :: (opT ho ++ spT :: (valT f hn hd ++ []))) (x := valT f ln ld ++ spT :: (opT lo ++ [spT])) (a := 0) (by
      intro t ht
      simp only [List.mem_append, List.mem_cons, List.not_mem_nil, or_false] at ht
      rcases ht with ht | rfl | ht | rfl
      · exact valT_noid _ _ _ t ht
      · decide
      · exact opT_noid _ t ht
      · decide) (by simp only [List.append_assoc, List.cons_append, List.nil_append]; exact a0)
    rw [this]
    simp only [List.length_append, List.length_cons, List.length_nil]
    omega
  generalize hp2 : p1 + 1 + ((opT lo).length : Int) = p2 at a3 o2 hid
  have s3 : skI T p2 = p2 + 1 := a3.sk1 (by show (1 : Int) ≠ 20; decide)
  have a4 := a3.tail
  obtain ⟨w1, w2⟩ := At.word (a := p2) (by rw [s3]; exact a4)
  rw [s3] at w2
  have a5 := a4.tail
  have hne : eqI (p2 + 1) T.length = false := by rw [eqI_f]; have := a4.lt; omega
  have fF : bkF T 0 = f := by unfold bkF; rw [hid, a4.head]; exact c1
  generalize hp3 : p2 + 1 + 1 = p3 at a5 w2
  have s5 : skI T p3 = p3 + 1 := a5.sk1 (NsL.op ho _)
  have a6 := a5.tail
  obtain ⟨t, l, e1, e2⟩ := opT_cons ho
  have d5 : doneB T p3 = false := by
    have a6' := a6
    rw [e1] at a6'
    exact At.undone (by rw [s5]; exact a6')
  have s6 : skI T (p3 + 1) = p3 + 1 := a6.sk (NsL.op ho _)
  obtain ⟨o3, o4⟩ := At.op (a := p3 + 1) ho1 ho5 (by rw [s6]; exact a6)
  rw [s6] at o4
  have a7 := a6.app
  generalize hp4 : p3 + 1 + ((opT ho).length : Int) = p4 at a7 o4
  have s7 : skI T p4 = p4 + 1 := a7.sk1 (NsL.val f hn hd _)
  have a8 := a7.tail
  obtain ⟨v5, v6, v7, v8⟩ := At.value (f := f) (n := hn) (d := hd) (a := p4) hf hv (by rw [s7]; exact a8)
  have a9 := a8.app
  have g1 : bk1 T 0 = p1 := by unfold bk1; rw [fF, v4]
  have g2 : bk2 T 0 = p2 := by unfold bk2; rw [g1, o2]
  have g3 : bk3 T 0 = p3 := by unfold bk3; rw [g2, fF, w2]
  have g5 : bk5 T 0 = p4 := by unfold bk5; rw [g3, s5, o4]
  have g6 : bk6 T 0 = p4 + 1 + (valT f hn hd).length := by unfold bk6; rw [g5, fF, v8, s7]
  have g : ∀ {α : Type} (none_ bad badv badw one two : α), bkG T 0 none_ bad badv badw one two = two := by
    intro α none_ bad badv badw one two
    unfold bkG
    rw [hid, hne, fF, g1, g2, g3, v1, o1, w1, d5]
    rw [show eqI f 0 = false by rw [eqI_f]; omega, show eqI f 6 = false by rw [eqI_f]; exact hf, show eqI lo 0 = false by rw [eqI_f]; omega]
    rfl
  have q2 : bkQ2 T 0 = ⟨4, 0, f, lo, ln, ld, ho, hn, hd⟩ := by
    unfold bkQ2
    rw [fF, g1, g3, g5, s5, o1, o3, v2, v3, v6, v7]
  unfold ftB ftV
  rw [b0, s0]
  simp only [Bool.false_eq_true, if_false]
  unfold bkB bkV
  simp only [g]
  rw [q2, g5, fF, v5, g6, a9.done]
  exact ⟨by unfold qfits; exact hfit, rfl⟩
theorem read_feat {q : QNodeV} (hk : q.kind = 4) (h : rightV q.kind q.count q.feat q.lo q.ln q.ld q.ho q.hn q.hd = true) : ftB (fiT q) 0 = true ∧ ftV (fiT q) 0 = q := by
  obtain ⟨k, c, f, lo, ln, ld, ho, hn, hd⟩ := q
  simp only at hk h
  subst hk
  unfold rightV at h
  rw [decide_eq_true_eq] at h
  rcases h with ⟨_, rfl, h1, h6, hfit⟩ | ⟨h, _⟩
  · rcases fits_cases hfit with ⟨rfl, rfl, rfl, rfl, rfl, rfl⟩ | ⟨rfl, ⟨rfl, hn12, rfl⟩, rfl, rfl, rfl⟩ | ⟨hf, ⟨ho1, ho5⟩, hv, ⟨rfl, rfl, rfl⟩ | ⟨⟨lo1, lo5⟩, hw⟩⟩
    · exact read_none f h1 h6
    · exact read_turned hn hn12
    · exact read_hi f ho hn hd h1 h6 hf ho1 ho5 hv
    · exact read_two f lo ln ld ho hn hd h1 h6 hf ho1 ho5 hv lo1 lo5 hw hfit
  · exact absurd rfl h
theorem noft_open {T l : List TokV} {a : Int} (h : At T (skI T a) (opnT :: l)) : ftB T a = false := by
  have b0 : ftB0 T a = false := by
    unfold ftB0
    rw [h.kind]
    rfl
  have s1 : skI T (skI T a) = skI T a := h.ns (by show (13 : Int) ≠ 20; decide)
  unfold ftB
  rw [b0]
  simp only [Bool.false_eq_true, if_false]
  have n1 : numbB T (skI T a) = false := by unfold numbB; rw [h.kind]; rfl
  have n2 : pxB T (skI T a) = false := by unfold pxB; rw [h.kind]; rfl
  have hv : ∀ f, f ≠ 6 → bnB T (skI T a) f = false := by
    intro f hf
    unfold bnB
    rw [s1, show eqI f 6 = false by rw [eqI_f]; exact hf]
    simp only [Bool.false_eq_true, if_false]
    split
    · unfold ratB
      rw [n1]
      split <;> rfl
    · unfold lenB
      rw [n1, n2]
      rfl
  unfold bkB bkG
  split
  · rfl
  · split
    · rfl
    · split
      · rfl
      · rename_i h6
        rw [hv _ (by intro e; rw [eqI_t] at h6; exact h6 e)]
        rfl
theorem noft_not {T l : List TokV} {a : Int} (h : At T (skI T a) (idT ⟨#[110, 111, 116]⟩ :: l)) : ftB T a = false := by
  have b0 : ftB0 T a = true := by
    unfold ftB0
    rw [h.kind]
    rfl
  unfold ftB
  rw [b0]
  simp only [if_true]
  unfold frB frG
  have f1 : frF T (skI T a) = 0 := by unfold frF; rw [h.head]; decide
  rw [f1]
  rfl
end Go.Proofs.Ytlmanlpgknhfpaa
namespace Go.Proofs.Ytlmanlpgknhfpaa
open Go Go.RowKit Pl Sy
inductive Bal : List TokV → Prop
  | nil : Bal []
  | one (t : TokV) (l : List TokV) (h : clo t.kind = 0) (h' : t.kind ≠ 14) (hl : Bal l) : Bal (t :: l)
  | br (l r : List TokV) (hl : Bal l) (hr : Bal r) : Bal (opnT :: (l ++ cloT :: r))
theorem Bal.app {a b : List TokV} (h : Bal a) (hb : Bal b) : Bal (a ++ b) := by
  induction h with
  | nil => exact hb
  | one t l h h' hl ih => exact Bal.one t _ h h' ih
  | br l r hl hr ihl ihr =>
    have := Bal.br l (r ++ b) hl ihr
    simpa [List.append_assoc] using this
theorem Bal.plain : ∀ {l : List TokV}, (∀ t ∈ l, clo t.kind = 0 ∧ t.kind ≠ 14) → Bal l
  | [], h => .nil
  | t :: l, h => .one t l (h t List.mem_cons_self).1 (h t List.mem_cons_self).2 (Bal.plain fun t ht => h t (List.mem_cons_of_mem _ ht))
theorem At.kget {T : List TokV} {a : Int} {t : TokV} {l : List TokV} (h : At T a (t :: l)) (h' : a.toNat < (kindsT T).length) : (kindsT T)[a.toNat] = t.kind := by
  have h1 := h.1
  have h2 : a.toNat < T.length := by have := h.lt; omega
  rw [kindsT_get h2]
  have h3 := h.head
  rw [List.getD_eq_getElem?_getD, List.getElem?_eq_getElem h2] at h3
  rw [← h3]
  rfl
theorem At.kin {T : List TokV} {a : Int} {t : TokV} {l : List TokV} (h : At T a (t :: l)) : a.toNat < (kindsT T).length := by
  rw [kindsT_len]
  have := h.lt
  have := h.1
  omega
theorem Bal.runs {T L : List TokV} (hL : Bal L) : ∀ (a : Int) (r : List TokV) (st : List Int), At T a (L ++ r) → Pl.runs (kindsT T) a.toNat (14 :: st) = Pl.runs (kindsT T) (a.toNat + L.length) (14 :: st) := by
  induction hL with
  | nil => intro a r st h; rfl
  | one t l h h' hl ih =>
    intro a r st ha
    have ha : At T a (t :: (l ++ r)) := ha
    have h1 := ha.1
    have h2 := ih (a + 1) r st ha.tail
    rw [show (a + 1).toNat = a.toNat + 1 by omega] at h2
    rw [runs_step _ ha.kin, ha.kget ha.kin, if_neg (by rw [h]; simp)]
    show (if t.kind = 14 then _ else _) = _
    rw [if_neg h', h2, List.length_cons]
    congr 1
    omega
  | br l r' hl hr ihl ihr =>
    intro a r st ha
    have ha : At T a (opnT :: (l ++ (cloT :: (r' ++ r)))) := by simpa [List.append_assoc] using ha
    have h1 := ha.1
    have h2 := ihl (a + 1) _ (14 :: st) ha.tail
    rw [show (a + 1).toNat = a.toNat + 1 by omega] at h2
    have hc := ha.tail.app
    have h3 := ihr (a + 1 + l.length + 1) r st hc.tail
    rw [show (a + 1 + (l.length : Int) + 1).toNat = a.toNat + 1 + l.length + 1 by omega] at h3
    rw [runs_step _ ha.kin, ha.kget ha.kin, if_pos (by show clo 13 ≠ 0; decide)]
    show Pl.runs (kindsT T) (a.toNat + 1) (14 :: 14 :: st) = _
    rw [h2]
    have e : a.toNat + 1 + l.length = (a + 1 + (l.length : Int)).toNat := by omega
    rw [runs_step (k := a.toNat + 1 + l.length) _ (by rw [e]; exact hc.kin)]
    have ek : (kindsT T)[a.toNat + 1 + l.length]'(by rw [e]; exact hc.kin) = 14 := by
      have := hc.kget hc.kin
      simp only [← e] at this
      exact this
    rw [ek, if_neg (by decide)]
    show Pl.runs (kindsT T) (a.toNat + 1 + l.length + 1) (14 :: st) = _
    rw [h3]
    congr 1
    simp only [List.length_cons, List.length_append]
    omega
theorem At.mt {T L r : List TokV} {a : Int} (h : At T a (opnT :: (L ++ cloT :: r))) (hL : Bal L) : mtI T a = a + 1 + L.length := by
  have h1 := h.1
  have hlt := h.lt
  have hk := h.kin
  have hr := hL.runs (a + 1) (cloT :: r) [] h.tail
  have hc := h.tail.app
  rw [show (a + 1).toNat = a.toNat + 1 by omega] at hr
  have e : a.toNat + 1 + L.length = (a + 1 + (L.length : Int)).toNat := by omega
  have ek : (kindsT T)[a.toNat + 1 + L.length]'(by rw [e]; exact hc.kin) = 14 := by
    have := hc.kget hc.kin
    simp only [← e] at this
    exact this
  unfold mtI mtc
  rw [dif_pos ⟨h1.1, by omega⟩, h.kget hk, if_neg (by show clo 13 ≠ 0; decide)]
  show ((Pl.runs (kindsT T) (a.toNat + 1) [14] : Nat) : Int) = _
  rw [hr, runs_step (k := a.toNat + 1 + L.length) _ (by rw [e]; exact hc.kin), ek, if_neg (by decide)]
  show ((a.toNat + 1 + L.length : Nat) : Int) = _
  omega
theorem At.inner {T L r : List TokV} {a : Int} (h : At T (skI T a) (opnT :: (L ++ cloT :: r))) (hL : Bal L) : innB T a = true ∧ innL T a = L ∧ innA T a = skI T a + (L.length + 2 : Nat) := by
  have h1 := h.1
  have hm : innE T a = skI T a + 1 + L.length := h.mt hL
  have hl := h.len
  simp only [List.length_cons, List.length_append] at hl
  have b : innB T a = true := by
    unfold innB
    rw [h.kind, hm, Bool.and_eq_true]
    exact ⟨rfl, by rw [Bool.not_eq_true', eqI_f]; omega⟩
  refine ⟨b, ?_, ?_⟩
  · unfold innL
    rw [if_pos b, hm, show skI T a + 1 + (L.length : Int) - (skI T a + 1) = L.length by omega, Int.toNat_natCast, h.tail.2, List.take_left]
  · unfold innA
    rw [if_pos b, hm]
    omega
def TmOk (K : CnK) (xs : List QNodeV) (g : Int → List TokV) (i : Int) (ns : List QNodeV) : Prop :=
  ((nodeN xs i).kind = 4 ∧ g i = feaT (nodeN xs i) ∧ rightV (nodeN xs i).kind (nodeN xs i).count (nodeN xs i).feat (nodeN xs i).lo (nodeN xs i).ln (nodeN xs i).ld (nodeN xs i).ho (nodeN xs i).hn (nodeN xs i).hd = true ∧ ns = [nodeN xs i]) ∨
  ((nodeN xs i).kind ≠ 4 ∧ Bal (g i) ∧ ftB (g i) 0 = false ∧ K.B (g i) = true ∧ K.N (g i) = ns)
theorem fiT_bal (q : QNodeV) : Bal (fiT q) := by
  refine Bal.plain fun t ht => ?_
  have hv : ∀ f n d, ∀ t ∈ valT f n d, clo t.kind = 0 ∧ t.kind ≠ 14 := by
    intro f n d t ht
    unfold valT at ht
    split at ht <;> simp only [List.mem_cons, List.not_mem_nil, or_false] at ht <;> (repeat' (rcases ht with rfl | ht)) <;> (try subst ht) <;> exact ⟨rfl, by simp⟩
  have ho : ∀ o, ∀ t ∈ opT o, clo t.kind = 0 ∧ t.kind ≠ 14 := by
    intro o t ht
    unfold opT at ht
    (repeat' split at ht) <;> simp only [List.mem_cons, List.not_mem_nil, or_false] at ht <;> (repeat' (rcases ht with rfl | ht)) <;> (try subst ht) <;> exact ⟨rfl, by simp⟩
  have hs : clo spT.kind = 0 ∧ spT.kind ≠ 14 := ⟨rfl, by decide⟩
  unfold fiT loT hiT trnT at ht
  simp only [List.mem_append, List.mem_cons, List.not_mem_nil, or_false] at ht
  rcases ht with ht | rfl | ht
  · split at ht
    · simp at ht
    · simp only [List.mem_append, List.mem_cons, List.not_mem_nil, or_false] at ht
      rcases ht with ht | rfl | ht | rfl
      · exact hv _ _ _ t ht
      · exact hs
      · exact ho _ t ht
      · exact hs
  · exact ⟨rfl, by show (1 : Int) ≠ 14; decide⟩
  · split at ht
    · simp at ht
    · split at ht
      · simp only [List.mem_cons, List.not_mem_nil, or_false] at ht
        rcases ht with rfl | rfl | rfl
        · exact ⟨rfl, by show (10 : Int) ≠ 14; decide⟩
        · exact hs
        · exact ⟨rfl, by show (1 : Int) ≠ 14; decide⟩
      · simp only [List.mem_append, List.mem_cons, List.not_mem_nil, or_false] at ht
        rcases ht with rfl | ht | rfl | ht
        · exact hs
        · exact ho _ t ht
        · exact hs
        · exact hv _ _ _ t ht
theorem TmOk.read {K : CnK} {xs : List QNodeV} {g : Int → List TokV} {i : Int} {ns : List QNodeV} (hg : TmOk K xs g i ns) {T r : List TokV} {a : Int} (h : At T (skI T a) (tmT xs g i ++ r)) : trmB K T a = true ∧ trmN K T a = ns ∧ innA T a = skI T a + (tmT xs g i).length := by
  unfold tmT at h ⊢
  rcases hg with ⟨h1, h2, h3, h4⟩ | ⟨h1, h2, h3, h4, h5⟩
  · rw [if_pos h1] at h ⊢
    rw [h2, feaT_fi] at h ⊢
    obtain ⟨e1, e2, e3⟩ := At.inner (L := fiT (nodeN xs i)) (r := r) (by simpa [List.append_assoc] using h) (fiT_bal _)
    obtain ⟨e4, e5⟩ := read_feat h1 h3
    unfold trmB trmN
    rw [e1, e2, e4, e5, e3]
    refine ⟨rfl, ?_, ?_⟩
    · rw [if_pos rfl, if_pos rfl, h4]
    · simp only [List.length_cons, List.length_append, List.length_nil]
  · rw [if_neg h1] at h ⊢
    obtain ⟨e1, e2, e3⟩ := At.inner (L := g i) (r := r) (by simpa [List.append_assoc] using h) h2
    unfold trmB trmN
    rw [e1, e2, e3, h3, h4, h5]
    refine ⟨rfl, ?_, ?_⟩
    · rw [if_pos rfl, if_neg (by decide)]
    · simp only [List.length_cons, List.length_append, List.length_nil]
      omega
theorem tmT_cons {K : CnK} {xs : List QNodeV} {g : Int → List TokV} {i : Int} {ns : List QNodeV} (hg : TmOk K xs g i ns) : ∃ l, tmT xs g i = opnT :: l := by
  unfold tmT
  rcases hg with ⟨h1, h2, h3, h4⟩ | ⟨h1, _⟩
  · rw [if_pos h1, h2, feaT_fi]
    exact ⟨_, rfl⟩
  · rw [if_neg h1]
    exact ⟨_, rfl⟩
def lpN (xs : List QNodeV) (ns : Int → List QNodeV) : Nat → Int → List QNodeV
  | 0, _ => []
  | m + 1, i => ns i ++ lpN xs ns m (spanI xs i)
def TmsOk (K : CnK) (xs : List QNodeV) (g : Int → List TokV) (ns : Int → List QNodeV) : Nat → Int → Prop
  | 0, _ => True
  | m + 1, i => TmOk K xs g i (ns i) ∧ TmsOk K xs g ns m (spanI xs i)
theorem chain_read (K : CnK) (xs : List QNodeV) (g : Int → List TokV) (ns : Int → List QNodeV) (T : List TokV) (w : ByteArray) : ∀ (m : Nat) (j a : Int) (ys : List QNodeV) (c : Int) (n : Nat), m < n → At T a (lpT xs g w m j) → TmsOk K xs g ns m j → ∃ e, chnE K T w n a ys c = ⟨ys ++ lpN xs ns m j, c + m, e, true⟩ ∧ At T e []
  | 0, j, a, ys, c, n, hn, h, hg => by
    have h : At T a [] := h
    obtain ⟨n, rfl⟩ : ∃ k, n = k + 1 := ⟨n - 1, by omega⟩
    obtain ⟨e1, e2⟩ := At.noword0 w (a := a) (by rw [h.sk0]; exact h)
    refine ⟨a, ?_, h⟩
    unfold chnE
    rw [if_neg (by rw [e1]; decide), e2, h.sk0]
    show _ = ChR.mk (ys ++ []) _ _ _
    rw [List.append_nil, show c + ((0 : Nat) : Int) = c by omega]
  | m + 1, j, a, ys, c, n, hn, h, hg => by
    obtain ⟨hg1, hg2⟩ := hg
    obtain ⟨n, rfl⟩ : ∃ k, n = k + 1 := ⟨n - 1, by omega⟩
    have h : At T a (spT :: idT w :: spT :: (tmT xs g j ++ lpT xs g w m (spanI xs j))) := h
    obtain ⟨l, hl⟩ := tmT_cons hg1
    have s1 : skI T a = a + 1 := h.sk1 (by show (1 : Int) ≠ 20; decide)
    obtain ⟨e1, e2⟩ := At.word (a := a) (by rw [s1]; exact h.tail)
    rw [s1] at e2
    have h2 := h.tail.tail
    have s2 : skI T (a + 1 + 1) = a + 1 + 1 + 1 := h2.sk1 (by rw [hl]; show (13 : Int) ≠ 20; decide)
    have h3 := h2.tail
    obtain ⟨e3, e4, e5⟩ := hg1.read (a := a + 1 + 1) (r := lpT xs g w m (spanI xs j)) (by rw [s2]; exact h3)
    rw [s2] at e5
    obtain ⟨e, he, hE⟩ := chain_read K xs g ns T w m (spanI xs j) (a + 1 + 1 + 1 + (tmT xs g j).length) (ys ++ ns j) (c + 1) n (by omega) h3.app hg2
    refine ⟨e, ?_, hE⟩
    unfold chnE
    rw [e2, if_pos e1, if_pos e3, e5, e4, he]
    show _ = ChR.mk (ys ++ (ns j ++ lpN xs ns m (spanI xs j))) _ _ _
    rw [← List.append_assoc, show c + 1 + (m : Int) = c + ((m + 1 : Nat) : Int) by omega]
end Go.Proofs.Ytlmanlpgknhfpaa
namespace Go.Proofs.Ytlmanlpgknhfpaa
open Go Go.RowKit Pl Sy
namespace Sy
structure NwX where
  w : ByteArray
  z : Nat
noncomputable def nwGet (F : Fr) (M : Mem) : Option NwX := match nth F 8 with
  | some (some (.lit (.string w))) => some ⟨w, M.stamp⟩
  | _ => none
noncomputable abbrev lpNd (s : ByteArray) (xs : List QNodeV) (K : NdK) (hK : K.Ok s xs) (L : List TokV) (q : QNodeV) (i : Int) : Lp Try.prog where
  f := 18
  key := 16
  S := formS nwGet (fun x => ndF x.w i q.count 0) (fun x => ⟨4, x.z, [some (ndN q), some (ndQ s xs), some (rowB L.length (kcell L)), some (wB 1 L.length)]⟩) (fun x => (1 ≤ q.count ∧ q.count ≤ 100000) ∧ Spans K xs q.count.toNat i ∧ limT (L.length + (tmT xs K.T i ++ lpT xs K.T x.w (q.count.toNat - 1) (spanI xs i)).length))
    (fun x => .leaf (.exit 1, ndF x.w (spE xs q.count.toNat i) q.count q.count, ndM s xs (L ++ (tmT xs K.T i ++ lpT xs K.T x.w (q.count.toNat - 1) (spanI xs i))))) (true :: false :: true :: false :: true :: false :: false :: false :: true :: (ff30 (true :: true :: (ff17 []))))
  one := by kernel_rfl
  ok := formS_ok fun x ⟨⟨h1, h2⟩, h3, h4⟩ => by
    obtain ⟨r, hr⟩ : ∃ r : Nat, q.count = ((r + 1 : Nat) : Int) := ⟨(q.count - 1).toNat, by omega⟩
    have e1 : q.count.toNat = r + 1 := by omega
    rw [e1] at h3 h4 ⊢
    rw [hr]
    refine ⟨r + 2, ?_⟩
    have key := LoopToT.to (T := 4) (LoopToT.out (wnd_first s xs K hK x.w q L i r (by omega) h3 h4)) (Nat.le_refl 4)
    refine (LoopTo.stampB 0 key).mono fun ex F M hg => ?_
    obtain ⟨rfl, rfl, rfl⟩ := hg
    rfl
end Sy
def NdC (K : NdK) (xs : List QNodeV) (i : Int) : Prop := inR i xs.length = true ∧ (((nodeN xs i).kind = 4 ∧ OpsIn (nodeN xs i) ∧ spanI xs i = i + 1) ∨ ((nodeN xs i).kind = 3 ∧ (inR (i + 1) xs.length = true ∧ K.C (i + 1)) ∧ spanI xs i = spanI xs (i + 1)) ∨
  (((nodeN xs i).kind = 1 ∨ (nodeN xs i).kind = 2) ∧ (1 ≤ (nodeN xs i).count ∧ (nodeN xs i).count ≤ 100000) ∧ Spans K xs (nodeN xs i).count.toNat (i + 1) ∧ spanI xs i = spE xs (nodeN xs i).count.toNat (i + 1)))
def ndG (xs : List QNodeV) (g : Int → List TokV) (i : Int) : List TokV := if (nodeN xs i).kind = 4 then feaT (nodeN xs i) else if (nodeN xs i).kind = 3 then [idT ⟨#[110, 111, 116]⟩, spT] ++ tmT xs g (i + 1) else tmT xs g (i + 1) ++ lpT xs g (wdS (nodeN xs i).kind) ((nodeN xs i).count.toNat - 1) (spanI xs (i + 1))
theorem Sy.wnd_t (s : ByteArray) (xs : List QNodeV) (hx : xs.length ≤ 100000) (K : NdK) (hK : K.Ok s xs) (L : List TokV) (i : Int) (h : NdC K xs i) (hl : limT (L.length + (ndG xs K.T i).length)) : CallTo Try.prog 18 [.ptr 0 0, query s xs, int i] (wM L) fun v M' => v = int (spanI xs i) ∧ WrEnd M' (L ++ ndG xs K.T i) :=
  to (G := fun r => r.1 = int (spanI xs i) ∧ WrEnd r.2 (L ++ ndG xs K.T i)) [cPutV, cSp, cWfea, cTerm s xs K hK] [lpNd s xs K hK L (nodeN xs i) (i + 1)] 400 30 (.yes (.br (.yes .done) (.br (.yes (.yes (.yes .done))) (.br .done .done)))) (let e1 := (int ((xs.getD (i).toNat QNodeV.zero)).kind); let e2 := (int ((xs.getD (i).toNat QNodeV.zero)).count); let e3 := (int ((xs.getD (i).toNat QNodeV.zero)).feat); let e4 := (int ((xs.getD (i).toNat QNodeV.zero)).lo); let e5 := (int ((xs.getD (i).toNat QNodeV.zero)).ln); let e6 := (int ((xs.getD (i).toNat QNodeV.zero)).ld); let e7 := (int ((xs.getD (i).toNat QNodeV.zero)).ho); let e8 := (int ((xs.getD (i).toNat QNodeV.zero)).hn); let e9 := (int ((xs.getD (i).toNat QNodeV.zero)).hd); let e10 := (int (0 : Int)); let e11 := (e1 :: e2 :: e3 :: e4 :: e5 :: e6 :: e7 :: e8 :: e9 :: (@List.drop _ (0 + ([e1, e2, e3, e4, e5, e6, e7, e8, e9]).length) [e10, e10, e10, e10, e10, e10, e10, e10, e10])); let e12 := (@TokRows (L).length (@kcell L)); let e13 := (@QNodeV.mk ((xs.getD (i).toNat QNodeV.zero)).kind ((xs.getD (i).toNat QNodeV.zero)).count ((xs.getD (i).toNat QNodeV.zero)).feat ((xs.getD (i).toNat QNodeV.zero)).lo ((xs.getD (i).toNat QNodeV.zero)).ln ((xs.getD (i).toNat QNodeV.zero)).ld ((xs.getD (i).toNat QNodeV.zero)).ho ((xs.getD (i).toNat QNodeV.zero)).hn ((xs.getD (i).toNat QNodeV.zero)).hd); let e14 := ((L).length + ((@feaT e13)).length); let e15 := (i + (1 : Int)); let e16 := (int (w64 e15)); let e17 := (some (@Blk.mk e11 45 none)); let e18 := (some (@Blk.mk [(@AV.lit (@Value.string s)), (@qview xs)] 24 none)); let e19 := (@ByteArray.mk (@Array.mk _ [(110 : UInt8), (111 : UInt8), (116 : UInt8)])); let e20 := (@AV.lit (@Value.string e19)); let e21 := ((L).length + 1); let e22 := (@appc (L).length (@kcell L) (@kcell [(@TokV.mk (1 : Int) e19 (0 : Int))])); let e23 := (e21 + 1); let e24 := (@appc e21 e22 (@kcell [spT])); let e25 := (e23 + ((@tmT xs (K).T (w64 e15))).length); let e26 := (some (@AV.ptr 0 0)); let e27 := (some (@AV.ptr 2 0)); let e28 := (@ByteArray.mk (@Array.mk _ [(111 : UInt8), (114 : UInt8)])); let e29 := (some (@AV.lit (@Value.string e28))); let e30 := (some (int ((@nodeN xs i)).count)); let e31 := (some (@Blk.mk [] 40 (some (@Rw.mk (L).length 3 (@kcell L))))); let e32 := (some (@Blk.mk [(@AV.own 1 (L).length 3)] 48 none)); let e33 := ((@Mem.mk ((2 + 1) + 1) (0 + 1) [e17, e18, e31, e32]) = (@Mem.mk 4 (0 + 1) [(some (@Blk.mk [(int ((@nodeN xs i)).kind), (int ((@nodeN xs i)).count), (int ((@nodeN xs i)).feat), (int ((@nodeN xs i)).lo), (int ((@nodeN xs i)).ln), (int ((@nodeN xs i)).ld), (int ((@nodeN xs i)).ho), (int ((@nodeN xs i)).hn), (int ((@nodeN xs i)).hd)] 45 none)), e18, e31, e32])); let e34 := (@And ((1 : Int) ≤ ((@nodeN xs i)).count) (((@nodeN xs i)).count ≤ (100000 : Int))); let e35 := (((@nodeN xs i)).count); let e36 := (int (@spE xs e35.toNat e15)); let e37 := (@ByteArray.mk (@Array.mk _ [(97 : UInt8), (110 : UInt8), (100 : UInt8)])); let e38 := (some (@AV.lit (@Value.string e37))); (.need (@inR i (xs).length) (.fork (eqI ((xs.getD (i).toNat QNodeV.zero)).kind (4 : Int)) (.need (@isSo (@And ([(@AV.agg (@List.take _ 9 e11))] = [(@AV.agg [e1, e2, e3, e4, e5, e6, e7, e8, e9])]) (@And e12 (@And ((L).length = (L).length) (@And (@OpsIn e13) (e14 ≤ 1000000)))))) (.leaf (e16, (@Mem.mk (((2 + 1) + 1) + 1) (((0 + 1) + 1) + 1) ((some (@Blk.mk [] 40 (some (@Rw.mk e14 3 (@appc (L).length (@kcell L) (@kcell (@feaT e13))))))) :: [e17, e18, none, (some (@Blk.mk [(@AV.own ((2 + 1) + 1) e14 3)] 48 none))]))))) (.fork (eqI ((xs.getD (i).toNat QNodeV.zero)).kind (3 : Int)) (.need (@isSo (@And ([(int (1 : Int)), e20, e10] = [(int (1 : Int)), e20, e10]) (@And e12 (@And ((L).length = (L).length) (@And True (e21 ≤ 1000000)))))) (.need (@isSo (@And (([] : List AV) = []) (@And (@TokRows e21 e22) (@And (e21 = e21) (@And True (e23 ≤ 1000000)))))) (.need (@isSo (@And ([(@AV.agg [(@AV.lit (@Value.string s)), (@qview xs)]), e16] = [(@query s xs), e16]) (@And (@TokRows e23 e24) (@And (e23 = e23) (@And (@And ((@inR (w64 e15) (xs).length) = true) ((K).C (w64 e15))) (e25 ≤ 1000000)))))) (.leaf ((int (@spanI xs (w64 e15))), (@Mem.mk (((((2 + 1) + 1) + 1) + 1) + 1) (((((((0 + 1) + 1) + 1) + 1) + 1) + 1) + 1) ((some (@Blk.mk [] 40 (some (@Rw.mk e25 3 (@appc e23 e24 (@kcell (@tmT xs (K).T (w64 e15)))))))) :: (none :: (none :: [e17, e18, none, (some (@Blk.mk [(@AV.own ((((2 + 1) + 1) + 1) + 1) e25 3)] 48 none))]))))))))) (.fork (eqI ((xs.getD (i).toNat QNodeV.zero)).kind (2 : Int)) (.need (@isSo (@And ((e26 :: none :: (some e16) :: (none :: e27 :: none :: none :: none :: e29 :: (nn30 ((some e2) :: (some e10) :: (nn17 []))))) = (e26 :: none :: (some (int e15)) :: none :: e27 :: none :: none :: none :: e29 :: (nn30 (e30 :: (some e10) :: (nn17 []))))) e33)) (.need (@isSo (@And e34 (@And (@Spans K xs e35.toNat e15) (((L).length + ((@HAppend.hAppend _ _ _ _ (@tmT xs (K).T e15) (@lpT xs (K).T e28 (e35.toNat - 1) (@spanI xs e15)))).length) ≤ 1000000)))) (.leaf (e36, (@Mem.mk 5 0 [(some (@Blk.mk [] 40 (some (@Rw.mk ((@HAppend.hAppend _ _ _ _ L (@HAppend.hAppend _ _ _ _ (@tmT xs (K).T e15) (@lpT xs (K).T e28 (e35.toNat - 1) (@spanI xs e15))))).length 3 (@kcell (@HAppend.hAppend _ _ _ _ L (@HAppend.hAppend _ _ _ _ (@tmT xs (K).T e15) (@lpT xs (K).T e28 (e35.toNat - 1) (@spanI xs e15))))))))), none, e18, none, (some (@Blk.mk [(@AV.own 4 ((@HAppend.hAppend _ _ _ _ L (@HAppend.hAppend _ _ _ _ (@tmT xs (K).T e15) (@lpT xs (K).T e28 (e35.toNat - 1) (@spanI xs e15))))).length 3)] 48 none))]))))) (.need (@isSo (@And ((e26 :: none :: (some e16) :: (none :: e27 :: none :: none :: none :: e38 :: (nn30 ((some e2) :: (some e10) :: (nn17 []))))) = (e26 :: none :: (some (int e15)) :: none :: e27 :: none :: none :: none :: e38 :: (nn30 (e30 :: (some e10) :: (nn17 []))))) e33)) (.need (@isSo (@And e34 (@And (@Spans K xs e35.toNat e15) (((L).length + ((@HAppend.hAppend _ _ _ _ (@tmT xs (K).T e15) (@lpT xs (K).T e37 (e35.toNat - 1) (@spanI xs e15)))).length) ≤ 1000000)))) (.leaf (e36, (@Mem.mk 5 0 [(some (@Blk.mk [] 40 (some (@Rw.mk ((@HAppend.hAppend _ _ _ _ L (@HAppend.hAppend _ _ _ _ (@tmT xs (K).T e15) (@lpT xs (K).T e37 (e35.toNat - 1) (@spanI xs e15))))).length 3 (@kcell (@HAppend.hAppend _ _ _ _ L (@HAppend.hAppend _ _ _ _ (@tmT xs (K).T e15) (@lpT xs (K).T e37 (e35.toNat - 1) (@spanI xs e15))))))))), none, e18, none, (some (@Blk.mk [(@AV.own 4 ((@HAppend.hAppend _ _ _ _ L (@HAppend.hAppend _ _ _ _ (@tmT xs (K).T e15) (@lpT xs (K).T e37 (e35.toNat - 1) (@spanI xs e15))))).length 3)] 48 none))])))))))))) (by kernel_rfl) (by
    obtain ⟨hr, hc⟩ := h
    have hr' := hr
    rw [inR_t] at hr'
    have e1 : w64 (i + 1) = i + 1 := w64_in (by omega)
    conv => zeta
    rw [e1]
    unfold limT ndG at hl
    unfold ndG
    refine need_t hr (fork_ok (fun c => ?_) (fun c => fork_ok (fun c2 => ?_) (fun c2 => ?_)))
    · have c' : (nodeN xs i).kind = 4 := by rw [eqI_t] at c; exact c
      rcases hc with ⟨_, ho, hs⟩ | ⟨k3, _⟩ | ⟨k12, _⟩
      · rw [if_pos c'] at hl ⊢
        rw [hs]
        exact need_so ⟨rfl, (by repeat' (first | exact TokRows.kc _ | refine TokRows.app ?_ rfl)), rfl, ho, hl⟩ ⟨rfl, _, _, _, rfl, rfl, by decide, CellIs.cast (CellIs.app2 (CellIs.kc _) rfl) rfl⟩
      · omega
      · omega
    · have c' : ¬ (nodeN xs i).kind = 4 := by rw [eqI_f] at c; exact c
      have c2' : (nodeN xs i).kind = 3 := by rw [eqI_t] at c2; exact c2
      rcases hc with ⟨k4, _⟩ | ⟨_, ht, hs⟩ | ⟨k12, _⟩
      · omega
      · rw [if_neg c', if_pos c2'] at hl ⊢
        simp only [List.length_append, List.length_cons, List.length_nil] at hl
        rw [hs]
        exact need_so ⟨rfl, (by repeat' (first | exact TokRows.kc _ | refine TokRows.app ?_ rfl)), rfl, trivial, (by (try unfold limT); (try simp only [List.length_cons, List.length_nil] at *); omega)⟩ (need_so ⟨rfl, (by repeat' (first | exact TokRows.kc _ | refine TokRows.app ?_ rfl)), rfl, trivial, (by (try unfold limT); (try simp only [List.length_cons, List.length_nil] at *); omega)⟩ (need_so ⟨rfl, (by repeat' (first | exact TokRows.kc _ | refine TokRows.app ?_ rfl)), rfl, ht, (by (try unfold limT); (try simp only [List.length_cons, List.length_nil] at *); omega)⟩ ⟨rfl, _, _, _, rfl, rfl, by decide, CellIs.cast (CellIs.app2 (CellIs.app2 (CellIs.app2 (CellIs.kc _) rfl) rfl) rfl) (by simp [List.append_assoc])⟩))
      · omega
    · have c' : ¬ (nodeN xs i).kind = 4 := by rw [eqI_f] at c; exact c
      have c2' : ¬ (nodeN xs i).kind = 3 := by rw [eqI_f] at c2; exact c2
      rcases hc with ⟨k4, _⟩ | ⟨k3, _⟩ | ⟨_, hcn, hsp, hs⟩
      · omega
      · omega
      · rw [if_neg c', if_neg c2'] at hl ⊢
        rw [hs]
        refine fork_ok (fun c3 => ?_) (fun c3 => ?_)
        · have c3' : (nodeN xs i).kind = 2 := by rw [eqI_t] at c3; exact c3
          have ew : wdS (nodeN xs i).kind = ⟨#[111, 114]⟩ := by unfold wdS; rw [if_pos c3']
          rw [ew] at hl ⊢
          exact need_so ⟨rfl, rfl⟩ (need_so ⟨hcn, hsp, hl⟩ ⟨rfl, 4, _, _, rfl, rfl, by decide, CellIs.kc _⟩)
        · have c3' : ¬ (nodeN xs i).kind = 2 := by rw [eqI_f] at c3; exact c3
          have ew : wdS (nodeN xs i).kind = ⟨#[97, 110, 100]⟩ := by unfold wdS; rw [if_neg c3']
          rw [ew] at hl ⊢
          exact need_so ⟨rfl, rfl⟩ (need_so ⟨hcn, hsp, hl⟩ ⟨rfl, 4, _, _, rfl, rfl, by decide, CellIs.kc _⟩))
def ndK (xs : List QNodeV) : Nat → NdK
  | 0 => ⟨fun _ => [], fun _ => False⟩
  | f + 1 => ⟨ndG xs (ndK xs f).T, NdC (ndK xs f) xs⟩
theorem ndK_ok (s : ByteArray) (xs : List QNodeV) (hx : xs.length ≤ 100000) : ∀ f, (ndK xs f).Ok s xs := by
  intro f
  induction f with
  | zero => exact ⟨fun L i h => h.elim⟩
  | succ f ih => exact ⟨fun L i h hl => Sy.wnd_t s xs hx (ndK xs f) ih L i h hl⟩
def qryT (s : ByteArray) (xs : List QNodeV) : List TokV := (if bytesEq s.data.toList [] then [] else [idT s, spT]) ++ (ndK xs xs.length).T 0
noncomputable abbrev Sy.cRightP (s : ByteArray) (xs : List QNodeV) : Con Try.prog := at1 15 [query s xs] (boo (rightQ s xs)) (s.size ≤ maxLen ∧ xs.length ≤ 17592186044416) fun h => ⟨⟨⟨qv_free s xs, trivial⟩, trivial⟩, right_q0 s xs h.1 h.2⟩
def prT (s : ByteArray) (xs : List QNodeV) : List TokV := if rightQ s xs then qryT s xs else []
def prE (s : ByteArray) (xs : List QNodeV) : Int := if rightQ s xs then 0 else 21
def PrnOk (s : ByteArray) (xs : List QNodeV) : Prop := rightQ s xs = true → (ndK xs xs.length).C 0 ∧ limT ((qryT s xs).length + 2)
theorem Sy.tview_frz (T : Nat) (M : Mem) {b n : Nat} {cell : Nat → Nat → AV} {L : List TokV} (hT : T ≤ b) (hb : M.get b = some (rowB n cell)) (hc : CellIs n cell L) : Frz true T M (.own b n 3) (kv L) := by
  have hn := hc.1
  subst hn
  exact Frz.own (b := b) hT hb rfl (Nat.le_refl _) rfl fun i j hi hj => by
    show Frz true T M (cell i j) _
    rw [hc.2 i j hi hj]
    exact Frz.lit _ _ _ _
theorem Sy.cell0 : CellIs 0 (kcell []) [] := CellIs.kc []
theorem Sy.rows0 : TokRows 0 (kcell []) := TokRows.kc []
theorem Sy.qpr_t (s : ByteArray) (xs : List QNodeV) (hx : xs.length ≤ 100000) (hs : s.size ≤ maxLen) (hp : PrnOk s xs) : CallTo Try.prog 7 [query s xs] M0 fun v M' => Frz true 0 M' v (.tup [kv (prT s xs), int (prE s xs)]) :=
  to (G := fun r => Frz true 0 r.2 r.1 (.tup [kv (prT s xs), int (prE s xs)])) [cRightP s xs, cPutV, cSp, cNode s xs (ndK xs xs.length) (ndK_ok s xs hx xs.length)] [] 400 30 (.yes (.br .done (.br (.yes (.yes (.yes .done))) (.yes .done)))) (let e1 := (@AV.lit (@Value.string s)); let e2 := (@AV.lit (@Value.slice none 0 0)); let e3 := (some (@Blk.mk [e1, (@qview xs)] 24 none)); let e4 := (int (0 : Int)); let e5 := ((some (@Blk.mk [e2] 48 none)) = (some wB0)); let e6 := (@TokV.mk (Int.ofNat 1) s (Int.ofNat 0)); let e7 := (0 + ([e6]).length); let e8 := (@appc 0 (@kcell []) (@kcell [e6])); let e9 := ([(@AV.agg [e1, (@qview xs)]), e4] = [(@query s xs), e4]); let e10 := (((@ndK xs (xs).length)).C (0 : Int)); let e11 := (((@ndK xs (xs).length)).T (0 : Int)); let e12 := ((e7 + 1) + (e11).length); let e13 := (((0 + 1) + 1) + 1); let e14 := (@AV.own ((e13 + 1) + 1) e12 3); let e15 := (@AV.own e13 (0 + (e11).length) 3); (.need (@isSo (@And ((@HAppend.hAppend _ _ _ _ (@HAppend.hAppend _ _ _ _ [] [(@AV.agg [e1, (@qview xs)])]) []) = [(@query s xs)]) (@And ((@ByteArray.size s) ≤ 9223372036854775807) ((xs).length ≤ 17592186044416)))) (.fork (!(@rightQ s xs)) (.leaf ((@AV.tup [e2, (int (21 : Int))]), (@Mem.mk 1 0 [e3]))) (.fork (!(@bytesEq (@Array.toList _ (@ByteArray.data s)) (@Array.toList _ (@ByteArray.data (@ByteArray.mk (@Array.mk _ [])))))) (.need (@isSo (@And ([(int (1 : Int)), e1, e4] = [(int (Int.ofNat 1)), e1, (int (Int.ofNat 0))]) (@And e5 (@And True (([e6]).length ≤ 1000000))))) (.need (@isSo (@And (([] : List AV) = []) (@And (@TokRows e7 e8) (@And (e7 = e7) (@And True ((e7 + 1) ≤ 1000000)))))) (.need (@isSo (@And e9 (@And (@TokRows (e7 + 1) (@appc e7 e8 (@kcell [spT]))) (@And ((e7 + 1) = (e7 + 1)) (@And e10 (e12 ≤ 1000000)))))) (.leaf ((@AV.tup [e14, e4]), (@Mem.mk (((e13 + 1) + 1) + 1) ((((e13 + 1) + 1) + 1) + 1) ((some (@Blk.mk [] 40 (some (@Rw.mk e12 3 (@appc (e7 + 1) (@appc e7 e8 (@kcell [spT])) (@kcell e11)))))) :: (none :: (none :: [none, (some (@Blk.mk [e14] 48 none)), e3]))))))))) (.need (@isSo (@And e9 (@And e5 (@And e10 ((e11).length ≤ 1000000))))) (.leaf ((@AV.tup [e15, e4]), (@Mem.mk (e13 + 1) e13 ((some (@Blk.mk [] 40 (some (@Rw.mk (0 + (e11).length) 3 (@appc 0 (@kcell []) (@kcell e11)))))) :: [none, (some (@Blk.mk [e15] 48 none)), e3]))))))))) (by kernel_rfl) (by
    refine need_so ⟨rfl, hs, by omega⟩ (fork_ok (fun c => ?_) (fun c => ?_))
    · have c := n_t c
      unfold prT prE
      rw [c]
      exact Frz.tup ⟨Frz.nil _ _ _ _ _, Frz.lit _ _ _ _, trivial⟩
    · have c := n_f c
      obtain ⟨h1, h2⟩ := hp c
      unfold prT prE
      rw [c]
      unfold qryT limT at h2
      refine fork_ok (fun c2 => ?_) (fun c2 => ?_)
      · have c2 : bytesEq s.data.toList [] = false := n_t c2
        rw [if_neg (by rw [c2]; simp)] at h2
        simp only [List.length_append, List.length_cons, List.length_nil] at h2
        have e : qryT s xs = [idT s, spT] ++ (ndK xs xs.length).T 0 := by unfold qryT; rw [if_neg (by rw [c2]; simp)]
        rw [if_pos rfl, if_pos rfl, e]
        exact need_so ⟨rfl, rfl, trivial, (by (try unfold limT); (try simp only [List.length_cons, List.length_nil] at *); omega)⟩ (need_so ⟨rfl, (by repeat' (first | exact rows0 | refine TokRows.app ?_ rfl)), rfl, trivial, (by (try unfold limT); (try simp only [List.length_cons, List.length_nil] at *); omega)⟩ (need_so ⟨rfl, (by repeat' (first | exact rows0 | refine TokRows.app ?_ rfl)), rfl, h1, (by (try unfold limT); (try simp only [List.length_cons, List.length_nil] at *); omega)⟩ (Frz.tup ⟨tview_frz 0 _ (Nat.zero_le _) rfl (CellIs.cast (CellIs.app2 (CellIs.app2 (CellIs.app2 cell0 rfl) rfl) rfl) (by simp)), Frz.lit _ _ _ _, trivial⟩)))
      · have c2 : bytesEq s.data.toList [] = true := n_f c2
        rw [if_pos c2] at h2
        have e : qryT s xs = (ndK xs xs.length).T 0 := by unfold qryT; rw [if_pos c2, List.nil_append]
        rw [if_pos rfl, if_pos rfl, e]
        simp only [List.length_append, List.length_nil] at h2
        exact need_so ⟨rfl, rfl, h1, (by (try unfold limT); (try simp only [List.length_cons, List.length_nil] at *); omega)⟩ (Frz.tup ⟨tview_frz 0 _ (Nat.zero_le _) rfl (CellIs.cast (CellIs.app2 cell0 rfl) (by simp)), Frz.lit _ _ _ _, trivial⟩))
theorem Sy.qpr_v (s : ByteArray) (xs : List QNodeV) (hx : xs.length ≤ 100000) (hs : s.size ≤ maxLen) (hp : PrnOk s xs) : CallTo Try.prog 7 [query s xs] M0 fun v _ => v = .tup [kv (prT s xs), int (prE s xs)] :=
  CallTo.frz0 (qpr_t s xs hx hs hp) ⟨qv_free s xs, trivial⟩ ⟨kv_free _, trivial, trivial⟩
noncomputable abbrev Sy.cQpr (s : ByteArray) (xs : List QNodeV) : Con Try.prog := at1 7 [query s xs] (.tup [kv (prT s xs), int (prE s xs)]) (xs.length ≤ 100000 ∧ s.size ≤ maxLen ∧ PrnOk s xs) fun h => ⟨⟨⟨qv_free s xs, trivial⟩, kv_free _, trivial, trivial⟩, qpr_v s xs h.1 h.2.1 h.2.2⟩
end Go.Proofs.Ytlmanlpgknhfpaa
namespace Go.Proofs.Ytlmanlpgknhfpaa
open Go Go.RowKit Pl Sy
def FeaOk (q : QNodeV) : Prop := (q.kind = 4 ∧ q.count = 0 ∧ 1 ≤ q.feat ∧ q.feat ≤ 6) ∧ OpsIn q ∧ (q.feat = 6 → (q.lo = 0 ∧ q.ln = 0 ∧ q.ld = 0 ∧ q.hd = 0) ∧ ((q.ho = 0 ∧ q.hn = 0) ∨ (q.ho = 3 ∧ (q.hn = 1 ∨ q.hn = 2))))
structure RdK where
  T : Int → List TokV
  C : Int → Prop
end Go.Proofs.Ytlmanlpgknhfpaa
namespace Go.Proofs.Ytlmanlpgknhfpaa
open Go Go.RowKit Pl Sy
namespace Sy
end Sy
namespace Sy
end Sy
def SpansR (K : RdK) (xs : List QNodeV) : Nat → Int → Prop
  | 0, _ => True
  | m + 1, i => (inR i xs.length = true ∧ K.C i) ∧ SpansR K xs m (spanI xs i)
end Go.Proofs.Ytlmanlpgknhfpaa
namespace Go.Proofs.Ytlmanlpgknhfpaa
open Go Go.RowKit Pl Sy
namespace Sy
end Sy
namespace Sy
def RnC (K : RdK) (xs : List QNodeV) (q : QNodeV) (i : Int) (b : Bool) : Prop := match b with
  | true => (q.kind = 3 ∧ q.count = 1) ∧ (inR i xs.length = true ∧ K.C i) ∧ limT (5 + (tmT xs K.T i).length)
  | false => (q.kind = 1 ∨ q.kind = 2) ∧ (1 ≤ q.count ∧ q.count ≤ 100000) ∧ SpansR K xs q.count.toNat i ∧ limT (6 + (tmT xs K.T i).length + (lpT xs K.T (wdS q.kind) (q.count.toNat - 1) (spanI xs i)).length)
end Sy
def RdC (K : RdK) (xs : List QNodeV) (i : Int) : Prop := inR i xs.length = true ∧ (((nodeN xs i).kind = 4 ∧ FeaOk (nodeN xs i)) ∨ (nodeN xs i).kind = 3 ∧ RnC K xs (nodeN xs i) (i + 1) true ∨ ((nodeN xs i).kind = 1 ∨ (nodeN xs i).kind = 2) ∧ RnC K xs (nodeN xs i) (i + 1) false)
def rdK (xs : List QNodeV) : Nat → RdK
  | 0 => ⟨fun _ => [], fun _ => False⟩
  | f + 1 => ⟨ndG xs (rdK xs f).T, RdC (rdK xs f) xs⟩
theorem rdK_T (xs : List QNodeV) : ∀ f, (rdK xs f).T = (ndK xs f).T := by
  intro f
  induction f with
  | zero => rfl
  | succ f ih => show ndG xs _ = ndG xs _; rw [ih]
end Go.Proofs.Ytlmanlpgknhfpaa
namespace Go.Proofs.Ytlmanlpgknhfpaa
open Go Go.RowKit Pl Sy
def nsG (xs : List QNodeV) (ns : Int → List QNodeV) (i : Int) : List QNodeV := if (nodeN xs i).kind = 4 then [nodeN xs i] else if (nodeN xs i).kind = 3 then qNode 3 1 :: ns (i + 1) else qNode (nodeN xs i).kind (nodeN xs i).count :: (ns (i + 1) ++ lpN xs ns ((nodeN xs i).count.toNat - 1) (spanI xs (i + 1)))
def NrC (K : CnK) (xs : List QNodeV) (g : Int → List TokV) (ns : Int → List QNodeV) (i : Int) : Prop :=
  ((nodeN xs i).kind = 4 ∧ rightV (nodeN xs i).kind (nodeN xs i).count (nodeN xs i).feat (nodeN xs i).lo (nodeN xs i).ln (nodeN xs i).ld (nodeN xs i).ho (nodeN xs i).hn (nodeN xs i).hd = true) ∨
  ((nodeN xs i).kind = 3 ∧ TmOk K xs g (i + 1) (ns (i + 1))) ∨
  (((nodeN xs i).kind = 1 ∨ (nodeN xs i).kind = 2) ∧ 2 ≤ (nodeN xs i).count ∧ TmsOk K xs g ns (nodeN xs i).count.toNat (i + 1))
theorem cond_one {K : CnK} {T : List TokV} {a : Int} (h1 : wordB T a ⟨⟨[110, 111, 116]⟩⟩ = false) (h2 : trmB K T (cn0 T a) = true) (h3 : doneB T (innA T (cn0 T a)) = true) : cndB K T a = true ∧ cndN K T a = trmN K T (cn0 T a) := by
  unfold cndB cndN cnG
  rw [h1, h2, h3]
  exact ⟨rfl, rfl⟩
theorem cond_not {K : CnK} {T : List TokV} {a : Int} (h1 : wordB T a ⟨⟨[110, 111, 116]⟩⟩ = true) (h2 : trmB K T (cn0 T a) = true) (h3 : doneB T (innA T (cn0 T a)) = true) : cndB K T a = true ∧ cndN K T a = qNode 3 1 :: trmN K T (cn0 T a) := by
  unfold cndB cndN cnG
  rw [h1, h2, h3]
  exact ⟨rfl, rfl⟩
theorem cond_and {K : CnK} {T : List TokV} {a : Int} (h1 : wordB T a ⟨⟨[110, 111, 116]⟩⟩ = false) (h2 : trmB K T (cn0 T a) = true) (h3 : doneB T (innA T (cn0 T a)) = false) (h4 : andB T a = true) (h5 : andT K T a = true) {N : List QNodeV} {c e : Int} (h6 : cnAnd K T a = ⟨N, c, e, true⟩) (h7 : doneB T e = true) : cndB K T a = true ∧ cndN K T a = qNode 1 c :: N := by
  unfold cndB cndN cnG
  rw [h1, h2, h3, h4, h5, h6, h7]
  exact ⟨rfl, rfl⟩
theorem cond_or {K : CnK} {T : List TokV} {a : Int} (h1 : wordB T a ⟨⟨[110, 111, 116]⟩⟩ = false) (h2 : trmB K T (cn0 T a) = true) (h3 : doneB T (innA T (cn0 T a)) = false) (h4 : andB T a = false) (h4' : orB T a = true) (h5 : orT K T a = true) {N : List QNodeV} {c e : Int} (h6 : cnOr K T a = ⟨N, c, e, true⟩) (h7 : doneB T e = true) : cndB K T a = true ∧ cndN K T a = qNode 2 c :: N := by
  unfold cndB cndN cnG
  rw [h1, h2, h3, h4, h4', h5, h6, h7]
  exact ⟨rfl, rfl⟩
theorem feat_bal (q : QNodeV) : Bal (feaT q) := by
  rw [feaT_fi]
  exact Bal.br _ _ (fiT_bal q) .nil
theorem TmOk.bal {K : CnK} {xs : List QNodeV} {g : Int → List TokV} {i : Int} {ns : List QNodeV} (h : TmOk K xs g i ns) : Bal (tmT xs g i) := by
  unfold tmT
  rcases h with ⟨h1, h2, h3, h4⟩ | ⟨h1, h2, _⟩
  · rw [if_pos h1, h2]
    exact feat_bal _
  · rw [if_neg h1]
    have := Bal.br _ [] h2 .nil
    simpa using this
theorem TmsOk.bal {K : CnK} {xs : List QNodeV} {g : Int → List TokV} {ns : Int → List QNodeV} (w : ByteArray) : ∀ {m : Nat} {i : Int}, TmsOk K xs g ns m i → Bal (lpT xs g w m i)
  | 0, i, h => .nil
  | m + 1, i, h => by
    have e : lpT xs g w (m + 1) i = spT :: idT w :: spT :: (tmT xs g i ++ lpT xs g w m (spanI xs i)) := rfl
    rw [e]
    exact .one _ _ rfl (by decide) (.one _ _ rfl (by show (1 : Int) ≠ 14; decide) (.one _ _ rfl (by decide) (h.1.bal.app (TmsOk.bal w h.2))))
theorem cond_read {K : CnK} {xs : List QNodeV} {g : Int → List TokV} {ns : Int → List QNodeV} {i : Int} (hc : NrC K xs g ns i) (hf : (nodeN xs i).kind = 4 → TmOk K xs (ndG xs g) i [nodeN xs i]) {T : List TokV} {a : Int} (h : At T (skI T a) (ndG xs g i)) : cndB K T a = true ∧ cndN K T a = nsG xs ns i := by
  rcases hc with ⟨k4, hr⟩ | ⟨k3, ht⟩ | ⟨k12, hcn, hts⟩
  · have ht := hf k4
    obtain ⟨l, hl⟩ := tmT_cons ht
    have et : tmT xs (ndG xs g) i = ndG xs g i := by unfold tmT; rw [if_pos k4]
    rw [et] at hl
    obtain ⟨w1, w2⟩ := At.noword (a := a) (s := ⟨⟨[110, 111, 116]⟩⟩) (by rw [hl] at h; exact h) (.inl (by show (13 : Int) ≠ 1; decide))
    have c0 : cn0 T a = skI T a := w2
    have s1 : skI T (skI T a) = skI T a := h.sk (by rw [hl]; show (13 : Int) ≠ 20; decide)
    obtain ⟨e1, e2, e3⟩ := ht.read (a := skI T a) (r := []) (by rw [s1, et, List.append_nil]; exact h)
    have h9 : At T (skI T a) (ndG xs g i ++ []) := by rw [List.append_nil]; exact h
    have h10 := h9.app
    rw [et, s1] at e3
    obtain ⟨r1, r2⟩ := cond_one w1 (by rw [c0]; exact e1) (by rw [c0, e3]; exact h10.done)
    refine ⟨r1, ?_⟩
    unfold nsG
    rw [r2, c0, e2, if_pos k4]
  · have k4 : ¬ (nodeN xs i).kind = 4 := by omega
    have en : ndG xs g i = idT ⟨#[110, 111, 116]⟩ :: spT :: (tmT xs g (i + 1) ++ []) := by
      unfold ndG
      rw [if_neg k4, if_pos k3, List.append_nil]
      rfl
    rw [en] at h
    obtain ⟨w1, w2⟩ := At.word (a := a) h
    have c0 : cn0 T a = skI T a + 1 := w2
    obtain ⟨l, hl⟩ := tmT_cons ht
    have h2 := h.tail
    have s1 : skI T (skI T a + 1) = skI T a + 1 + 1 := h2.sk1 (by rw [hl]; show (13 : Int) ≠ 20; decide)
    obtain ⟨e1, e2, e3⟩ := ht.read (a := skI T a + 1) (r := []) (by rw [s1]; exact h2.tail)
    have h10 := h2.tail.app
    rw [s1] at e3
    obtain ⟨r1, r2⟩ := cond_not w1 (by rw [c0]; exact e1) (by rw [c0, e3]; exact h10.done)
    refine ⟨r1, ?_⟩
    unfold nsG
    rw [r2, c0, e2, if_neg k4, if_pos k3]
  · have k4 : ¬ (nodeN xs i).kind = 4 := by omega
    have k3 : ¬ (nodeN xs i).kind = 3 := by omega
    obtain ⟨m, hm⟩ : ∃ m : Nat, (nodeN xs i).count = ((m + 2 : Nat) : Int) := ⟨((nodeN xs i).count - 2).toNat, by omega⟩
    have ec : (nodeN xs i).count.toNat = m + 2 := by omega
    rw [ec] at hts
    obtain ⟨t1, t2, t3⟩ := hts
    have en : ndG xs g i = tmT xs g (i + 1) ++ (spT :: idT (wdS (nodeN xs i).kind) :: spT :: (tmT xs g (spanI xs (i + 1)) ++ lpT xs g (wdS (nodeN xs i).kind) m (spanI xs (spanI xs (i + 1))))) := by
      unfold ndG
      rw [if_neg k4, if_neg k3, ec]
      rfl
    rw [en] at h
    obtain ⟨l, hl⟩ := tmT_cons t1
    obtain ⟨w1, w2⟩ := At.noword (a := a) (s := ⟨⟨[110, 111, 116]⟩⟩) (by rw [hl] at h; exact h) (.inl (by show (13 : Int) ≠ 1; decide))
    have c0 : cn0 T a = skI T a := w2
    have s1 : skI T (skI T a) = skI T a := h.sk (by rw [hl]; show (13 : Int) ≠ 20; decide)
    obtain ⟨e1, e2, e3⟩ := t1.read (a := skI T a) (by rw [s1]; exact h)
    rw [s1] at e3
    have h2 := h.app
    generalize hp1 : skI T a + ((tmT xs g (i + 1)).length : Int) = p1 at h2 e3
    have s2 : skI T p1 = p1 + 1 := h2.sk1 (by show (1 : Int) ≠ 20; decide)
    have h3 := h2.tail
    have d1 : doneB T p1 = false := At.undone (by rw [s2]; exact h3)
    have s3 : skI T (p1 + 1) = p1 + 1 := h3.sk (by show (1 : Int) ≠ 20; decide)
    have c1 : cn1 T a = p1 + 1 := by unfold cn1; rw [c0, e3, s2]
    obtain ⟨w3, w4⟩ := At.word (a := p1 + 1) (by rw [s3]; exact h3)
    rw [s3] at w4
    have h4 := h3.tail
    obtain ⟨l2, hl2⟩ := tmT_cons t2
    have s4 : skI T (p1 + 1 + 1) = p1 + 1 + 1 + 1 := h4.sk1 (by rw [hl2]; show (13 : Int) ≠ 20; decide)
    have h5 := h4.tail
    obtain ⟨e4, e5, e6⟩ := t2.read (a := p1 + 1 + 1) (by rw [s4]; exact h5)
    rw [s4] at e6
    have hlen := h5.len
    have hmT : m < T.length + 1 := by
      have hL : ∀ (m : Nat) (j : Int), m ≤ (lpT xs g (wdS (nodeN xs i).kind) m j).length := by
        intro m
        induction m with
        | zero => intro j; exact Nat.zero_le _
        | succ m ih =>
          intro j
          have := ih (spanI xs j)
          have e : lpT xs g (wdS (nodeN xs i).kind) (m + 1) j = spT :: idT (wdS (nodeN xs i).kind) :: spT :: (tmT xs g j ++ lpT xs g (wdS (nodeN xs i).kind) m (spanI xs j)) := rfl
          rw [e]
          simp only [List.length_cons, List.length_append]
          omega
      have := hL m (spanI xs (spanI xs (i + 1)))
      have h0 := h.1
      simp only [List.length_append] at hlen
      omega
    obtain ⟨e, he, hE⟩ := chain_read K xs g ns T (wdS (nodeN xs i).kind) m (spanI xs (spanI xs (i + 1))) _ (ns (i + 1) ++ ns (spanI xs (i + 1))) 2 (T.length + 1) hmT h5.app t3
    have fin : nsG xs ns i = qNode (nodeN xs i).kind (nodeN xs i).count :: (ns (i + 1) ++ ns (spanI xs (i + 1)) ++ lpN xs ns m (spanI xs (spanI xs (i + 1)))) := by
      unfold nsG
      rw [if_neg k4, if_neg k3, ec, List.append_assoc]
      rfl
    have e2c : (2 : Int) + (m : Int) = (nodeN xs i).count := by omega
    rw [e2c] at he
    rcases k12 with k1 | k2
    · have ew : wdS (nodeN xs i).kind = ⟨⟨[97, 110, 100]⟩⟩ := by unfold wdS; rw [if_neg (by omega)]
      rw [ew] at w3 w4 he
      have hC : cnAnd K T a = ⟨ns (i + 1) ++ ns (spanI xs (i + 1)) ++ lpN xs ns m (spanI xs (spanI xs (i + 1))), (nodeN xs i).count, e, true⟩ := by
        unfold cnAnd chnR
        rw [c1, w4, e6, e5, c0, e2, he]
      obtain ⟨r1, r2⟩ := cond_and w1 (by rw [c0]; exact e1) (by rw [c0, e3]; exact d1) (by unfold andB; rw [c1]; exact w3) (by unfold andT; rw [c1, w4]; exact e4) hC hE.done
      exact ⟨r1, by rw [r2, fin, k1]⟩
    · have ew : wdS (nodeN xs i).kind = ⟨⟨[111, 114]⟩⟩ := by unfold wdS; rw [if_pos k2]
      rw [ew] at w3 w4 he h3
      obtain ⟨w5, w6⟩ := At.noword (a := p1 + 1) (s := ⟨⟨[97, 110, 100]⟩⟩) (by rw [s3]; exact h3) (.inr (by decide))
      rw [s3] at w6
      have hC : cnOr K T a = ⟨ns (i + 1) ++ ns (spanI xs (i + 1)) ++ lpN xs ns m (spanI xs (spanI xs (i + 1))), (nodeN xs i).count, e, true⟩ := by
        unfold cnOr chnR
        rw [c1, w4, e6, e5, c0, e2, he]
      obtain ⟨r1, r2⟩ := cond_or w1 (by rw [c0]; exact e1) (by rw [c0, e3]; exact d1) (by unfold andB; rw [c1]; exact w5) (by unfold orB; rw [c1, w6]; exact w3) (by unfold orT; rw [c1, w4]; exact e4) hC hE.done
      exact ⟨r1, by rw [r2, fin, k2]⟩
end Go.Proofs.Ytlmanlpgknhfpaa
