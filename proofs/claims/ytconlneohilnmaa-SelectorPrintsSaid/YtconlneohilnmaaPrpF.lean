/-
  Lemmas for SelectorPrints, part 6; no conditions.
-/
import Derived.Test.YtconlneohilnmaaPrpE
namespace Go.Proofs.Ytconlneohilnmaa
open Go Go.RowKit Pl Sy
set_option linter.unusedVariables false
set_option linter.unusedSimpArgs false
abbrev Sy.bxk : AV := .vptr 1 (fun _ => int 12)
def comB (t : TokV) : Bool := eqI t.kind 12
theorem Sy.spl1_t (t : TokV) : CallTo Try.prog 42 [tokA t, bxk] M0 fun v _ => v = boo (comB t) :=
  toV [] [] 400 30 (.br (.auto 6 .done) (.auto 2 .done)) (.fork (eqI (t).kind (12 : Int)) (.leaf (boo true)) (.leaf (boo false))) (by kernel_rfl) (by
    unfold comB
    refine fork_ok (fun h => ?_) (fun h => ?_)
    · rw [h]; exact rfl
    · rw [h]; exact rfl)
noncomputable abbrev Sy.cSpl1 : Con Try.prog :=
  atX 42 (fun args => match args with | [.agg [.lit (.int .i64 a), .lit (.string s), .lit (.int .i64 c)], _] => some (⟨a, s, c⟩ : TokV) | _ => none) (fun t => [tokA t, bxk]) (fun t => boo (comB t)) (fun _ => True) fun t _ => ⟨⟨⟨⟨trivial, trivial, trivial, trivial⟩, fun j => trivial, trivial⟩, trivial⟩, spl1_t t⟩
namespace Sy
abbrev fkF (l : List TokV) (k : Int) : Fr := (some ((@AV.view (l).length 3 (fun x564010 => (fun x256573 => (@AV.lit ([(@Value.int IntKind.i64 ((l.getD x564010 tok0)).kind), (@Value.string ((l.getD x564010 tok0)).text), (@Value.int IntKind.i64 ((l.getD x564010 tok0)).n)].getD x256573 (@Value.tuple (@Array.mk _ [])))))))) :: some (int k) :: some ((@AV.fn (@Fn.func 42) [] [(@AV.vptr 1 (fun x989285 => (int (12 : Int))))])) :: (nn25 []))
end Sy
theorem Sy.firstk_scan (l : List TokV) (hl : lim l) : ∀ k, k ≤ l.length → LoopTo Try.prog (theBody Try.prog 69 2) (l.length - k + 1) (fkF l k) M0 fun ex F' M' => M' = M0 ∧ ((tops comB l k < l.length ∧ ex = .exit 0 ∧ F' = fkF l (tops comB l k : Nat)) ∨ (tops comB l k = l.length ∧ ex = .exit 0 ∧ F' = fkF l l.length)) :=
  hopL l.length (fun j => comB (tokAt l j)) (nxt l) (nxt_gt l) (nxt_le l) (fun k => fkF l k) (fun k => fkF l k) (fun _ => M0) (.exit 0) fun κ n G h0 c1 c2 c3 => by
    generalize hκ : (κ : Int) = k at *
    refine roundL [cMatch l, cSpl1] [] 400 30 69 2 Try.func69 rfl (by kernel_rfl) (true :: true :: true :: (ff25 [])) (.br (.auto 2 (.yes (.auto 1 (.yes (.auto 1 (.br (.yes .done) .done)))))) (.auto 7 .done)) (let e1 := (((l).length : Nat) : Int); let e2 := (@AV.agg [(int ((l.getD (k).toNat tok0)).kind), (@AV.lit (@Value.string ((l.getD (k).toNat tok0)).text)), (int ((l.getD (k).toNat tok0)).n)]); let e3 := (@AV.vptr 1 (fun y0 => (int (12 : Int)))); let e4 := (@AV.view (l).length 3 (fun y0 => (fun y1 => (@AV.lit ([(@Value.int IntKind.i64 ((l.getD y0 tok0)).kind), (@Value.string ((l.getD y0 tok0)).text), (@Value.int IntKind.i64 ((l.getD y0 tok0)).n)].getD y1 (@Value.tuple (@Array.mk _ []))))))); let e5 := (w64 ((@mtI l k) + (1 : Int))); let e6 := (some (@AV.fn (@Fn.func 42) [] [e3])); (.fork (!(leI e1 k)) (.need (@inR k (l).length) (.need (@isSo (@And ((@HAppend.hAppend _ _ _ _ (@HAppend.hAppend _ _ _ _ [] [e2]) [e3]) = [e2, e3]) True)) (.fork (!(@comB (@TokV.mk ((l.getD (k).toNat tok0)).kind ((l.getD (k).toNat tok0)).text ((l.getD (k).toNat tok0)).n))) (.need (@isSo (@And ((@HAppend.hAppend _ _ _ _ (@HAppend.hAppend _ _ _ _ [] [e4, (int k)]) []) = [e4, (int k)]) (@lim l))) (.leaf (Ex.norm, (((some e4) :: (some (int (if (e1 < e5) then e1 else e5))) :: e6 :: (nn25 [])), (@Mem.mk 0 0 []))))) (.leaf ((@Ex.exit 0), (((some e4) :: (some (int k)) :: e6 :: (nn25 [])), (@Mem.mk 0 0 []))))))) (.leaf ((@Ex.exit 0), (((some e4) :: (some (int k)) :: e6 :: (nn25 [])), (@Mem.mk 0 0 [])))))) (by kernel_rfl) ?_
    have hl' : l.length ≤ 17592186044416 := hl
    refine fork_ok (fun h => ?_) (fun h => ?_)
    · simp only [Bool.not_eq_true', Bool.not_eq_false', leI_t, leI_f, eqI_t, eqI_f, inR_t, inR_f, isSo_t, isSo_f] at h
      have hk : κ < l.length := by omega
      have hr : inR k l.length = true := by rw [inR_t]; omega
      have hm := mt_le hk
      have hκ' : tokAt l κ = l.getD k.toNat tok0 := by rw [← hκ]; rfl
      refine need_t hr (need_so ⟨rfl, trivial⟩ (fork_ok (fun h2 => need_so ⟨rfl, hl⟩ ?_) (fun h2 => c2 hk (by rw [hκ']; simpa using h2))))
      have e : (if ((l.length : Nat) : Int) < w64 (mtI l k + 1) then ((l.length : Nat) : Int) else w64 (mtI l k + 1)) = (nxt l κ : Nat) := by
        have e1 : mtI l k = (mt l κ : Int) := by rw [← hκ]; exact (mt_int l κ).1
        rw [e1, w64_in (r := (mt l κ : Int) + 1) (by omega)]
        unfold nxt
        split <;> omega
      have := c1 hk (by rw [hκ']; simpa using h2)
      rw [← e] at this
      exact this
    · simp only [Bool.not_eq_true', Bool.not_eq_false', leI_t, leI_f, eqI_t, eqI_f, inR_t, inR_f, isSo_t, isSo_f] at h
      have hk : κ = l.length := by omega
      have := c3 hk
      rw [← hk, hκ] at this
      exact this
namespace Sy
noncomputable abbrev lp_firstk (l : List TokV) : Lp Try.prog where
  f := 69
  key := 2
  S := formS (fun F M => slotI F 1) (fun k => fkF l k) (fun _ => M0) (fun k => lim l ∧ 0 ≤ k ∧ k ≤ l.length) (fun k => .leaf (.exit 0, fkF l (tops comB l k.toNat : Nat), M0)) (true :: true :: true :: (ff25 []))
  one := by kernel_rfl
  ok := formS_ok fun k ⟨h1, h2, h3⟩ => by
    obtain ⟨k, rfl⟩ := Int.eq_ofNat_of_zero_le h2
    refine ⟨l.length - k + 1, ?_⟩
    refine (Sy.firstk_scan l h1 k (by omega)).mono fun ex F M hg => ?_
    obtain ⟨rfl, hg⟩ := hg
    rcases hg with ⟨q1, rfl, rfl⟩ | ⟨q1, rfl, rfl⟩
    · rfl
    · show _ = _
      rw [Int.toNat_natCast, q1]
end Sy
theorem Sy.firstk_t (l : List TokV) (hl : lim l) (i : Int) (h0 : 0 ≤ i) (h1 : i ≤ l.length) : CallTo Try.prog 69 [kv l, int i, .fn (.func 42) [] [bxk]] M0 fun v _ => v = int (tops comB l i.toNat : Nat) :=
  toV [] [lp_firstk l] 400 30 .done (let e1 := (some (@AV.view (l).length 3 (fun y0 => (fun y1 => (@AV.lit ([(@Value.int IntKind.i64 ((l.getD y0 tok0)).kind), (@Value.string ((l.getD y0 tok0)).text), (@Value.int IntKind.i64 ((l.getD y0 tok0)).n)].getD y1 (@Value.tuple (@Array.mk _ [])))))))); let e2 := (some (@AV.fn (@Fn.func 42) [] [(@AV.vptr 1 (fun y0 => (int (12 : Int))))])); (.need (@isSo (@And ((e1 :: (some (int i)) :: e2 :: (nn25 [])) = (e1 :: (some (int i)) :: e2 :: (nn25 []))) ((@Mem.mk 0 0 []) = M0))) (.need (@isSo (@And (@lim l) (@And ((0 : Int) ≤ i) (i ≤ (((l).length : Nat) : Int))))) (.leaf (int (((@tops comB l (i).toNat) : Nat) : Int)))))) (by kernel_rfl) (need_so ⟨rfl, rfl⟩ (need_so ⟨hl, h0, h1⟩ rfl))
theorem Sy.Conv1.ptr {M : Mem} {b : Nat} {B : Blk} {m : Nat} {cell : Nat → AV} (hb : M.get b = some B) (hc : ∀ j, j < m → ∃ v, B.cells[j]? = some v ∧ Free v ∧ v = cell j) : Conv1 M (.ptr b 0) (.vptr m cell) := fun w0 ρ w u hW hr => by
  simp only [rel] at hr ⊢
  obtain ⟨g, tot, hg, rfl⟩ := hr
  obtain ⟨q2, cur, q3, q4, q5⟩ := hW.holds hb hg
  refine ⟨g, 0, rfl, fun j hj => ?_⟩
  obtain ⟨v, r1, r2, r3⟩ := hc j hj
  obtain ⟨x, r4, r5⟩ := q5.1 j v r1
  have hlt : g < w.heap.size := (Array.getElem?_eq_some_iff.1 q3).1
  refine ⟨x, ?_, ?_⟩
  · simp only [rho0, if_pos hlt]
    rw [cell_at q3, Nat.zero_add]; exact r4
  · rw [← r3]; exact rel.free (rho0_still hW) r2 r5
noncomputable abbrev Sy.cFirstK (l : List TokV) : Con Try.prog := atM 69 (fun args _ => match args with | [_, .lit (.int .i64 i), _] => some i | _ => none) (fun i => [kv l, int i, .fn (.func 42) [] [bxk]]) (fun i => int (tops comB l i.toNat : Nat)) (fun i => lim l ∧ 0 ≤ i ∧ i ≤ l.length) fun i h => ⟨⟨_, rfl⟩, firstk_t l h.1 i h.2.1 h.2.2⟩
namespace Sy
abbrev lcell (ls : List (List TokV)) (i j : Nat) : AV := kv (ls.getD i [])
abbrev boxB : Blk := ⟨[int 12], 3, none⟩
abbrev splF : FuncId := 42
abbrev pcM (ls : List (List TokV)) : Mem := ⟨2, 0, [some ⟨[], 24, some ⟨ls.length, 1, lcell ls⟩⟩, some boxB]⟩
abbrev pcF (l : List TokV) (n : Nat) : Fr := (some (kv l) :: some (.fn (.func splF) [] [.ptr 0 0]) :: none :: none :: some ((@AV.lit (@Value.slice none 0 0))) :: some (.own 1 n 1) :: (nn20 []))
end Sy
theorem Sy.Conv1.fn {M : Mem} {f : Fn} {a a1 c c1 : List AV} (h : Conv M a a1) (h' : Conv M c c1) : Conv1 M (.fn f a c) (.fn f a1 c1) := fun w0 ρ w u hW hr => by
  simp only [rel] at hr ⊢
  obtain ⟨us, vs, rfl, q1, q2⟩ := hr
  exact ⟨us, vs, rfl, h w0 ρ w us hW q1, h' w0 ρ w vs hW q2⟩
namespace Sy
def LRows (n : Nat) (c : Nat → Nat → AV) (ls : List (List TokV)) : Prop := n = ls.length ∧ ∀ (σ : Nat → Option Nat) i j, i < n → j < 1 → RenV σ (c i j) (lcell ls i j)
theorem LRows.base (ls : List (List TokV)) : LRows ls.length (lcell ls) ls := ⟨rfl, fun σ _ _ _ _ => RenV.free σ (kv_free _)⟩
theorem LRows.app1 {n : Nat} {c c' : Nat → Nat → AV} {ls : List (List TokV)} (x : List TokV) (h : LRows n c ls) (hx : ∀ σ : Nat → Option Nat, RenV σ (c' 0 0) (kv x)) : LRows (n + 1) (appc n c c') (ls ++ [x]) := ⟨by rw [h.1]; simp, fun σ i j hi hj => by
  have hl := h.1
  obtain rfl : j = 0 := by omega
  by_cases hlt : i < n
  · rw [appc_lt hlt]
    have : (ls ++ [x]).getD i [] = ls.getD i [] := by
      simp only [List.getD_eq_getElem?_getD]
      rw [List.getElem?_append_left (by omega)]
    have h3 := h.2 σ i 0 hlt hj
    unfold lcell at h3 ⊢
    rw [this]
    exact h3
  · have e : i = n := by omega
    subst e
    rw [appc_ge (Nat.le_refl _), Nat.sub_self]
    have : (ls ++ [x]).getD i [] = x := by
      simp only [List.getD_eq_getElem?_getD]
      rw [List.getElem?_append_right (by omega), hl, Nat.sub_self]; rfl
    unfold lcell
    rw [this]
    exact hx σ⟩
abbrev pcE (l : List TokV) (n : Nat) : Fr := (some (kv l) :: some (.fn (.func splF) [] [.ptr 0 0]) :: none :: none :: some (.own 1 n 1) :: some (.own 1 n 1) :: (nn20 []))
theorem pcM_ren {M : Mem} {l : List Nat} {b n : Nat} {c : Nat → Nat → AV} {ls : List (List TokV)} (hl : l = [0, b]) (hn : 1 ≤ b) (h0 : M.get 0 = some boxB) (h1 : M.get b = some ⟨[], 24, some ⟨n, 1, c⟩⟩) (e1 : LRows n c ls) : RenM (nm l) M (pcM ls) := by
  subst hl
  refine .of rfl rfl (by simp; omega) ⟨⟨b, _, rfl, h1, rfl, trivial, e1.1.symm, rfl, fun i j hi hj => ?_⟩, ⟨0, _, rfl, h0, rfl, ⟨rfl, trivial⟩, trivial⟩, trivial⟩
  exact e1.2 _ i j (by have := e1.1; change i < ls.length at hi; omega) hj
theorem kv_take (l : List TokV) (k : Nat) (hk : k ≤ l.length) (σ : Nat → Option Nat) : RenV σ (.view k 3 (fun i j => .lit ((TokV.cells (l.getD i tok0)).getD j undef))) (kv (l.take k)) := by
  refine ⟨by rw [List.length_take]; omega, rfl, fun i j hi hj => ?_⟩
  have : (l.take k).getD i tok0 = l.getD i tok0 := by
    simp only [List.getD_eq_getElem?_getD]
    rw [List.getElem?_take, if_pos hi]
  simp only [this]
  exact RenV.free σ (v := .lit _) trivial
theorem kv_drop (l : List TokV) (k : Nat) (σ : Nat → Option Nat) : RenV σ (.view (l.length - k) 3 (fun i j => .lit ((TokV.cells (l.getD (k + i) tok0)).getD j undef))) (kv (l.drop k)) := by
  refine ⟨by rw [List.length_drop], rfl, fun i j hi hj => ?_⟩
  have : (l.drop k).getD i tok0 = l.getD (k + i) tok0 := by
    simp only [List.getD_eq_getElem?_getD]
    rw [List.getElem?_drop]
  simp only [this]
  exact RenV.free σ (v := .lit _) trivial
def PcG (LS : List (List TokV)) (ex : Ex) (F : Fr) (M : Mem) : Prop := ex = .ret ∧ (∃ l', F = pcE l' LS.length) ∧ M = pcM LS
theorem pcs_loop : ∀ (n : Nat) (l : List TokV) (ls : List (List TokV)), l.length < n → ls.length + l.length ≤ 1000000 →
    LoopToT 1 Try.prog (theBody Try.prog 41 3) n (pcF l ls.length) (pcM ls) (RG 1 (PcG (ls ++ pieces comB l))) := by
  intro n
  induction n with
  | zero => intro l ls h; omega
  | succ n ih =>
    intro l ls h hlim
    have hstep := pieces_step comB l
    have hk := tops_le comB l 0 (Nat.zero_le _)
    refine roundT plain mixed 1 [cFirstK l] [] 400 30 41 3 Try.func41 rfl (by kernel_rfl) (true :: true :: false :: false :: true :: true :: (ff20 [])) (.yes (.yes (.yes (.br .done (.yes .done))))) (let e1 := (@Value.tuple (@Array.mk _ [])); let e2 := (fun y0 => (fun y1 => (@AV.view ((ls.getD y0 [])).length 3 (fun y2 => (fun y3 => (@AV.lit ([(@Value.int IntKind.i64 (((ls.getD y0 []).getD y2 tok0)).kind), (@Value.string (((ls.getD y0 []).getD y2 tok0)).text), (@Value.int IntKind.i64 (((ls.getD y0 []).getD y2 tok0)).n)].getD y3 e1))))))); let e3 := (fun y0 => (fun y1 => (@AV.lit ([(@Value.int IntKind.i64 ((l.getD y0 tok0)).kind), (@Value.string ((l.getD y0 tok0)).text), (@Value.int IntKind.i64 ((l.getD y0 tok0)).n)].getD y1 e1)))); let e4 := (@AV.view (l).length 3 e3); let e5 := (0 : Int); let e6 := (@AV.fn (@Fn.func splF) [] [(@AV.ptr 0 0)]); let e7 := (((l).length : Nat) : Int); let e8 := (((@tops comB l 0) : Nat) : Int); let e9 := ((ls).length + 1); let e10 := (some (@AV.own (2 + 1) e9 1)); let e11 := (@AV.view (e8).toNat 3 (fun y2 => (fun y3 => (@AV.lit ([(@Value.int IntKind.i64 ((l.getD y2 tok0)).kind), (@Value.string ((l.getD y2 tok0)).text), (@Value.int IntKind.i64 ((l.getD y2 tok0)).n)].getD y3 e1))))); let e12 := (@List.map _ _ AV.lit (@Array.toList _ (@Array.mk _ [(@List.get _ (@Array.toList _ (@Array.mk _ [(@Value.slice none 0 0)])) (@Fin.mk _ 0 (@Nat.le_of_ble_eq_true _ _ (@Eq.refl _ true))))]))); let e13 := (@Mem.mk ((2 + 1) + 1) (0 + 1) ((some (@Blk.mk [] 24 (some (@Rw.mk e9 1 (@appc (ls).length e2 (fun y0 => (fun y1 => (@getA (@List.take _ 1 (e11 :: (@List.drop _ (0 + ([e11]).length) e12))) ((y0 * 1) + y1))))))))) :: [(some (@Blk.mk ((@AV.view (e8).toNat 3 e3) :: (@List.drop _ (0 + ([(@AV.view (e8).toNat 3 e3)]).length) e12)) 24 none)), none, (some boxB)])); let e14 := (w64 (e8 + (1 : Int))); (.need (@isSo (@And (@Conv (@Mem.mk 2 0 [(some (@Blk.mk [] 24 (some (@Rw.mk (ls).length 1 e2)))), (some boxB)]) (@HAppend.hAppend _ _ _ _ (@HAppend.hAppend _ _ _ _ [] [e4, (int e5), e6]) []) [e4, (int e5), (@AV.fn (@Fn.func 42) [] [(@AV.vptr 1 (fun y0 => (int (12 : Int))))])]) (@And (@lim l) (@And (e5 ≤ e5) (e5 ≤ e7))))) (.need ((leI e5 e8) && ((leI e8 e8) && (leI e8 e7))) (.need (Bool.true && ((@Nat.ble (ls).length (ls).length) && ((@Nat.ble (e9 * 24) 140737488355328) && (@Nat.ble e9 17592186044416)))) (.fork (eqI e8 e7) (.leaf (Ex.ret, (((some e4) :: (some e6) :: none :: none :: e10 :: e10 :: (nn20 [])), e13))) (.need ((leI e5 e14) && ((leI e14 e7) && (leI e7 e7))) (.leaf (Ex.norm, (((some (@AV.view ((e7).toNat - (e14).toNat) 3 (fun y0 => (fun y1 => (@AV.lit ([(@Value.int IntKind.i64 ((l.getD ((e14).toNat + y0) tok0)).kind), (@Value.string ((l.getD ((e14).toNat + y0) tok0)).text), (@Value.int IntKind.i64 ((l.getD ((e14).toNat + y0) tok0)).n)].getD y1 e1)))))) :: (some e6) :: none :: none :: (some (@AV.lit (@Value.slice none 0 0))) :: e10 :: (nn20 [])), e13))))))))) (by kernel_rfl) ?_
    have ht := kv_take l (tops comB l 0) hk.2
    have hd := kv_drop l (tops comB l 0 + 1)
    generalize tops comB l 0 = k at *
    have hb := LRows.base ls
    refine need_so ⟨Conv.cons (Conv1.free _ (kv_free l)) (Conv.cons (Conv1.lit _ _) (Conv.cons (Conv1.fn (Conv.nil _) (Conv.cons (Conv1.ptr rfl fun j hj => ⟨int 12, (by
      obtain rfl : j = 0 := by omega
      rfl), trivial, rfl⟩) (Conv.nil _))) (Conv.nil _))), show lim l by unfold lim; omega, by omega, by omega⟩ (need_t (by simp only [Bool.and_eq_true, leI_t]; omega) (need_t (room3 (by omega) (by decide)) (fork_ok (fun h2 => ?_) (fun h2 => ?_))))
    · simp only [Bool.not_eq_true', Bool.not_eq_false', leI_t, leI_f, eqI_t, eqI_f, inR_t, inR_f, isSo_t, isSo_f] at h2
      have hkl : k = l.length := by omega
      rw [if_pos hkl] at hstep
      rw [hstep]
      exact ⟨pcE l (ls ++ [l.take k]).length, _, [0, 3], rfl, by
        simp only [RenF, and_true]
        exact ⟨RenV.free _ (kv_free l), ⟨rfl, trivial, ⟨rfl, rfl⟩, trivial⟩, ⟨rfl, by simp, rfl⟩, ⟨rfl, by simp, rfl⟩⟩, pcM_ren (ls := ls ++ [l.take k]) rfl (by decide) rfl rfl (hb.app1 _ ht), rfl, ⟨l, rfl⟩, rfl⟩
    · simp only [Bool.not_eq_true', Bool.not_eq_false', leI_t, leI_f, eqI_t, eqI_f, inR_t, inR_f, isSo_t, isSo_f] at h2
      have hkl : ¬ k = l.length := by omega
      rw [if_neg hkl] at hstep
      have ew : w64 ((k : Int) + 1) = ((k + 1 : Nat) : Int) := by rw [w64_in (by omega)]; omega
      rw [ew]
      refine need_t (by simp only [Bool.and_eq_true, leI_t]; omega) ?_
      have key := ih (l.drop (k + 1)) (ls ++ [l.take k]) (by rw [List.length_drop]; omega) (by rw [List.length_drop, List.length_append]; simp only [List.length_cons, List.length_nil]; omega)
      rw [List.append_assoc] at key
      rw [hstep]
      refine LoopToT.ren [0, 3] rfl ?_ (pcM_ren (ls := ls ++ [l.take k]) rfl (by decide) rfl rfl (hb.app1 _ ht)) key
      simp only [RenF, and_true]
      exact ⟨hd _, ⟨rfl, trivial, ⟨rfl, rfl⟩, trivial⟩, rfl, ⟨rfl, by simp, rfl⟩⟩
end Sy
end Go.Proofs.Ytconlneohilnmaa
namespace Go.Proofs.Ytconlneohilnmaa
open Go Go.RowKit Pl Sy
set_option linter.unusedVariables false
set_option linter.unusedSimpArgs false
namespace Sy
abbrev pc0F (l : List TokV) : Fr := (some (kv l) :: some (.fn (.func splF) [] [.ptr 0 0]) :: none :: none :: some ((@AV.lit (@Value.slice none 0 0))) :: some ((@AV.lit (@Value.slice none 0 0))) :: (nn20 []))
abbrev pcR (n : Nat) : Fr := (none :: none :: none :: none :: some (.own 1 n 1) :: some (.own 1 n 1) :: (nn20 []))
theorem pc_nil {P : Program} {body : Code} {n : Nat} {G : Ex → Fr → Mem → Prop} (l : List TokV) (k : Nat) (h : LoopToT 1 P body n (pcF l 0) (pcM []) G) : LoopTo P body n (pc0F l) ⟨1, k, [some boxB]⟩ G := by
  refine LoopToT.to (T := 1) ?_ (Nat.le_refl _)
  refine LoopToT.nil 5 24 1 (lcell []) (Nat.le_refl _) rfl ?_
  exact LoopToT.stamp 0 h
noncomputable abbrev lpPc (l : List TokV) : Lp Try.prog where
  f := 41
  key := 3
  S := formS (fun _ M => some M.stamp) (fun _ => pc0F l) (fun k => ⟨1, k, [some boxB]⟩) (fun _ => limT l.length) (fun _ => .leaf (.ret, pcR (pieces comB l).length, pcM (pieces comB l))) (true :: true :: false :: false :: true :: true :: (ff20 []))
  one := by kernel_rfl
  ok := formS_ok fun k h1 => by
    unfold limT at h1
    refine ⟨l.length + 1, ?_⟩
    have key := LoopToT.out (pcs_loop (l.length + 1) l [] (by omega) (by simpa using h1))
    refine ((pc_nil l k key).out (false :: false :: false :: false :: true :: true :: (ff20 []))).mono fun ex F M hg => ?_
    obtain ⟨F0, ⟨rfl, ⟨l', rfl⟩, rfl⟩, rfl⟩ := hg
    rfl
end Sy
namespace Sy
abbrev spF (n : Nat) (k : Int) : Fr := (nn5 (some (.own 1 n 1) :: none :: none :: none :: none :: some (.own 1 n 1) :: some (int n) :: some (int k) :: (nn12 [])))
end Sy
theorem piecesF_le (p : TokV → Bool) : ∀ (n : Nat) (l x : List TokV), x ∈ piecesF p n l → x.length ≤ l.length
  | 0, l, x, h => by cases h
  | n + 1, l, x, h => by
    simp only [piecesF, List.mem_cons] at h
    rcases h with rfl | h
    · rw [List.length_take]; omega
    · split at h
      · cases h
      · have := piecesF_le p n _ x h
        rw [List.length_drop] at this
        omega
theorem pieces_le (p : TokV → Bool) (l x : List TokV) (h : x ∈ pieces p l) : x.length ≤ l.length := piecesF_le p _ l x h
theorem pieces_num (p : TokV → Bool) : ∀ (n : Nat) (l : List TokV), l.length ≤ n → (pieces p l).length ≤ l.length + 1 := by
  intro n
  induction n with
  | zero =>
    intro l h
    rw [pieces_step]
    have := tops_le p l 0 (Nat.zero_le _)
    rw [if_pos (by omega)]; simp
  | succ n ih =>
    intro l h
    rw [pieces_step]
    have := tops_le p l 0 (Nat.zero_le _)
    split
    · simp
    · have := ih (l.drop (tops p l 0 + 1)) (by rw [List.length_drop]; omega)
      rw [List.length_drop] at this
      simp only [List.length_cons]
      omega
theorem getD_le (ls : List (List TokV)) (h : ∀ x ∈ ls, x.length ≤ 100000) (k : Nat) : (ls.getD k []).length ≤ 100000 := by
  rw [List.getD_eq_getElem?_getD]
  cases hk : ls[k]? with
  | none => simp
  | some x => exact h x (List.mem_of_getElem? hk)
namespace Sy
theorem spF_ren (n : Nat) (k k' : Int) (h : k = k') : RenF (nm [0, 1]) (spF n k) (spF n k') := by
  subst h
  simp [RenF, RenV, RenVs, nm]
theorem LRows.set (ls : List (List TokV)) (k : Nat) {v : AV} (hv : ∀ σ : Nat → Option Nat, RenV σ v (lcell ls k 0)) : LRows ls.length (setc k 0 [v] (lcell ls)) ls := ⟨rfl, fun σ i j hi hj => by
  obtain rfl : j = 0 := by omega
  by_cases e : i = k
  · subst e
    rw [setc_in (by simp)]
    exact hv σ
  · rw [setc_out (fun q => e q.1)]
    exact RenV.free σ (kv_free _)⟩
theorem spl_loop (ls : List (List TokV)) (hn : ls.length ≤ 1000000) (hs : ∀ x ∈ ls, x.length ≤ 100000) : ∀ (n k : Nat), k ≤ ls.length → ls.length - k < n →
    LoopToT 2 Try.prog (theBody Try.prog 24 4) n (spF ls.length k) (pcM ls) (RG 2 fun ex F M => ex = .exit 0 ∧ F = spF ls.length ls.length ∧ M = pcM ls) := by
  intro n
  induction n with
  | zero => intro k h1 h2; omega
  | succ n ih =>
    intro k h1 h2
    have hb := LRows.base ls
    refine roundT plain mixed 2 [cCloneD (ls.getD (k : Int).toNat [])] [] 400 30 24 4 Try.func24 rfl (by kernel_rfl) (ff5 (true :: false :: false :: false :: false :: true :: true :: true :: (ff12 []))) ((.br (.yes (.yes (.yes (.yes (.yes .done))))) .done)) (let k : Int := k; (let e1 := (@Nat.blt (k).toNat (ls).length); let e2 := (@Value.tuple (@Array.mk _ [])); let e3 := (@AV.view ((ls.getD (k).toNat [])).length 3 (fun y0 => (fun y1 => (@AV.lit ([(@Value.int IntKind.i64 (((ls.getD (k).toNat []).getD y0 tok0)).kind), (@Value.string (((ls.getD (k).toNat []).getD y0 tok0)).text), (@Value.int IntKind.i64 (((ls.getD (k).toNat []).getD y0 tok0)).n)].getD y1 e2))))); let e4 := (some (@AV.own 1 (ls).length 1)); let e5 := (some (int (((ls).length : Nat) : Int))); let e6 := (fun y0 => (fun y1 => (@AV.view ((ls.getD y0 [])).length 3 (fun y2 => (fun y3 => (@AV.lit ([(@Value.int IntKind.i64 (((ls.getD y0 []).getD y2 tok0)).kind), (@Value.string (((ls.getD y0 []).getD y2 tok0)).text), (@Value.int IntKind.i64 (((ls.getD y0 []).getD y2 tok0)).n)].getD y3 e2))))))); (.fork (!(leI (((ls).length : Nat) : Int) k)) (.need (@inR k (ls).length) (.need e1 (.need (@isSo (@And ((@HAppend.hAppend _ _ _ _ (@HAppend.hAppend _ _ _ _ [] [e3]) []) = [e3]) (((ls.getD (k).toNat [])).length ≤ 100000))) (.need (@inR k (ls).length) (.need e1 (.leaf (Ex.norm, ((nn5 (e4 :: none :: none :: none :: none :: e4 :: e5 :: (some (int (w64 (k + (1 : Int))))) :: (nn12 []))), (@Mem.mk 2 (0 + 1) [(some (@Blk.mk [] 24 (some (@Rw.mk (ls).length 1 (@setc (k).toNat 0 [e3] e6))))), (some boxB)]))))))))) (.leaf ((@Ex.exit 0), ((nn5 (e4 :: none :: none :: none :: none :: e4 :: e5 :: (some (int k)) :: (nn12 []))), (@Mem.mk 2 0 [(some (@Blk.mk [] 24 (some (@Rw.mk (ls).length 1 e6)))), (some boxB)]))))))) (by kernel_rfl) ?_
    refine fork_ok (fun h3 => ?_) (fun h3 => ?_)
    · simp only [Bool.not_eq_true', Bool.not_eq_false', leI_t, leI_f, eqI_t, eqI_f, inR_t, inR_f, isSo_t, isSo_f] at h3
      have hin : inR (k : Int) ls.length = true := by rw [inR_t]; omega
      have hlt : Nat.blt (k : Int).toNat ls.length = true := by rw [Nat.blt_eq]; omega
      refine need_t hin (need_t hlt (need_so ⟨rfl, getD_le ls hs _⟩ (need_t hin (need_t hlt ?_))))
      refine LoopToT.ren [0, 1] rfl (spF_ren _ _ _ (by rw [w64_in (by omega)]; rfl)) (pcM_ren (ls := ls) rfl (by decide) rfl rfl (LRows.set ls (k : Int).toNat fun σ => RenV.free σ (kv_free _))) (ih (k + 1) (by omega) (by omega))
    · simp only [Bool.not_eq_true', Bool.not_eq_false', leI_t, leI_f, eqI_t, eqI_f, inR_t, inR_f, isSo_t, isSo_f] at h3
      have hk : k = ls.length := by omega
      subst hk
      exact ⟨_, _, [0, 1], rfl, spF_ren _ _ _ rfl, pcM_ren (ls := ls) rfl (by decide) rfl rfl hb, rfl, rfl, rfl⟩
noncomputable abbrev lpSpl (ls : List (List TokV)) : Lp Try.prog where
  f := 24
  key := 4
  S := formS (fun _ M => some M.stamp) (fun _ => spF ls.length 0) (fun k => ⟨2, k, [some ⟨[], 24, some ⟨ls.length, 1, lcell ls⟩⟩, some boxB]⟩) (fun _ => ls.length ≤ 1000000 ∧ ∀ x ∈ ls, x.length ≤ 100000) (fun _ => .leaf (.exit 0, spF ls.length ls.length, pcM ls)) (ff5 (true :: false :: false :: false :: false :: true :: true :: true :: (ff12 [])))
  one := by kernel_rfl
  ok := formS_ok fun k ⟨h1, h2⟩ => by
    refine ⟨ls.length + 1, ?_⟩
    have key := LoopToT.out (spl_loop ls h1 h2 (ls.length + 1) 0 (by omega) (by omega))
    have key2 := LoopToT.to (T := 2) key (Nat.le_refl 2)
    exact (LoopTo.stampA 0 key2).mono fun ex F M hg => by
      obtain ⟨rfl, rfl, rfl⟩ := hg
      rfl
end Sy
theorem Sy.split_t (l : List TokV) (h : limC l) : CallTo Try.prog 24 [kv l, int 12] M0 fun v M' => Frz true 0 M' v (.view (pieces comB l).length 1 (lcell (pieces comB l))) :=
  to (G := fun r => Frz true 0 r.2 r.1 (.view (pieces comB l).length 1 (lcell (pieces comB l)))) [] [lpPc l, lpSpl (pieces comB l)] 400 30 .done (let e1 := (@Value.tuple (@Array.mk _ [])); let e2 := (some (@AV.view (l).length 3 (fun y0 => (fun y1 => (@AV.lit ([(@Value.int IntKind.i64 ((l.getD y0 tok0)).kind), (@Value.string ((l.getD y0 tok0)).text), (@Value.int IntKind.i64 ((l.getD y0 tok0)).n)].getD y1 e1)))))); let e3 := (some (@AV.lit (@Value.slice none 0 0))); let e4 := (@AV.own 1 ((@pieces comB l)).length 1); let e5 := (some (int ((((@pieces comB l)).length : Nat) : Int))); let e6 := (@Mem.mk 2 0 [(some (@Blk.mk [] 24 (some (@Rw.mk ((@pieces comB l)).length 1 (fun y0 => (fun y1 => (@AV.view (((@pieces comB l).getD y0 [])).length 3 (fun y2 => (fun y3 => (@AV.lit ([(@Value.int IntKind.i64 ((((@pieces comB l).getD y0 []).getD y2 tok0)).kind), (@Value.string ((((@pieces comB l).getD y0 []).getD y2 tok0)).text), (@Value.int IntKind.i64 ((((@pieces comB l).getD y0 []).getD y2 tok0)).n)].getD y3 e1))))))))))), (some boxB)]); (.need (@isSo (@And ((e2 :: (some (@AV.fn (@Fn.func 42) [] [(@AV.ptr 0 0)])) :: (none :: none :: e3 :: e3 :: (nn20 []))) = (e2 :: (some (@AV.fn (@Fn.func splF) [] [(@AV.ptr 0 0)])) :: none :: none :: e3 :: e3 :: (nn20 []))) ((@Mem.mk 1 0 [(some (@Blk.mk [(int (12 : Int))] 3 none))]) = (@Mem.mk 1 0 [(some boxB)])))) (.need (@isSo ((l).length ≤ 1000000)) (.need (@isSo (@And ((none :: none :: (none :: none :: none :: (some e4) :: none :: none :: none :: none :: (some e4) :: e5 :: (some (int (0 : Int))) :: (nn12 []))) = (nn5 ((some e4) :: none :: none :: none :: none :: (some e4) :: e5 :: (some (int (0 : Int))) :: (nn12 [])))) (e6 = e6))) (.need (@isSo (@And (((@pieces comB l)).length ≤ 1000000) (∀ (x : List TokV), x ∈ pieces comB l → x.length ≤ 100000))) (.leaf (e4, e6))))))) (by kernel_rfl) (by
    unfold limC at h
    have h1 := pieces_num comB _ l (Nat.le_refl _)
    refine need_so ⟨rfl, rfl⟩ (need_so (show l.length ≤ 1000000 by omega) (need_so ⟨rfl, rfl⟩ (need_so ⟨by omega, fun x hx => Nat.le_trans (pieces_le comB l x hx) h⟩ ?_)))
    exact Frz.own (b := 1) (by decide) rfl rfl (Nat.le_refl _) rfl fun i j _ _ => Frz.free _ _ (kv_free _))
abbrev Sy.lview (ls : List (List TokV)) : AV := .view ls.length 1 (lcell ls)
theorem Sy.lview_free (ls : List (List TokV)) : Free (lview ls) := fun i j => kv_free _
theorem Sy.split_v (l : List TokV) (h : limC l) : CallTo Try.prog 24 [kv l, int 12] M0 fun v _ => v = lview (pieces comB l) :=
  CallTo.frz0 (split_t l h) ⟨kv_free l, trivial, trivial⟩ (lview_free _)
noncomputable abbrev Sy.cSplit (l : List TokV) : Con Try.prog := at1 24 [kv l, int 12] (lview (pieces comB l)) (limC l) fun h => ⟨⟨⟨kv_free l, trivial, trivial⟩, lview_free _⟩, split_v l h⟩
end Go.Proofs.Ytconlneohilnmaa
namespace Go.Proofs.Ytconlneohilnmaa
open Go Go.RowKit Pl Sy
set_option linter.unusedVariables false
set_option linter.unusedSimpArgs false
noncomputable abbrev Sy.cTrimW (l : List TokV) : Con Try.prog := at1 25 [kv l] (kv (trim l)) (limC l) fun h => ⟨⟨⟨kv_free l, trivial⟩, kv_free _⟩, trimp_t l h⟩
noncomputable abbrev Sy.cRSel (T : List TokV) : Con Try.prog := conR T 26 (fun r => match r with | [] => some () | _ => none) (fun _ => []) (fun a _ => .tup [.agg [pview (rselV T a).ps], boo ((rselV T a).ret && (rselV T a).r)]) (fun a _ => (rselV T a).a) (fun a _ => InT T a ∧ RdOk T) fun a c h =>
  ⟨⟨trivial, ⟨⟨pview_free _, trivial⟩, trivial, trivial⟩⟩, rsel_t T h.2 a h.1⟩
namespace Sy
abbrev sscell (ss : List (List PartV)) (i j : Nat) : AV := pview (ss.getD i [])
abbrev paM (ss : List (List PartV)) : Mem := ⟨1, 0, [some ⟨[], 43, some ⟨ss.length, 1, sscell ss⟩⟩]⟩
abbrev paF (ls : List (List TokV)) (n : Nat) (k : Int) : Fr := (none :: none :: some ((@AV.lit (@Value.slice none 0 0))) :: some ((int (0 : Int))) :: some (.own 0 n 1) :: (nn6 (some (lview ls) :: some (int ls.length) :: some (int k) :: (nn20 []))))
end Sy
def selOk (x : List TokV) : Bool := (rselV (trim x) 0).ret && (rselV (trim x) 0).r
def selPs (x : List TokV) : List PartV := (rselV (trim x) 0).ps
def ToksOk (l : List TokV) : Prop := ∀ t ∈ l, t.text.size ≤ maxLen
theorem trim_sub {l : List TokV} {t : TokV} (h : t ∈ trim l) : t ∈ l := by
  unfold trim at h
  rw [List.mem_reverse] at h
  have h1 := (List.dropWhile_sublist spB (l := (l.dropWhile spB).reverse)).subset h
  rw [List.mem_reverse] at h1
  exact (List.dropWhile_sublist spB).subset h1
theorem piecesF_mem (p : TokV → Bool) (t : TokV) : ∀ (n : Nat) (l x : List TokV), x ∈ piecesF p n l → t ∈ x → t ∈ l
  | 0, l, x, h, _ => by cases h
  | n + 1, l, x, h, ht => by
    simp only [piecesF, List.mem_cons] at h
    rcases h with rfl | h
    · exact List.mem_of_mem_take ht
    · split at h
      · cases h
      · exact List.mem_of_mem_drop (piecesF_mem p t n _ x h ht)
theorem rdOk_of {x : List TokV} (h : limC x) (hx : ToksOk x) : RdOk (trim x) := by
  have := trim_len x
  unfold limC at h
  refine ⟨by unfold limT; omega, fun i => ?_⟩
  rw [List.getD_eq_getElem?_getD]
  cases hk : (trim x)[i]? with
  | none => exact Nat.zero_le _
  | some t => exact hx t (trim_sub (List.mem_of_getElem? hk))
def PcOk (ls : List (List TokV)) : Prop := ls.length ≤ 1000000 ∧ ∀ x ∈ ls, limC x ∧ ToksOk x
namespace Sy
def SRows (n : Nat) (c : Nat → Nat → AV) (ss : List (List PartV)) : Prop := n = ss.length ∧ ∀ (σ : Nat → Option Nat) i j, i < n → j < 1 → RenV σ (c i j) (sscell ss i j)
theorem SRows.base (ss : List (List PartV)) : SRows ss.length (sscell ss) ss := ⟨rfl, fun σ _ _ _ _ => RenV.free σ (pview_free _)⟩
theorem SRows.app1 {n : Nat} {c c' : Nat → Nat → AV} {ss : List (List PartV)} (x : List PartV) (h : SRows n c ss) (hx : ∀ σ : Nat → Option Nat, RenV σ (c' 0 0) (pview x)) : SRows (n + 1) (appc n c c') (ss ++ [x]) := ⟨by rw [h.1]; simp, fun σ i j hi hj => by
  have hl := h.1
  obtain rfl : j = 0 := by omega
  by_cases hlt : i < n
  · rw [appc_lt hlt]
    have : (ss ++ [x]).getD i [] = ss.getD i [] := by
      simp only [List.getD_eq_getElem?_getD]
      rw [List.getElem?_append_left (by omega)]
    have h3 := h.2 σ i 0 hlt hj
    unfold sscell at h3 ⊢
    rw [this]
    exact h3
  · have e : i = n := by omega
    subst e
    rw [appc_ge (Nat.le_refl _), Nat.sub_self]
    have : (ss ++ [x]).getD i [] = x := by
      simp only [List.getD_eq_getElem?_getD]
      rw [List.getElem?_append_right (by omega), hl, Nat.sub_self]; rfl
    unfold sscell
    rw [this]
    exact hx σ⟩
theorem paM_ren {M : Mem} {l : List Nat} {b n : Nat} {c : Nat → Nat → AV} {ss : List (List PartV)} (hl : l = [b]) (h1 : M.get b = some ⟨[], 43, some ⟨n, 1, c⟩⟩) (e1 : SRows n c ss) : RenM (nm l) M (paM ss) := by
  subst hl
  refine .of rfl rfl (by simp) ⟨⟨b, _, rfl, h1, rfl, trivial, e1.1.symm, rfl, fun i j hi hj => ?_⟩, trivial⟩
  exact e1.2 _ i j (by have := e1.1; change i < ss.length at hi; omega) hj
abbrev paX : Fr := (none :: none :: some ((@AV.lit (@Value.slice none 0 0))) :: some (int 20) :: (nn30 []))
abbrev paN (n : Nat) : Fr := (none :: none :: some ((@AV.lit (@Value.slice none 0 0))) :: some ((int (0 : Int))) :: some (.own 0 n 1) :: (nn29 []))
def PaG (ls : List (List TokV)) (ss : List (List PartV)) (ex : Ex) (F : Fr) (M : Mem) : Prop := (ls.all selOk = true ∧ ex = .exit 0 ∧ F = paN (ss ++ ls.map selPs).length ∧ M = paM (ss ++ ls.map selPs)) ∨ (ls.all selOk = false ∧ ex = .ret ∧ F = paX ∧ M = ⟨0, 0, []⟩)
theorem par_loop (ls : List (List TokV)) (hls : PcOk ls) : ∀ (l pre : List (List TokV)) (ss : List (List PartV)), ls = pre ++ l → ss.length ≤ pre.length →
    LoopToT 0 Try.prog (theBody Try.prog 9 4) (l.length + 1) (paF ls ss.length pre.length) (paM ss) (RG 0 (PaG l ss)) := by
  intro l
  induction l with
  | nil =>
    intro pre ss h hn
    have hb := SRows.base ss
    have hp : ls.length = pre.length := by rw [h]; simp
    refine roundT plain mixed 0 [cTrimW (ls.getD (pre.length : Int).toNat []), cRSel (trim (ls.getD (pre.length : Int).toNat []))] [] 400 30 9 4 Try.func9 rfl (by kernel_rfl) (false :: false :: true :: true :: true :: (ff6 (true :: true :: true :: (ff20 [])))) ((.br (.yes (.yes (.yes (.br .done (.yes .done))))) .done)) (let k : Int := pre.length; (let e1 := (ls.getD (k).toNat []); let e2 := (@Value.tuple (@Array.mk _ [])); let e3 := (@AV.view (e1).length 3 (fun y0 => (fun y1 => (@AV.lit ([(@Value.int IntKind.i64 ((e1.getD y0 tok0)).kind), (@Value.string ((e1.getD y0 tok0)).text), (@Value.int IntKind.i64 ((e1.getD y0 tok0)).n)].getD y1 e2))))); let e4 := (@AV.view ((@trim e1)).length 3 (fun y0 => (fun y1 => (@AV.lit ([(@Value.int IntKind.i64 (((@trim e1).getD y0 tok0)).kind), (@Value.string (((@trim e1).getD y0 tok0)).text), (@Value.int IntKind.i64 (((@trim e1).getD y0 tok0)).n)].getD y1 e2))))); let e5 := (@Value.slice none 0 0); let e6 := (some (@AV.lit e5)); let e7 := (some (@AV.own 0 (ss).length 1)); let e8 := (some (@AV.view (ls).length 1 (fun y0 => (fun y1 => (@AV.view ((ls.getD y0 [])).length 3 (fun y2 => (fun y3 => (@AV.lit ([(@Value.int IntKind.i64 (((ls.getD y0 []).getD y2 tok0)).kind), (@Value.string (((ls.getD y0 []).getD y2 tok0)).text), (@Value.int IntKind.i64 (((ls.getD y0 []).getD y2 tok0)).n)].getD y3 e2))))))))); let e9 := (some (int (((ls).length : Nat) : Int))); let e10 := (@AV.view (((@rselV (@trim e1) (Int.ofNat 0))).ps).length 6 (@pcell ((@rselV (@trim e1) (Int.ofNat 0))).ps)); let e11 := (some (@Blk.mk (e10 :: (@List.drop _ (0 + ([e10]).length) [(@AV.lit e5)])) 43 none)); let e12 := (some (@Blk.mk [e4, (int ((@rselV (@trim e1) (Int.ofNat 0))).a)] 63 none)); let e13 := (fun y0 => (fun y1 => (@AV.view ((ss.getD y0 [])).length 6 (@pcell (ss.getD y0 []))))); let e14 := (some (@Blk.mk [] 43 (some (@Rw.mk (ss).length 1 e13)))); let e15 := ((ss).length + 1); let e16 := (e10 :: (@List.drop _ (0 + ([e10]).length) (@List.map _ _ AV.lit (@Array.toList _ (@Array.mk _ [(@List.get _ (@Array.toList _ (@Array.mk _ [e5])) (@Fin.mk _ 0 (@Nat.le_of_ble_eq_true _ _ (@Eq.refl _ true))))]))))); (.fork (!(leI (((ls).length : Nat) : Int) k)) (.need (@inR k (ls).length) (.need (@isSo (@And ((@HAppend.hAppend _ _ _ _ (@HAppend.hAppend _ _ _ _ [] [e3]) []) = [e3]) ((e1).length ≤ 100000))) (.need (@isSo (@And ((some (@Blk.mk (e4 :: (@List.drop _ (0 + ([e4]).length) (@List.map _ _ AV.lit (@Array.toList _ (@Array.mk _ [e5, (@Value.int IntKind.i64 (0 : Int))]))))) 63 none)) = (some (@Blk.mk [e4, (int (Int.ofNat 0))] 63 none))) (@And (([] : List AV) = []) (@And (@InT (@trim e1) (Int.ofNat 0)) (@RdOk (@trim e1)))))) (.fork (!(((@rselV (@trim e1) (Int.ofNat 0))).ret && ((@rselV (@trim e1) (Int.ofNat 0))).r)) (.leaf (Ex.ret, ((none :: none :: e6 :: (some (int (20 : Int))) :: e7 :: (nn6 (e8 :: e9 :: (some (int k)) :: (nn20 [])))), (@Mem.mk ((1 + 1) + 1) ((0 + 1) + 1) (e11 :: [e12, e14]))))) (.need (Bool.true && ((@Nat.ble (ss).length (ss).length) && ((@Nat.ble (e15 * 24) 140737488355328) && (@Nat.ble e15 17592186044416)))) (.leaf (Ex.norm, ((none :: none :: e6 :: (some (int (0 : Int))) :: (some (@AV.own (((1 + 1) + 1) + 1) e15 1)) :: (nn6 (e8 :: e9 :: (some (int (w64 (k + (1 : Int))))) :: (nn20 [])))), (@Mem.mk ((((1 + 1) + 1) + 1) + 1) (((0 + 1) + 1) + 1) ((some (@Blk.mk [] 43 (some (@Rw.mk e15 1 (@appc (ss).length e13 (fun y0 => (fun y1 => (@getA (@List.take _ 1 e16) ((y0 * 1) + y1))))))))) :: ((some (@Blk.mk e16 43 none)) :: (e11 :: [e12, none])))))))))))) (.leaf ((@Ex.exit 0), ((none :: none :: e6 :: (some (int (0 : Int))) :: e7 :: (nn6 (e8 :: e9 :: (some (int k)) :: (nn20 [])))), (@Mem.mk 1 0 [e14]))))))) (by kernel_rfl) ?_
    refine fork_ok (fun h3 => ?_) (fun h3 => ?_)
    · simp only [Bool.not_eq_true', Bool.not_eq_false', leI_t, leI_f, eqI_t, eqI_f, inR_t, inR_f, isSo_t, isSo_f] at h3
      omega
    · refine ⟨paN ss.length, paM ss, [0], rfl, ?_, paM_ren rfl rfl hb, .inl ⟨rfl, rfl, by simp, by simp⟩⟩
      simp [RenF, RenV, RenVs, nm]
  | cons x l ih =>
    intro pre ss h hn
    have hb := SRows.base ss
    have hp : ls.length = pre.length + l.length + 1 := by rw [h]; simp; omega
    have hg : ls.getD (pre.length : Int).toNat [] = x := by rw [h]; exact getD_at _ _ _ _ _ rfl
    have hx := hls.2 x (by rw [h]; simp)
    have hln := hls.1
    refine roundT plain mixed 0 [cTrimW (ls.getD (pre.length : Int).toNat []), cRSel (trim (ls.getD (pre.length : Int).toNat []))] [] 400 30 9 4 Try.func9 rfl (by kernel_rfl) (false :: false :: true :: true :: true :: (ff6 (true :: true :: true :: (ff20 [])))) ((.br (.yes (.yes (.yes (.br .done (.yes .done))))) .done)) (let k : Int := pre.length; (let e1 := (ls.getD (k).toNat []); let e2 := (@Value.tuple (@Array.mk _ [])); let e3 := (@AV.view (e1).length 3 (fun y0 => (fun y1 => (@AV.lit ([(@Value.int IntKind.i64 ((e1.getD y0 tok0)).kind), (@Value.string ((e1.getD y0 tok0)).text), (@Value.int IntKind.i64 ((e1.getD y0 tok0)).n)].getD y1 e2))))); let e4 := (@AV.view ((@trim e1)).length 3 (fun y0 => (fun y1 => (@AV.lit ([(@Value.int IntKind.i64 (((@trim e1).getD y0 tok0)).kind), (@Value.string (((@trim e1).getD y0 tok0)).text), (@Value.int IntKind.i64 (((@trim e1).getD y0 tok0)).n)].getD y1 e2))))); let e5 := (@Value.slice none 0 0); let e6 := (some (@AV.lit e5)); let e7 := (some (@AV.own 0 (ss).length 1)); let e8 := (some (@AV.view (ls).length 1 (fun y0 => (fun y1 => (@AV.view ((ls.getD y0 [])).length 3 (fun y2 => (fun y3 => (@AV.lit ([(@Value.int IntKind.i64 (((ls.getD y0 []).getD y2 tok0)).kind), (@Value.string (((ls.getD y0 []).getD y2 tok0)).text), (@Value.int IntKind.i64 (((ls.getD y0 []).getD y2 tok0)).n)].getD y3 e2))))))))); let e9 := (some (int (((ls).length : Nat) : Int))); let e10 := (@AV.view (((@rselV (@trim e1) (Int.ofNat 0))).ps).length 6 (@pcell ((@rselV (@trim e1) (Int.ofNat 0))).ps)); let e11 := (some (@Blk.mk (e10 :: (@List.drop _ (0 + ([e10]).length) [(@AV.lit e5)])) 43 none)); let e12 := (some (@Blk.mk [e4, (int ((@rselV (@trim e1) (Int.ofNat 0))).a)] 63 none)); let e13 := (fun y0 => (fun y1 => (@AV.view ((ss.getD y0 [])).length 6 (@pcell (ss.getD y0 []))))); let e14 := (some (@Blk.mk [] 43 (some (@Rw.mk (ss).length 1 e13)))); let e15 := ((ss).length + 1); let e16 := (e10 :: (@List.drop _ (0 + ([e10]).length) (@List.map _ _ AV.lit (@Array.toList _ (@Array.mk _ [(@List.get _ (@Array.toList _ (@Array.mk _ [e5])) (@Fin.mk _ 0 (@Nat.le_of_ble_eq_true _ _ (@Eq.refl _ true))))]))))); (.fork (!(leI (((ls).length : Nat) : Int) k)) (.need (@inR k (ls).length) (.need (@isSo (@And ((@HAppend.hAppend _ _ _ _ (@HAppend.hAppend _ _ _ _ [] [e3]) []) = [e3]) ((e1).length ≤ 100000))) (.need (@isSo (@And ((some (@Blk.mk (e4 :: (@List.drop _ (0 + ([e4]).length) (@List.map _ _ AV.lit (@Array.toList _ (@Array.mk _ [e5, (@Value.int IntKind.i64 (0 : Int))]))))) 63 none)) = (some (@Blk.mk [e4, (int (Int.ofNat 0))] 63 none))) (@And (([] : List AV) = []) (@And (@InT (@trim e1) (Int.ofNat 0)) (@RdOk (@trim e1)))))) (.fork (!(((@rselV (@trim e1) (Int.ofNat 0))).ret && ((@rselV (@trim e1) (Int.ofNat 0))).r)) (.leaf (Ex.ret, ((none :: none :: e6 :: (some (int (20 : Int))) :: e7 :: (nn6 (e8 :: e9 :: (some (int k)) :: (nn20 [])))), (@Mem.mk ((1 + 1) + 1) ((0 + 1) + 1) (e11 :: [e12, e14]))))) (.need (Bool.true && ((@Nat.ble (ss).length (ss).length) && ((@Nat.ble (e15 * 24) 140737488355328) && (@Nat.ble e15 17592186044416)))) (.leaf (Ex.norm, ((none :: none :: e6 :: (some (int (0 : Int))) :: (some (@AV.own (((1 + 1) + 1) + 1) e15 1)) :: (nn6 (e8 :: e9 :: (some (int (w64 (k + (1 : Int))))) :: (nn20 [])))), (@Mem.mk ((((1 + 1) + 1) + 1) + 1) (((0 + 1) + 1) + 1) ((some (@Blk.mk [] 43 (some (@Rw.mk e15 1 (@appc (ss).length e13 (fun y0 => (fun y1 => (@getA (@List.take _ 1 e16) ((y0 * 1) + y1))))))))) :: ((some (@Blk.mk e16 43 none)) :: (e11 :: [e12, none])))))))))))) (.leaf ((@Ex.exit 0), ((none :: none :: e6 :: (some (int (0 : Int))) :: e7 :: (nn6 (e8 :: e9 :: (some (int k)) :: (nn20 [])))), (@Mem.mk 1 0 [e14]))))))) (by kernel_rfl) ?_
    refine fork_ok (fun h3 => ?_) (fun h3 => ?_)
    · have hin : inR (pre.length : Int) ls.length = true := by rw [inR_t]; omega
      refine need_t hin (need_so ⟨rfl, by rw [hg]; exact hx.1⟩ (need_so ⟨rfl, rfl, ?_, ?_⟩ (fork_ok (fun h4 => ?_) (fun h4 => need_t (room3 (by omega) (by decide)) ?_))))
      · have hr : RdOk (trim x) := rdOk_of hx.1 hx.2
        have hrl := hr.1
        unfold limT at hrl
        rw [hg]
        exact ⟨⟨by decide, by show (0 : Int) ≤ _; omega⟩, by unfold lim; omega⟩
      · rw [hg]; exact rdOk_of hx.1 hx.2
      · rw [hg] at h4
        have e : selOk x = false := nb h4
        refine ⟨paX, ⟨0, 0, []⟩, [], rfl, ?_, .of rfl rfl (by simp) trivial, .inr ⟨by simp [e], rfl, rfl, rfl⟩⟩
        simp [RenF, RenV, RenVs, nm]
      · rw [hg] at h4
        have e : selOk x = true := nc h4
        have key := ih (pre ++ [x]) (ss ++ [selPs x]) (by rw [h]; simp) (by simp; omega)
        have key2 : LoopToT 0 Try.prog (theBody Try.prog 9 4) (l.length + 1) (paF ls (ss ++ [selPs x]).length (pre ++ [x]).length) (paM (ss ++ [selPs x])) (RG 0 (PaG (x :: l) ss)) := key.mono fun ex F M ⟨F2, M2, q, q1, q2, q3, q4⟩ => ⟨F2, M2, q, q1, q2, q3, by
          rcases q4 with ⟨r1, r2, r3, r4⟩ | ⟨r1, r2, r3, r4⟩
          · exact .inl ⟨by rw [List.all_cons, e, r1]; rfl, r2, by rw [r3]; simp, by rw [r4]; simp⟩
          · exact .inr ⟨by rw [List.all_cons, e, r1]; rfl, r2, r3, r4⟩⟩
        refine LoopToT.ren [4] rfl ?_ (paM_ren (ss := ss ++ [selPs x]) rfl rfl (hb.app1 _ fun σ => ?_)) key2
        · simp only [RenF, and_true]
          refine ⟨rfl, rfl, ⟨rfl, by simp, rfl⟩, RenV.free _ (lview_free ls), rfl, ?_⟩
          rw [w64_in (by omega), show ((pre ++ [x]).length : Int) = (pre.length : Int) + 1 by simp]
          exact rfl
        · rw [show selPs x = (rselV (trim (ls.getD (pre.length : Int).toNat [])) 0).ps by rw [hg]; rfl]
          exact RenV.free σ (pview_free _)
    · simp only [Bool.not_eq_true', Bool.not_eq_false', leI_t, leI_f, eqI_t, eqI_f, inR_t, inR_f, isSo_t, isSo_f] at h3
      omega
abbrev pa0F (ls : List (List TokV)) : Fr := (none :: none :: some ((@AV.lit (@Value.slice none 0 0))) :: some ((int (0 : Int))) :: some ((@AV.lit (@Value.slice none 0 0))) :: (nn6 (some (lview ls) :: some (int ls.length) :: some (int 0) :: (nn20 []))))
theorem pa_nil {P : Program} {body : Code} {n : Nat} {G : Ex → Fr → Mem → Prop} (ls : List (List TokV)) (k : Nat) (h : LoopToT 0 P body n (paF ls 0 0) (paM []) G) : LoopTo P body n (pa0F ls) ⟨0, k, []⟩ G := by
  refine LoopToT.to (T := 0) ?_ (Nat.le_refl _)
  refine LoopToT.nil 4 43 1 (sscell []) (Nat.le_refl _) rfl ?_
  exact LoopToT.stamp 0 h
noncomputable abbrev lpPar (ls : List (List TokV)) : Lp Try.prog where
  f := 9
  key := 4
  S := formS (fun _ M => some M.stamp) (fun _ => pa0F ls) (fun k => ⟨0, k, []⟩) (fun _ => PcOk ls) (fun _ => .fork (ls.all selOk) (.leaf (.exit 0, paN (ls.map selPs).length, paM (ls.map selPs))) (.leaf (.ret, paX, ⟨0, 0, []⟩))) (false :: false :: true :: true :: true :: (ff6 (true :: true :: true :: (ff20 []))))
  one := by kernel_rfl
  ok := formS_ok fun k h1 => by
    refine ⟨ls.length + 1, ?_⟩
    have key := LoopToT.out (par_loop ls h1 ls [] [] rfl (Nat.le_refl _))
    refine (pa_nil ls k key).mono fun ex F M hg => ?_
    rcases hg with ⟨r1, rfl, rfl, rfl⟩ | ⟨r1, rfl, rfl, rfl⟩
    · exact .inl ⟨r1, rfl⟩
    · exact .inr ⟨r1, rfl⟩
end Sy
def parseV (l : List TokV) : List (List PartV) := if (pieces comB l).all selOk = true then (pieces comB l).map selPs else []
def parseE (l : List TokV) : Int := if (pieces comB l).all selOk = true then 0 else 20
theorem pcOk_of {l : List TokV} (h : limC l) (hx : ToksOk l) : PcOk (pieces comB l) := by
  have h1 := pieces_num comB _ l (Nat.le_refl _)
  unfold limC at h
  refine ⟨by omega, fun x hxm => ⟨?_, fun t ht => hx t (piecesF_mem comB t _ l x hxm ht)⟩⟩
  have := pieces_le comB l x hxm
  unfold limC
  omega
theorem Sy.parse_f (l : List TokV) (h : limC l) (hx : ToksOk l) : CallTo Try.prog 9 [kv l] M0 fun v M' => Frz true 0 M' v (.tup [sview (parseV l), int (parseE l)]) :=
  to (G := fun r => Frz true 0 r.2 r.1 (.tup [sview (parseV l), int (parseE l)])) [cSplit l] [lpPar (pieces comB l)] 400 30 (.yes (.br .done .done)) (let e1 := (@Value.tuple (@Array.mk _ [])); let e2 := (@AV.view (l).length 3 (fun y0 => (fun y1 => (@AV.lit ([(@Value.int IntKind.i64 ((l.getD y0 tok0)).kind), (@Value.string ((l.getD y0 tok0)).text), (@Value.int IntKind.i64 ((l.getD y0 tok0)).n)].getD y1 e1))))); let e3 := (@AV.lit (@Value.slice none 0 0)); let e4 := (some (int (0 : Int))); let e5 := (@pieces comB l); let e6 := (some (@AV.view (e5).length 1 (fun y0 => (fun y1 => (@AV.view ((e5.getD y0 [])).length 3 (fun y2 => (fun y3 => (@AV.lit ([(@Value.int IntKind.i64 (((e5.getD y0 []).getD y2 tok0)).kind), (@Value.string (((e5.getD y0 []).getD y2 tok0)).text), (@Value.int IntKind.i64 (((e5.getD y0 []).getD y2 tok0)).n)].getD y3 e1))))))))); let e7 := (some (int (((e5).length : Nat) : Int))); (.need (@isSo (@And ((@HAppend.hAppend _ _ _ _ (@HAppend.hAppend _ _ _ _ [] [e2, (int (12 : Int))]) []) = [e2, (int (12 : Int))]) ((l).length ≤ 100000))) (.need (@isSo (@And ((none :: (none :: (some e3) :: e4 :: (some e3) :: (nn6 (e6 :: e7 :: e4 :: (nn20 []))))) = (none :: none :: (some e3) :: e4 :: (some e3) :: (nn6 (e6 :: e7 :: e4 :: (nn20 []))))) ((@Mem.mk 0 0 []) = (@Mem.mk 0 0 [])))) (.need (@isSo (@PcOk e5)) (.fork (@List.all _ e5 selOk) (.leaf ((@AV.tup [(@AV.own 0 ((@List.map _ _ selPs e5)).length 1), (int (0 : Int))]), (@Mem.mk 1 0 [(some (@Blk.mk [] 43 (some (@Rw.mk ((@List.map _ _ selPs e5)).length 1 (fun y0 => (fun y1 => (@AV.view (((@List.map _ _ selPs e5).getD y0 [])).length 6 (@pcell ((@List.map _ _ selPs e5).getD y0 [])))))))))]))) (.leaf ((@AV.tup [e3, (int (20 : Int))]), (@Mem.mk 0 0 [])))))))) (by kernel_rfl) (by
    refine need_so ⟨rfl, h⟩ (need_so ⟨rfl, rfl⟩ (need_so (pcOk_of h hx) (fork_ok (fun h1 => ?_) (fun h1 => ?_))))
    · unfold parseV parseE
      rw [if_pos h1, if_pos h1]
      exact Frz.tup ⟨Frz.own (b := 0) (by decide) rfl rfl (Nat.le_refl _) rfl fun i j _ _ => Frz.free _ _ (pview_free _), Frz.lit _ _ _ _, trivial⟩
    · unfold parseV parseE
      rw [if_neg (nt h1), if_neg (nt h1)]
      exact Frz.tup ⟨Frz.nil _ _ _ _ _, Frz.lit _ _ _ _, trivial⟩)
theorem Sy.parse_v (l : List TokV) (h : limC l) (hx : ToksOk l) : CallTo Try.prog 9 [kv l] M0 fun v _ => v = .tup [sview (parseV l), int (parseE l)] :=
  CallTo.frz0 (parse_f l h hx) ⟨kv_free l, trivial⟩ ⟨sview_free _, trivial, trivial⟩
noncomputable abbrev Sy.cParse (l : List TokV) : Con Try.prog := at1 9 [kv l] (.tup [sview (parseV l), int (parseE l)]) (limC l ∧ ToksOk l) fun h => ⟨⟨⟨kv_free l, trivial⟩, ⟨sview_free _, trivial, trivial⟩⟩, parse_v l h.1 h.2⟩
end Go.Proofs.Ytconlneohilnmaa
namespace Go.Proofs.Ytconlneohilnmaa
open Go Go.RowKit Pl Sy
set_option linter.unusedVariables false
set_option linter.unusedSimpArgs false
namespace Sy
structure RX where
  M : Mem
  v : AV
  b : Nat
  n : Nat
  m : Nat
  cell : Nat → Nat → AV
def rGet3 (M1 : Mem) (v : AV) (b n : Nat) : Option Blk → Option RX
  | some ⟨[], e, some R⟩ => match Nat.beq e 39 && Nat.beq R.s 3 with
    | true => some ⟨M1, v, b, n, R.n, R.cell⟩
    | false => none
  | _ => none
noncomputable def rGetO (M1 : Mem) (v : AV) : AV → Option RX
  | .own b n s => match Nat.beq s 3 with
    | true => rGet3 M1 v b n (M1.get b)
    | false => none
  | _ => none
noncomputable def rGet (M : Mem) (v : AV) : Option RX := match v with
  | .lit (.slice none 0 0) => some ⟨M.push (rowB 0 (kcell [])), v, M.top, 0, 0, kcell []⟩
  | .own b n s => rGetO M v v
  | .sl b o n c s => match slRows M v with
    | some (M1, x1) => rGetO M1 v x1
    | none => none
  | _ => none
theorem rGetO_ok {M1 : Mem} {v x1 : AV} {x : RX} (h : rGetO M1 v x1 = some x) : x.M = M1 ∧ x.v = v ∧ x1 = .own x.b x.n 3 ∧ M1.get x.b = some (rowB x.m x.cell) := by
  unfold rGetO at h
  split at h
  · rename_i b n s
    split at h
    · rename_i hs
      have hs := Nat.eq_of_beq_eq_true hs
      subst hs
      cases hg : M1.get b with
      | none => rw [hg] at h; cases h
      | some B =>
        rw [hg] at h
        unfold rGet3 at h
        split at h
        · rename_i e R heq
          simp at heq
          subst heq
          split at h
          · rename_i hb
            simp only [Bool.and_eq_true] at hb
            obtain ⟨h1, h2⟩ := hb
            have h1 := Nat.eq_of_beq_eq_true h1
            have h2 := Nat.eq_of_beq_eq_true h2
            simp at h
            subst h
            refine ⟨rfl, rfl, rfl, ?_⟩
            rw [hg, h1]
            obtain ⟨rn, rs, rc⟩ := R
            simp only at h2
            subst h2
            rfl
          · cases h
        · cases h
    · cases h
  · cases h
theorem LoopTo.rows {M : Mem} {v : AV} {x : RX} (h : rGet M v = some x) : x.v = v ∧ x.M.get x.b = some (rowB x.m x.cell) ∧ ∀ {P : Program} {body : Code} {n : Nat} {F : Fr} {G : Ex → Fr → Mem → Prop} (t : Nat), F[t]? = some (some v) → LoopTo P body n (F.set t (some (.own x.b x.n 3))) x.M G → LoopTo P body n F M G := by
  unfold rGet at h
  split at h
  · simp at h
    subst h
    refine ⟨rfl, Mem.get_push_new _ _, fun {P body n F G} t ht hL => ?_⟩
    exact LoopToT.to (LoopToT.nil t 39 3 (kcell []) (Nat.le_refl _) ht (hL.toT M.top)) (Nat.le_refl _)
  · obtain ⟨rfl, ev, e, hg⟩ := rGetO_ok h
    refine ⟨ev, hg, fun {P body n F G} t ht hL => ?_⟩
    have e2 : F.set t (some (.own x.b x.n 3)) = F := by
      rw [← e]
      refine List.ext_getElem? fun i => ?_
      rw [List.getElem?_set]
      by_cases hi : t = i
      · subst hi
        have hlt : t < F.length := by
          rcases Nat.lt_or_ge t F.length with h1 | h1
          · exact h1
          · rw [List.getElem?_eq_none h1] at ht; cases ht
        rw [if_pos rfl, if_pos hlt, ht]
      · rw [if_neg hi]
    rw [e2] at hL
    exact hL
  · rename_i b o n c s
    cases hr : slRows M (.sl b o n c s) with
    | none => rw [hr] at h; cases h
    | some Mx =>
      obtain ⟨M1, x1⟩ := Mx
      rw [hr] at h
      simp only at h
      obtain ⟨rfl, ev, e, hg⟩ := rGetO_ok h
      refine ⟨ev, hg, fun {P body n' F G} t ht hL => ?_⟩
      intro w0 ρ a w Q hF hW hQ
      obtain ⟨h1, h2⟩ := slRows_sound hW (hF.val t _ ht) hr
      refine hL w0 ρ a w Q ⟨by rw [List.length_set]; exact hF.len, fun t' v hv => ?_, hF.defers⟩ h1 hQ
      rw [List.getElem?_set] at hv
      by_cases hi : t = t'
      · subst hi
        simp only [if_true] at hv
        split at hv
        · simp at hv; subst hv
          rw [← e]; exact h2
        · cases hv
      · rw [if_neg hi] at hv
        exact hF.val t' v hv
  · cases h
noncomputable def rRes (M : Mem) (b n : Nat) (cell : Nat → Nat → AV) (X : List TokV) : Mem := (M.put b none).push (rowB (n + X.length) (appc n cell (kcell X)))
theorem rRes_get {M : Mem} {b n : Nat} {cell : Nat → Nat → AV} {X : List TokV} {B1 : Blk} (h1 : M.get b = some B1) {x : Nat} {B' : Blk} (h : (rRes M b n cell X).get x = some B') :
    (x = M.top ∧ B' = rowB (n + X.length) (appc n cell (kcell X))) ∨ (x < M.top ∧ x ≠ b ∧ M.get x = some B') := by
  have hb := Mem.get_lt h1
  unfold rRes at h
  rcases Mem.get_push h with ⟨h2, h3⟩ | ⟨h2, h3⟩
  · exact .inl ⟨h2, h3⟩
  · have h2' : x < M.top := h2
    rcases Mem.get_put hb h3 with ⟨_, e3⟩ | ⟨e3, e4⟩
    · cases e3
    · exact .inr ⟨h2', e3, e4⟩
abbrev rpM (B : Blk) (L : List TokV) : Mem := ⟨2, 0, [some (rowB L.length (kcell L)), some B]⟩
abbrev rqM (B C : Blk) (L : List TokV) : Mem := ⟨3, 0, [some (rowB L.length (kcell L)), some C, some B]⟩
theorem loopR_frame {P : Program} {body : Code} {m : Nat} {Fc Fc' F F' : Fr} {e : Ex} {B : Blk} {L X : List TokV} (h : LoopToT 1 P body m Fc (rpM B L) fun ex F2 M2 => ex = e ∧ F2 = Fc' ∧ M2 = rpM B (L ++ X)) {M : Mem} {pb b n : Nat} {cell : Nat → Nat → AV}
    (hF : RenF (nm [pb, b]) F Fc) (hF' : ∀ τ : Nat → Option Nat, τ pb = some 0 → τ M.top = some 1 → RenF τ Fc' F') (h1 : M.get b = some (rowB n cell)) (h2 : M.get pb = some B) (hne : pb ≠ b) (hB : Frees B.cells) (hBr : B.rows = none) (hc : CellIs n cell L) :
    LoopTo P body m F M fun ex F2 M2 => ex = e ∧ F2 = F' ∧ M2 = rRes M b n cell X := by
  have hn := hc.1
  have hbt := Mem.get_lt h1
  have hpt := Mem.get_lt h2
  have hBB : ∀ σ, RenB σ B B := fun σ => ⟨rfl, RenVs.free σ hB, by rw [hBr]; exact trivial⟩
  refine LoopToT.frame (σ := nm [pb, b]) h hF (.of rfl rfl (by simp; omega) ⟨⟨b, _, rfl, h1, rfl, trivial, hn.symm, rfl, fun i j hi hj => hc.free _ (by have hi : i < L.length := hi; omega) hj⟩, ⟨pb, _, rfl, h2, hBB _⟩, trivial⟩) ?_ ?_
  · intro x c hx
    rcases x with _ | _ | x
    · exact ⟨_, rfl⟩
    · exact ⟨_, rfl⟩
    · cases hx
  · rintro ex F2 M2 ⟨rfl, rfl, rfl⟩
    have t0 : tau2 pb M.top pb = some 0 := by simp [tau2]
    have t2 : tau2 pb M.top M.top = some 1 := by
      unfold tau2
      rw [if_neg (by omega), if_pos rfl]
    have hlen : (L ++ X).length = n + X.length := by rw [List.length_append, hn]
    refine ⟨tau2 pb M.top, F', _, ⟨rfl, rfl, rfl⟩, hF' _ t0 t2, Nat.le_succ _, fun x c hx => ?_, fun x c hlt hx => ?_, fun x x' c hx hx' => ?_, fun x B' hx => ?_⟩
    · show x < M.top + 1
      rcases tau2_of hx with ⟨h, _⟩ | ⟨h, _⟩ <;> omega
    · rcases tau2_of hx with ⟨rfl, rfl⟩ | ⟨h, _⟩
      · exact ⟨by omega, rfl⟩
      · omega
    · rcases tau2_of hx with ⟨h, h'⟩ | ⟨h, _, h'⟩ <;> rcases tau2_of hx' with ⟨k, k'⟩ | ⟨k, _, k'⟩ <;> omega
    · rcases rRes_get h1 hx with ⟨rfl, rfl⟩ | ⟨e1, e3, e4⟩
      · refine .inr ⟨1, _, t2, rfl, rfl, trivial, hlen.symm, rfl, fun i j hi hj => ?_⟩
        dsimp only
        rw [(hc.app (CellIs.kc X)).2 i j hi hj]
        exact rfl
      · by_cases hp : x = pb
        · subst hp
          rw [h2] at e4
          simp at e4
          subst e4
          exact .inr ⟨0, B, t0, rfl, hBB _⟩
        · refine .inl ⟨e1, fun c hc => ?_, e4⟩
          rcases c with _ | _ | c
          · have : some pb = some x := hc
            simp at this; omega
          · have : some b = some x := hc
            simp at this; omega
          · cases hc
theorem loopR2_frame {P : Program} {body : Code} {m : Nat} {Fc Fc' F F' : Fr} {e : Ex} {B C : Blk} {L X : List TokV} (h : LoopToT 2 P body m Fc (rqM B C L) fun ex F2 M2 => ex = e ∧ F2 = Fc' ∧ M2 = rqM B C (L ++ X)) {M : Mem} {pb qb b n : Nat} {cell : Nat → Nat → AV}
    (hF : RenF (nm [pb, qb, b]) F Fc) (hF' : ∀ τ : Nat → Option Nat, τ pb = some 0 → τ qb = some 1 → τ M.top = some 2 → RenF τ Fc' F') (h1 : M.get b = some (rowB n cell)) (h2 : M.get pb = some B) (h3 : M.get qb = some C) (hne : pb ≠ b ∧ qb ≠ b ∧ pb ≠ qb) (hB : Frees B.cells ∧ Frees C.cells) (hBr : B.rows = none ∧ C.rows = none) (hc : CellIs n cell L) :
    LoopTo P body m F M fun ex F2 M2 => ex = e ∧ F2 = F' ∧ M2 = rRes M b n cell X := by
  have hn := hc.1
  have hbt := Mem.get_lt h1
  have hpt := Mem.get_lt h2
  have hqt := Mem.get_lt h3
  have hBB : ∀ σ, RenB σ B B := fun σ => ⟨rfl, RenVs.free σ hB.1, by rw [hBr.1]; exact trivial⟩
  have hCC : ∀ σ, RenB σ C C := fun σ => ⟨rfl, RenVs.free σ hB.2, by rw [hBr.2]; exact trivial⟩
  refine LoopToT.frame (σ := nm [pb, qb, b]) h hF (.of rfl rfl (by simp; omega) ⟨⟨b, _, rfl, h1, rfl, trivial, hn.symm, rfl, fun i j hi hj => hc.free _ (by have hi : i < L.length := hi; omega) hj⟩, ⟨qb, _, rfl, h3, hCC _⟩, ⟨pb, _, rfl, h2, hBB _⟩, trivial⟩) ?_ ?_
  · intro x c hx
    rcases x with _ | _ | _ | x
    · exact ⟨_, rfl⟩
    · exact ⟨_, rfl⟩
    · exact ⟨_, rfl⟩
    · cases hx
  · rintro ex F2 M2 ⟨rfl, rfl, rfl⟩
    have t0 : tau3 pb qb M.top pb = some 0 := by simp [tau3]
    have t1 : tau3 pb qb M.top qb = some 1 := by
      unfold tau3
      rw [if_neg (by omega), if_pos rfl]
    have t2 : tau3 pb qb M.top M.top = some 2 := by
      unfold tau3
      rw [if_neg (by omega), if_neg (by omega), if_pos rfl]
    have hlen : (L ++ X).length = n + X.length := by rw [List.length_append, hn]
    refine ⟨tau3 pb qb M.top, F', _, ⟨rfl, rfl, rfl⟩, hF' _ t0 t1 t2, Nat.le_succ _, fun x c hx => ?_, fun x c hlt hx => ?_, fun x x' c hx hx' => ?_, fun x B' hx => ?_⟩
    · show x < M.top + 1
      rcases tau3_of hx with ⟨h, _⟩ | ⟨h, _⟩ | ⟨h, _⟩ <;> omega
    · rcases tau3_of hx with ⟨rfl, rfl⟩ | ⟨rfl, _, rfl⟩ | ⟨h, _⟩
      · exact ⟨by omega, rfl⟩
      · exact ⟨by omega, rfl⟩
      · omega
    · rcases tau3_of hx with ⟨h, h'⟩ | ⟨h, _, h'⟩ | ⟨h, _, _, h'⟩ <;> rcases tau3_of hx' with ⟨k, k'⟩ | ⟨k, _, k'⟩ | ⟨k, _, _, k'⟩ <;> omega
    · rcases rRes_get h1 hx with ⟨rfl, rfl⟩ | ⟨e1, e3, e4⟩
      · refine .inr ⟨2, _, t2, rfl, rfl, trivial, hlen.symm, rfl, fun i j hi hj => ?_⟩
        dsimp only
        rw [(hc.app (CellIs.kc X)).2 i j hi hj]
        exact rfl
      · by_cases hp : x = pb
        · subst hp
          rw [h2] at e4
          simp at e4
          subst e4
          exact .inr ⟨0, B, t0, rfl, hBB _⟩
        · by_cases hq : x = qb
          · subst hq
            rw [h3] at e4
            simp at e4
            subst e4
            exact .inr ⟨1, C, t1, rfl, hCC _⟩
          · refine .inl ⟨e1, fun c hc => ?_, e4⟩
            rcases c with _ | _ | _ | c
            · have : some pb = some x := hc
              simp at this; omega
            · have : some qb = some x := hc
              simp at this; omega
            · have : some b = some x := hc
              simp at this; omega
            · cases hc
end Sy
theorem Sy.tok_t (k : Int) (s : ByteArray) : CallTo Try.prog 27 [int k, .lit (.string s)] M0 fun v _ => v = tokA (tk k s) :=
  toV [] [] 400 30 .done (.leaf (@AV.agg (@List.take _ 3 ((int k) :: ((@AV.lit (@Value.string s)) :: ((int (0 : Int)) :: (@List.drop _ (0 + (((int k) :: ((@AV.lit (@Value.string s)) :: (@List.drop _ (1 + ([(@AV.lit (@Value.string s))]).length) ((int k) :: (@List.drop _ (0 + ([(int k)]).length) (@List.map _ _ AV.lit (@Array.toList _ (@Array.mk _ [(@Value.int IntKind.i64 (0 : Int)), (@Value.string (@ByteArray.mk (@Array.mk _ []))), (@Value.int IntKind.i64 (0 : Int))]))))))))).length) [(int (0 : Int)), (@AV.lit (@Value.string (@ByteArray.mk (@Array.mk _ [])))), (int (0 : Int))]))))))) (by kernel_rfl) rfl
noncomputable abbrev Sy.cTok : Con Try.prog := atX 27 (fun args => match args with | [.lit (.int .i64 k), .lit (.string s)] => some (k, s) | _ => none) (fun y => [int y.1, .lit (.string y.2)]) (fun y => .agg [int y.1, .lit (.string y.2), int 0]) (fun _ => True) fun y _ => ⟨⟨⟨trivial, trivial, trivial⟩, trivial, trivial, trivial, trivial⟩, tok_t y.1 y.2⟩
namespace Sy
abbrev rcF (pb b n : Nat) (k : Int) : Fr := (none :: some (.ptr pb 0) :: none :: some (.own b n 3) :: some (int k) :: (nn5 (nn47 (nn48 []))))
end Sy
theorem Sy.CellIs.app3 {n m : Nat} {c d : Nat → Nat → AV} {L X : List TokV} (h : CellIs n c L) (hm : m = X.length) (hd : ∀ i j, i < m → j < 3 → d i j = kcell X i j) : CellIs (n + m) (appc n c d) (L ++ X) := h.app ⟨hm, hd⟩
theorem Sy.rpM_ren {B : Blk} {M : Mem} {l : List Nat} {b n : Nat} {cell : Nat → Nat → AV} {L : List TokV} (hl : l = [0, b]) (hb0 : b ≠ 0) (h0 : M.get 0 = some B) (h2 : M.get b = some (rowB n cell)) (hB : Frees B.cells) (hBr : B.rows = none) (hc : CellIs n cell L) : RenM (nm l) M (rpM B L) := by
  subst hl
  exact .of rfl rfl (by simp; omega) ⟨⟨b, _, rfl, h2, rfl, trivial, hc.1.symm, rfl, fun i j hi hj => rowsAt hc _ hi hj⟩, ⟨0, _, rfl, h0, rfl, RenVs.free _ hB, by rw [hBr]; exact trivial⟩, trivial⟩
theorem Sy.rcF_ren (pb b n n' : Nat) (k k' : Int) (pb' b' : Nat) (σ : Nat → Option Nat) (h : k = k') (hn : n = n') (h0 : σ pb' = some pb) (h1 : σ b' = some b) : RenF σ (rcF pb b n k) (rcF pb' b' n' k') := by
  subst h hn
  simp only [RenF, and_true]
  exact ⟨⟨h0, rfl⟩, ⟨h1, rfl, rfl⟩, rfl⟩
theorem Sy.rc_step (p : PartV) (hp : p.cls.length ≤ 8) (k : Int) (L : List TokV) (m : Nat) (G : Ex → Fr → Mem → Prop) (h0 : 0 ≤ k) (hk : k ≤ p.cls.length) (hl : k < p.cls.length → limT (L.length + 2))
    (c1 : k < p.cls.length → ∀ L', L' = L ++ [tk 19 ⟨#[46]⟩, tk 1 (p.cls.getD k.toNat ⟨#[]⟩)] → LoopToT 1 Try.prog (theBody Try.prog 28 8) m (rcF 0 1 L'.length (k + 1)) (rpM (pB p) L') G)
    (c2 : k = p.cls.length → G (.exit 0) (rcF 0 1 L.length k) (rpM (pB p) L)) :
    LoopToT 1 Try.prog (theBody Try.prog 28 8) (m + 1) (rcF 0 1 L.length k) (rpM (pB p) L) G := by
  refine roundT plain mixed 1 [cTok] [] 400 30 28 8 Try.func28 rfl (by kernel_rfl) (false :: true :: false :: true :: true :: (ff5 (ff47 (ff48 [])))) (.br (.yes (.yes (.yes (.yes .done)))) .done) (let e1 := (int (19 : Int)); let e2 := (@AV.lit (@Value.string (@ByteArray.mk (@Array.mk _ [(46 : UInt8)])))); let e3 := (@ByteArray.mk (@Array.mk _ [])); let e4 := (@AV.lit (@Value.string ((p).cls.getD (k).toNat e3))); let e5 := (int (Int.ofNat 1)); let e6 := ((L).length + 2); let e7 := (int (0 : Int)); let e8 := (@Value.int IntKind.i64 (0 : Int)); let e9 := (@Array.toList _ (@Array.mk _ [e8, (@Value.string e3), e8])); let e10 := (e1 :: e2 :: e7 :: e5 :: e4 :: e7 :: (@List.drop _ (3 + ([e5, e4, e7]).length) (e1 :: e2 :: e7 :: (@List.drop _ (0 + ([e1, e2, e7]).length) (@List.map _ _ AV.lit (@Array.toList _ (@Array.mk _ [(@List.get _ e9 (@Fin.mk _ 0 (@Nat.le_of_ble_eq_true _ _ (@Eq.refl _ true)))), (@List.get _ e9 (@Fin.mk _ 1 (@Nat.le_of_ble_eq_true _ _ (@Eq.refl _ true)))), (@List.get _ e9 (@Fin.mk _ 2 (@Nat.le_of_ble_eq_true _ _ (@Eq.refl _ true)))), (@List.get _ e9 (@Fin.mk _ 0 (@Nat.le_of_ble_eq_true _ _ (@Eq.refl _ true)))), (@List.get _ e9 (@Fin.mk _ 1 (@Nat.le_of_ble_eq_true _ _ (@Eq.refl _ true)))), (@List.get _ e9 (@Fin.mk _ 2 (@Nat.le_of_ble_eq_true _ _ (@Eq.refl _ true))))]))))))); let e11 := (some (@Blk.mk [(int (p).comb), (@AV.lit (@Value.string (p).tag)), (@AV.lit (@Value.string (p).id)), (cview ((p).cls)), (tview ((p).tests)), (int (p).states)] 55 none)); (.fork (!(leI ((((p).cls).length : Nat) : Int) k)) (.need (@isSo (@And ((@HAppend.hAppend _ _ _ _ (@HAppend.hAppend _ _ _ _ [] [e1, e2]) []) = [e1, e2]) True)) (.need (@inR k ((p).cls).length) (.need (@isSo (@And ((@HAppend.hAppend _ _ _ _ (@HAppend.hAppend _ _ _ _ [] [(int (1 : Int)), e4]) []) = [e5, e4]) True)) (.need (Bool.true && ((@Nat.ble (L).length (L).length) && ((@Nat.ble (e6 * 32) 140737488355328) && (@Nat.ble e6 17592186044416)))) (.leaf (Ex.norm, ((none :: (some (@AV.ptr 0 0)) :: none :: (some (@AV.own (2 + 1) e6 3)) :: (some (int (w64 (k + (1 : Int))))) :: (nn5 (nn47 (nn48 [])))), (@Mem.mk ((2 + 1) + 1) (0 + 1) ((some (@Blk.mk [] 39 (some (@Rw.mk e6 3 (@appc (L).length (@kcell L) (fun y0 => (fun y1 => (@getA (@List.take _ 6 e10) ((y0 * 3) + y1))))))))) :: [(some (@Blk.mk e10 39 none)), none, e11]))))))))) (.leaf ((@Ex.exit 0), ((none :: (some (@AV.ptr 0 0)) :: none :: (some (@AV.own 1 (L).length 3)) :: (some (int k)) :: (nn5 (nn47 (nn48 [])))), (@Mem.mk 2 0 [(some (@Blk.mk [] 39 (some (@Rw.mk (L).length 3 (@kcell L))))), e11])))))) (by kernel_rfl) ?_
  refine fork_ok (fun h1 => ?_) (fun h1 => ?_)
  · simp only [Bool.not_eq_true', Bool.not_eq_false', leI_t, leI_f, eqI_t, eqI_f, inR_t, inR_f, isSo_t, isSo_f] at h1
    have hl := hl (by omega)
    have c1 := c1 (by omega) _ rfl
    have hin : inR k p.cls.length = true := by rw [inR_t]; omega
    refine need_so ⟨rfl, trivial⟩ (need_t hin (need_so ⟨rfl, trivial⟩ (need_t (room_ok hl) ?_)))
    exact LoopToT.ren [0, 3] rfl (rcF_ren 0 3 _ _ _ _ 0 1 _ (w64_in (by omega)) (by simp) rfl rfl) (rpM_ren (b := 3) rfl (by decide) rfl rfl (partL_free p) rfl (CellIs.app3 (CellIs.kc L) rfl (fun i j hi hj => by
        rcases i with _ | _ | i
        · rcases j with _ | _ | _ | j
          · exact rfl
          · exact rfl
          · exact rfl
          · omega
        · rcases j with _ | _ | _ | j
          · exact rfl
          · exact rfl
          · exact rfl
          · omega
        · omega))) c1
  · simp only [Bool.not_eq_true', Bool.not_eq_false', leI_t, leI_f, eqI_t, eqI_f, inR_t, inR_f, isSo_t, isSo_f] at h1
    exact c2 (by omega)
theorem Sy.rc_loop (p : PartV) (hp : p.cls.length ≤ 8) : ∀ (l pre : List ByteArray) (k : Int) (L : List TokV), p.cls = pre ++ l → k = pre.length → limT (L.length + (clssT l).length) →
    LoopToT 1 Try.prog (theBody Try.prog 28 8) (l.length + 1) (rcF 0 1 L.length k) (rpM (pB p) L) fun ex F2 M2 => ex = .exit 0 ∧ F2 = rcF 0 1 (L ++ clssT l).length p.cls.length ∧ M2 = rpM (pB p) (L ++ clssT l) := by
  intro l
  induction l with
  | nil =>
    intro pre k L h hk hl
    have hn : p.cls.length = pre.length := by rw [h]; simp
    exact rc_step p hp k L _ _ (by omega) (by omega) (fun h1 => by omega) (fun h1 => by omega) (fun h1 => by rw [show L ++ clssT [] = L by simp [clssT]]; exact ⟨rfl, by rw [h1], rfl⟩)
  | cons s l ih =>
    intro pre k L h hk hl
    have hn : p.cls.length = pre.length + l.length + 1 := by rw [h]; simp; omega
    have hg : p.cls.getD k.toNat ⟨#[]⟩ = s := by rw [h]; exact getD_at _ _ _ _ _ hk
    rw [clssT_cons] at hl
    unfold limT at hl
    simp at hl
    refine rc_step p hp k L _ _ (by omega) (by omega) (fun h1 => by unfold limT; omega) (fun h1 L' hL' => ?_) (fun h1 => by omega)
    rw [hg] at hL'
    have key := ih (pre ++ [s]) (k + 1) L' (by rw [h]; simp) (by simp; omega) (by rw [hL']; unfold limT; simp; omega)
    rw [show L' ++ clssT l = L ++ clssT (s :: l) by rw [hL', clssT_cons, List.append_assoc]] at key
    exact key
namespace Sy
structure RY where
  pb : Nat
  r : RX
noncomputable def ryGet (a t : Nat) (F : Fr) (M : Mem) : Option RY := match nth F a, nth F t with
  | some (some (.ptr pb 0)), some (some v) => match rGet M v with
    | some x => some ⟨pb, x⟩
    | none => none
  | _, _ => none
noncomputable def formR (a t : Nat) (form : RY → AV → Fr) (C : RY → Prop) (res : RY → Tr (Ex × Fr × Mem)) (p : List Bool) : Summ := fun F M => match ryGet a t F M with
  | some x => .need (isSo (maskF p F = form x x.r.v ∧ TokRows x.r.n x.r.cell ∧ x.r.m = x.r.n ∧ C x)) (res x)
  | none => .bad 21
theorem formR_ok {P : Program} {body : Code} {a t : Nat} {form : RY → AV → Fr} {C : RY → Prop} {res : RY → Tr (Ex × Fr × Mem)} {p : List Bool} (hget : ∀ x v, (form x v)[t]? = some (some v)) (hset : ∀ x v u, (form x v).set t (some u) = form x u) (h : ∀ (x : RY) (L : List TokV), x.r.M.get x.r.b = some (rowB x.r.n x.r.cell) → CellIs x.r.n x.r.cell L → C x → ∃ n, LoopTo P body n (form x (.own x.r.b x.r.n 3)) x.r.M fun ex F' M' => (res x).sel (ex, F', M')) : Sums P body (formR a t form C res p) := fun F M H hok => by
  unfold formR at hok
  cases hg : ryGet a t F M with
  | none => rw [hg] at hok; exact hok.elim
  | some x =>
    rw [hg] at hok
    obtain ⟨h1, h2⟩ := hok
    rw [isSo_t] at h1
    obtain ⟨hF, ⟨L, hL⟩, hm, hC⟩ := h1
    unfold ryGet at hg
    split at hg
    · rename_i pb v q1 q2
      cases hr : rGet M v with
      | none => rw [hr] at hg; cases hg
      | some y =>
        rw [hr] at hg
        simp at hg
        subst hg
        obtain ⟨ev, g1, lift⟩ := LoopTo.rows hr
        simp only at hF hL hm hC
        rw [hm] at g1
        obtain ⟨n, hn⟩ := h ⟨pb, y⟩ L g1 hL hC
        refine ⟨n, LoopTo.mask p ?_⟩
        rw [hF]
        refine lift t ?_ ?_
        · have h5 := hget ⟨pb, y⟩ y.v
          rw [ev] at h5 ⊢
          exact h5
        · rw [hset]
          exact hn.mono fun ex F' M' hs => h2.of_sel hs
    · cases hg
abbrev rcG (x : RY) (v : AV) : Fr := (none :: some (.ptr x.pb 0) :: none :: some (v) :: some (int 0) :: (nn5 (nn47 (nn48 []))))
abbrev rcE (pb b n : Nat) : Fr := (none :: some (.ptr pb 0) :: none :: some (.own b n 3) :: (nn5 (nn48 (nn48 []))))
noncomputable abbrev lpRtc (p : PartV) : Lp Try.prog where
  f := 28
  key := 8
  S := formR 1 3 rcG (fun x => x.r.M.get x.pb = some (pB p) ∧ limT (x.r.n + (clssT p.cls).length) ∧ p.cls.length ≤ 8) (fun x => .leaf (.exit 0, rcE x.pb x.r.M.top (x.r.n + (clssT p.cls).length), rRes x.r.M x.r.b x.r.n x.r.cell (clssT p.cls))) (false :: true :: false :: true :: true :: (ff5 (ff47 (ff48 []))))
  one := by kernel_rfl
  ok := formR_ok (fun x v => rfl) (fun x v u => rfl) fun x L h2 h4 ⟨h3, h5, h6⟩ => by
    refine ⟨p.cls.length + 1, ?_⟩
    have key := rc_loop p h6 p.cls [] 0 L rfl rfl (by rw [← h4.1]; exact h5)
    have hp2 : x.pb ≠ x.r.b := fun e => by rw [e, h2] at h3; cases h3
    refine ((loopR_frame key (F := rcF x.pb x.r.b x.r.n 0) (F' := rcF x.pb x.r.M.top (x.r.n + (clssT p.cls).length) p.cls.length) (rcF_ren x.pb x.r.b _ _ _ _ 0 1 _ rfl h4.1 rfl rfl) (fun τ t0 t1 => rcF_ren 0 1 _ _ _ _ x.pb x.r.M.top τ rfl (by rw [List.length_append, h4.1]) t0 t1) h2 h3 hp2 (partL_free p) rfl h4).out (false :: true :: false :: true :: (ff5 (ff48 (ff48 []))))).mono fun ex F M hg => ?_
    obtain ⟨F0, ⟨rfl, rfl, hM⟩, rfl⟩ := hg
    rw [hM]; rfl
end Sy
namespace Sy
abbrev rtF (pb b n : Nat) (k : Int) : Fr := (none :: some (.ptr pb 0) :: none :: some (.own b n 3) :: none :: some (int k) :: (nn5 (nn46 (nn48 []))))
end Sy
theorem Sy.rtF_ren (pb b n n' : Nat) (k k' : Int) (pb' b' : Nat) (σ : Nat → Option Nat) (h : k = k') (hn : n = n') (h0 : σ pb' = some pb) (h1 : σ b' = some b) : RenF σ (rtF pb b n k) (rtF pb' b' n' k') := by
  subst h hn
  simp only [RenF, and_true]
  exact ⟨⟨h0, rfl⟩, ⟨h1, rfl, rfl⟩, rfl⟩
theorem Sy.rt_step (p : PartV) (hp : p.tests.length ≤ 8) (k : Int) (L : List TokV) (m : Nat) (G : Ex → Fr → Mem → Prop) (h0 : 0 ≤ k) (hk : k ≤ p.tests.length) (hl : k < p.tests.length → limT (L.length + (testT (p.tests.getD k.toNat testNone)).length))
    (c1 : k < p.tests.length → ∀ L', L' = L ++ testT (p.tests.getD k.toNat testNone) → LoopToT 1 Try.prog (theBody Try.prog 28 12) m (rtF 0 1 L'.length (k + 1)) (rpM (pB p) L') G)
    (c2 : k = p.tests.length → G (.exit 2) (rtF 0 1 L.length k) (rpM (pB p) L)) :
    LoopToT 1 Try.prog (theBody Try.prog 28 12) (m + 1) (rtF 0 1 L.length k) (rpM (pB p) L) G := by
  refine roundT plain mixed 1 [cTok] [] 400 30 28 12 Try.func28 rfl (by kernel_rfl) (false :: true :: false :: true :: false :: true :: (ff5 (ff46 (ff48 [])))) (.br (.yes (.yes (.yes (.yes (.br (.yes (.yes (.yes (.yes (.yes .done))))) (.yes (.yes .done))))))) .done) (let e1 := (int (15 : Int)); let e2 := (@Value.string (@ByteArray.mk (@Array.mk _ []))); let e3 := (@AV.lit e2); let e4 := (@AV.lit (@Value.string (((p).tests.getD (k).toNat testNone)).name)); let e5 := (int (Int.ofNat 1)); let e6 := ((L).length + 2); let e7 := (int (19 : Int)); let e8 := (@AV.lit (@Value.string (@ByteArray.mk (@Array.mk _ [(61 : UInt8)])))); let e9 := (@AV.lit (@Value.string (((p).tests.getD (k).toNat testNone)).value)); let e10 := (int (Int.ofNat 5)); let e11 := (int (16 : Int)); let e12 := (@isSo (@And ((@HAppend.hAppend _ _ _ _ (@HAppend.hAppend _ _ _ _ [] [e11, e3]) []) = [e11, e3]) True)); let e13 := ((e6 + 2) + 1); let e14 := (some (@AV.ptr 0 0)); let e15 := (((((2 + 1) + 1) + 1) + 1) + 1); let e16 := (some (int (w64 (k + (1 : Int))))); let e17 := (int (0 : Int)); let e18 := (@Value.int IntKind.i64 (0 : Int)); let e19 := (@Array.toList _ (@Array.mk _ [e18, e2, e18])); let e20 := (@List.map _ _ AV.lit (@Array.toList _ (@Array.mk _ [(@List.get _ e19 (@Fin.mk _ 0 (@Nat.le_of_ble_eq_true _ _ (@Eq.refl _ true)))), (@List.get _ e19 (@Fin.mk _ 1 (@Nat.le_of_ble_eq_true _ _ (@Eq.refl _ true)))), (@List.get _ e19 (@Fin.mk _ 2 (@Nat.le_of_ble_eq_true _ _ (@Eq.refl _ true)))), (@List.get _ e19 (@Fin.mk _ 0 (@Nat.le_of_ble_eq_true _ _ (@Eq.refl _ true)))), (@List.get _ e19 (@Fin.mk _ 1 (@Nat.le_of_ble_eq_true _ _ (@Eq.refl _ true)))), (@List.get _ e19 (@Fin.mk _ 2 (@Nat.le_of_ble_eq_true _ _ (@Eq.refl _ true))))]))); let e21 := (e1 :: e3 :: e17 :: e5 :: e4 :: e17 :: (@List.drop _ (3 + ([e5, e4, e17]).length) (e1 :: e3 :: e17 :: (@List.drop _ (0 + ([e1, e3, e17]).length) e20)))); let e22 := (@appc (L).length (@kcell L) (fun y0 => (fun y1 => (@getA (@List.take _ 6 e21) ((y0 * 3) + y1))))); let e23 := (e7 :: e8 :: e17 :: e10 :: e9 :: e17 :: (@List.drop _ (3 + ([e10, e9, e17]).length) (e7 :: e8 :: e17 :: (@List.drop _ (0 + ([e7, e8, e17]).length) e20)))); let e24 := (e11 :: e3 :: e17 :: (@List.drop _ (0 + ([e11, e3, e17]).length) (@List.map _ _ AV.lit (@Array.toList _ (@Array.mk _ [(@List.get _ e19 (@Fin.mk _ 0 (@Nat.le_of_ble_eq_true _ _ (@Eq.refl _ true)))), (@List.get _ e19 (@Fin.mk _ 1 (@Nat.le_of_ble_eq_true _ _ (@Eq.refl _ true)))), (@List.get _ e19 (@Fin.mk _ 2 (@Nat.le_of_ble_eq_true _ _ (@Eq.refl _ true))))]))))); let e25 := (fun y0 => (fun y1 => (@getA (@List.take _ 3 e24) ((y0 * 3) + y1)))); let e26 := (boo (((p).tests.getD (k).toNat testNone)).equal); let e27 := (some (@Blk.mk [(int (p).comb), (@AV.lit (@Value.string (p).tag)), (@AV.lit (@Value.string (p).id)), (cview ((p).cls)), (tview ((p).tests)), (int (p).states)] 55 none)); (.fork (!(leI ((((p).tests).length : Nat) : Int) k)) (.need (@inR k ((p).tests).length) (.need (@isSo (@And ((@HAppend.hAppend _ _ _ _ (@HAppend.hAppend _ _ _ _ [] [e1, e3]) []) = [e1, e3]) True)) (.need (@isSo (@And ((@HAppend.hAppend _ _ _ _ (@HAppend.hAppend _ _ _ _ [] [(int (1 : Int)), e4]) []) = [e5, e4]) True)) (.need (Bool.true && ((@Nat.ble (L).length (L).length) && ((@Nat.ble (e6 * 32) 140737488355328) && (@Nat.ble e6 17592186044416)))) (.fork (((p).tests.getD (k).toNat testNone)).equal (.need (@isSo (@And ((@HAppend.hAppend _ _ _ _ (@HAppend.hAppend _ _ _ _ [] [e7, e8]) []) = [e7, e8]) True)) (.need (@isSo (@And ((@HAppend.hAppend _ _ _ _ (@HAppend.hAppend _ _ _ _ [] [(int (5 : Int)), e9]) []) = [e10, e9]) True)) (.need (Bool.true && ((@Nat.ble e6 e6) && ((@Nat.ble ((e6 + 2) * 32) 140737488355328) && (@Nat.ble (e6 + 2) 17592186044416)))) (.need e12 (.need (Bool.true && ((@Nat.ble (e6 + 2) (e6 + 2)) && ((@Nat.ble (e13 * 32) 140737488355328) && (@Nat.ble e13 17592186044416)))) (.leaf (Ex.norm, ((none :: e14 :: none :: (some (@AV.own (e15 + 1) e13 3)) :: none :: e16 :: (nn5 (nn46 (nn48 [])))), (@Mem.mk ((e15 + 1) + 1) ((((0 + 1) + 1) + 1) + 1) ((some (@Blk.mk [] 39 (some (@Rw.mk e13 3 (@appc (e6 + 2) (@appc e6 e22 (fun y0 => (fun y1 => (@getA (@List.take _ 6 e23) ((y0 * 3) + y1))))) e25))))) :: ((some (@Blk.mk e24 39 none)) :: none :: ((some (@Blk.mk e23 39 none)) :: none :: ((some (@Blk.mk e21 39 none)) :: [(some (@Blk.mk (e4 :: e26 :: e9 :: (@List.drop _ (0 + ([e4, e26, e9]).length) [e3, (boo false), e3])) 79 none)), none, e27]))))))))))))) (.need e12 (.need (Bool.true && ((@Nat.ble e6 e6) && ((@Nat.ble ((e6 + 1) * 32) 140737488355328) && (@Nat.ble (e6 + 1) 17592186044416)))) (.leaf (Ex.norm, ((none :: e14 :: none :: (some (@AV.own ((((2 + 1) + 1) + 1) + 1) (e6 + 1) 3)) :: none :: e16 :: (nn5 (nn46 (nn48 [])))), (@Mem.mk e15 (((0 + 1) + 1) + 1) ((some (@Blk.mk [] 39 (some (@Rw.mk (e6 + 1) 3 (@appc e6 e22 e25))))) :: ((some (@Blk.mk e24 39 none)) :: none :: ((some (@Blk.mk e21 39 none)) :: [(some (@Blk.mk (e4 :: e26 :: e9 :: (@List.drop _ (0 + ([e4, e26, e9]).length) [e3, (boo false), e3])) 79 none)), none, e27])))))))))))))) (.leaf ((@Ex.exit 2), ((none :: e14 :: none :: (some (@AV.own 1 (L).length 3)) :: none :: (some (int k)) :: (nn5 (nn46 (nn48 [])))), (@Mem.mk 2 0 [(some (@Blk.mk [] 39 (some (@Rw.mk (L).length 3 (@kcell L))))), e27])))))) (by kernel_rfl) ?_
  refine fork_ok (fun h1 => ?_) (fun h1 => ?_)
  · simp only [Bool.not_eq_true', Bool.not_eq_false', leI_t, leI_f, eqI_t, eqI_f, inR_t, inR_f, isSo_t, isSo_f] at h1
    have hl := hl (by omega)
    have c1 := c1 (by omega) _ rfl
    have hin : inR k p.tests.length = true := by rw [inR_t]; omega
    unfold testT at hl c1
    have hl3 : limT (L.length + 2) := by unfold limT at *; split at hl <;> simp at hl <;> omega
    refine need_t hin (need_so ⟨rfl, trivial⟩ (need_so ⟨rfl, trivial⟩ (need_t (room_ok hl3) (fork_ok (fun h => ?_) (fun h => ?_)))))
    · rw [if_pos h] at hl c1
      have r2 : limT (L.length + 2 + 2) := by unfold limT at *; simp at hl; omega
      have r3 : limT (L.length + 2 + 2 + 1) := by unfold limT at *; simp at hl; omega
      refine need_so ⟨rfl, trivial⟩ (need_so ⟨rfl, trivial⟩ (need_t (room_ok r2) (need_so ⟨rfl, trivial⟩ (need_t (room_ok r3) ?_))))
      refine LoopToT.ren [0, 8] rfl (rtF_ren 0 8 _ _ _ _ 0 1 _ (w64_in (by omega)) (by simp) rfl rfl) (rpM_ren (b := 8) rfl (by decide) rfl rfl (partL_free p) rfl (CellIs.cast (CellIs.app3 (X := [tk 16 ⟨#[]⟩]) (CellIs.app3 (X := [tk 19 ⟨#[61]⟩, tk 5 (p.tests.getD k.toNat testNone).value]) (CellIs.app3 (X := [tk 15 ⟨#[]⟩, tk 1 (p.tests.getD k.toNat testNone).name]) (CellIs.kc L) rfl (fun i j hi hj => by
        rcases i with _ | _ | i
        · rcases j with _ | _ | _ | j
          · exact rfl
          · exact rfl
          · exact rfl
          · omega
        · rcases j with _ | _ | _ | j
          · exact rfl
          · exact rfl
          · exact rfl
          · omega
        · omega)) rfl (fun i j hi hj => by
        rcases i with _ | _ | i
        · rcases j with _ | _ | _ | j
          · exact rfl
          · exact rfl
          · exact rfl
          · omega
        · rcases j with _ | _ | _ | j
          · exact rfl
          · exact rfl
          · exact rfl
          · omega
        · omega)) rfl (fun i j hi hj => by
        rcases i with _ | i
        · rcases j with _ | _ | _ | j
          · exact rfl
          · exact rfl
          · exact rfl
          · omega
        · omega)) (by simp))) c1
    · rw [if_neg (by rw [h]; simp)] at hl c1
      have r2 : limT (L.length + 2 + 1) := by unfold limT at *; simp at hl; omega
      refine need_so ⟨rfl, trivial⟩ (need_t (room_ok r2) ?_)
      refine LoopToT.ren [0, 6] rfl (rtF_ren 0 6 _ _ _ _ 0 1 _ (w64_in (by omega)) (by simp) rfl rfl) (rpM_ren (b := 6) rfl (by decide) rfl rfl (partL_free p) rfl (CellIs.cast (CellIs.app3 (X := [tk 16 ⟨#[]⟩]) (CellIs.app3 (X := [tk 15 ⟨#[]⟩, tk 1 (p.tests.getD k.toNat testNone).name]) (CellIs.kc L) rfl (fun i j hi hj => by
        rcases i with _ | _ | i
        · rcases j with _ | _ | _ | j
          · exact rfl
          · exact rfl
          · exact rfl
          · omega
        · rcases j with _ | _ | _ | j
          · exact rfl
          · exact rfl
          · exact rfl
          · omega
        · omega)) rfl (fun i j hi hj => by
        rcases i with _ | i
        · rcases j with _ | _ | _ | j
          · exact rfl
          · exact rfl
          · exact rfl
          · omega
        · omega)) (by simp))) c1
  · simp only [Bool.not_eq_true', Bool.not_eq_false', leI_t, leI_f, eqI_t, eqI_f, inR_t, inR_f, isSo_t, isSo_f] at h1
    exact c2 (by omega)
theorem Sy.rt_loop (p : PartV) (hp : p.tests.length ≤ 8) : ∀ (l pre : List TestV) (k : Int) (L : List TokV), p.tests = pre ++ l → k = pre.length → limT (L.length + (testsT l).length) →
    LoopToT 1 Try.prog (theBody Try.prog 28 12) (l.length + 1) (rtF 0 1 L.length k) (rpM (pB p) L) fun ex F2 M2 => ex = .exit 2 ∧ F2 = rtF 0 1 (L ++ testsT l).length p.tests.length ∧ M2 = rpM (pB p) (L ++ testsT l) := by
  intro l
  induction l with
  | nil =>
    intro pre k L h hk hl
    have hn : p.tests.length = pre.length := by rw [h]; simp
    exact rt_step p hp k L _ _ (by omega) (by omega) (fun h1 => by omega) (fun h1 => by omega) (fun h1 => by rw [show L ++ testsT [] = L by simp [testsT]]; exact ⟨rfl, by rw [h1], rfl⟩)
  | cons s l ih =>
    intro pre k L h hk hl
    have hn : p.tests.length = pre.length + l.length + 1 := by rw [h]; simp; omega
    have hg : p.tests.getD k.toNat testNone = s := by rw [h]; exact getD_at _ _ _ _ _ hk
    rw [testsT_cons] at hl
    unfold limT at hl
    simp only [List.length_append] at hl
    refine rt_step p hp k L _ _ (by omega) (by omega) (fun h1 => by rw [hg]; unfold limT; omega) (fun h1 L' hL' => ?_) (fun h1 => by omega)
    rw [hg] at hL'
    have key := ih (pre ++ [s]) (k + 1) L' (by rw [h]; simp) (by simp; omega) (by rw [hL']; unfold limT; simp only [List.length_append]; omega)
    rw [show L' ++ testsT l = L ++ testsT (s :: l) by rw [hL', testsT_cons, List.append_assoc]] at key
    exact key
namespace Sy
abbrev rtG (x : RY) (v : AV) : Fr := (none :: some (.ptr x.pb 0) :: none :: some (v) :: none :: some (int 0) :: (nn5 (nn46 (nn48 []))))
abbrev rtE (pb b n : Nat) : Fr := (none :: some (.ptr pb 0) :: none :: some (.own b n 3) :: (nn5 (nn48 (nn48 []))))
noncomputable abbrev lpRtt (p : PartV) : Lp Try.prog where
  f := 28
  key := 12
  S := formR 1 3 rtG (fun x => x.r.M.get x.pb = some (pB p) ∧ limT (x.r.n + (testsT p.tests).length) ∧ p.tests.length ≤ 8) (fun x => .leaf (.exit 2, rtE x.pb x.r.M.top (x.r.n + (testsT p.tests).length), rRes x.r.M x.r.b x.r.n x.r.cell (testsT p.tests))) (false :: true :: false :: true :: false :: true :: (ff5 (ff46 (ff48 []))))
  one := by kernel_rfl
  ok := formR_ok (fun x v => rfl) (fun x v u => rfl) fun x L h2 h4 ⟨h3, h5, h6⟩ => by
    refine ⟨p.tests.length + 1, ?_⟩
    have key := rt_loop p h6 p.tests [] 0 L rfl rfl (by rw [← h4.1]; exact h5)
    have hp2 : x.pb ≠ x.r.b := fun e => by rw [e, h2] at h3; cases h3
    refine ((loopR_frame key (F := rtF x.pb x.r.b x.r.n 0) (F' := rtF x.pb x.r.M.top (x.r.n + (testsT p.tests).length) p.tests.length) (rtF_ren x.pb x.r.b _ _ _ _ 0 1 _ rfl h4.1 rfl rfl) (fun τ t0 t1 => rtF_ren 0 1 _ _ _ _ x.pb x.r.M.top τ rfl (by rw [List.length_append, h4.1]) t0 t1) h2 h3 hp2 (partL_free p) rfl h4).out (false :: true :: false :: true :: (ff5 (ff48 (ff48 []))))).mono fun ex F M hg => ?_
    obtain ⟨F0, ⟨rfl, rfl, hM⟩, rfl⟩ := hg
    rw [hM]; rfl
end Sy
end Go.Proofs.Ytconlneohilnmaa
namespace Go.Proofs.Ytconlneohilnmaa
open Go Go.RowKit Pl Sy
set_option linter.unusedVariables false
set_option linter.unusedSimpArgs false
namespace Sy
abbrev wdB : Blk := ⟨[.lit (.string wRoot), .lit (.string wFirst), .lit (.string wLast)], 9, none⟩
abbrev rwF (pb qb b n : Nat) (bit i : Int) : Fr := (none :: some (.ptr pb 0) :: none :: some (.own b n 3) :: none :: none :: none :: some (.sl qb 0 3 (some 3) 1) :: some (int bit) :: some (int i) :: (nn47 (nn48 [])))
end Sy
def hasB (n b : Int) : Bool := !leI (IntKind.i64.wrap (((BitVec.ofInt 64 n &&& BitVec.ofInt 64 b).toNat : Nat) : Int)) 0
theorem stateT_has (n b : Int) (s : ByteArray) : stateT n b s = if hasB n b then [tk 10 ⟨#[]⟩, tk 1 s] else [] := by
  unfold stateT hasB
  cases leI (IntKind.i64.wrap (((BitVec.ofInt 64 n &&& BitVec.ofInt 64 b).toNat : Nat) : Int)) 0 <;> rfl
theorem hasB_eq (n b : Int) (h0 : 0 ≤ n) (h7 : n ≤ 7) (hb : b = 1 ∨ b = 2 ∨ b = 4) : eqI (Int.tmod (IntKind.i64.wrap (Int.tdiv n b)) 2) 1 = hasB n b := by
  have hn : n = 0 ∨ n = 1 ∨ n = 2 ∨ n = 3 ∨ n = 4 ∨ n = 5 ∨ n = 6 ∨ n = 7 := by omega
  rcases hn with rfl | rfl | rfl | rfl | rfl | rfl | rfl | rfl <;> rcases hb with rfl | rfl | rfl <;> rfl
theorem Sy.has_t (n b : Int) (h0 : 0 ≤ n) (h7 : n ≤ 7) (hb : b = 1 ∨ b = 2 ∨ b = 4) : CallTo Try.prog 48 [int n, int b] M0 fun v _ => v = boo (hasB n b) := by
  have key := hasB_eq n b h0 h7 hb
  rcases hb with rfl | rfl | rfl
  · exact toV [] [] 400 30 (.br (.auto 4 .done) (.auto 4 .done)) (.fork (leI (0 : Int) n) (.leaf (boo (eqI (@Int.tmod (IntKind.i64.wrap (@Int.tdiv n (1 : Int))) (2 : Int)) (1 : Int)))) (.leaf (boo false))) (by kernel_rfl) (fork_ok (fun _ => by rw [key]; exact rfl) (fun h => by simp only [Bool.not_eq_true', Bool.not_eq_false', leI_t, leI_f, eqI_t, eqI_f, inR_t, inR_f, isSo_t, isSo_f] at h; omega))
  · exact toV [] [] 400 30 (.br (.auto 4 .done) (.auto 4 .done)) (.fork (leI (0 : Int) n) (.leaf (boo (eqI (@Int.tmod (IntKind.i64.wrap (@Int.tdiv n (2 : Int))) (2 : Int)) (1 : Int)))) (.leaf (boo false))) (by kernel_rfl) (fork_ok (fun _ => by rw [key]; exact rfl) (fun h => by simp only [Bool.not_eq_true', Bool.not_eq_false', leI_t, leI_f, eqI_t, eqI_f, inR_t, inR_f, isSo_t, isSo_f] at h; omega))
  · exact toV [] [] 400 30 (.br (.auto 4 .done) (.auto 4 .done)) (.fork (leI (0 : Int) n) (.leaf (boo (eqI (@Int.tmod (IntKind.i64.wrap (@Int.tdiv n (4 : Int))) (2 : Int)) (1 : Int)))) (.leaf (boo false))) (by kernel_rfl) (fork_ok (fun _ => by rw [key]; exact rfl) (fun h => by simp only [Bool.not_eq_true', Bool.not_eq_false', leI_t, leI_f, eqI_t, eqI_f, inR_t, inR_f, isSo_t, isSo_f] at h; omega))
noncomputable abbrev Sy.cHas (p : PartV) : Con Try.prog := atX 48 (fun args => match args with | [_, .lit (.int .i64 b)] => some b | _ => none) (fun b => [int p.states, int b]) (fun b => boo (hasB p.states b)) (fun b => (0 ≤ p.states ∧ p.states ≤ 7) ∧ (b = 1 ∨ b = 2 ∨ b = 4)) fun b h => ⟨⟨⟨trivial, trivial, trivial⟩, trivial⟩, has_t p.states b h.1.1 h.1.2 h.2⟩
theorem Sy.rwF_ren (pb qb b n n' : Nat) (bit i : Int) (pb' qb' b' : Nat) (σ : Nat → Option Nat) (hn : n = n') (h0 : σ pb' = some pb) (h1 : σ qb' = some qb) (h2 : σ b' = some b) : RenF σ (rwF pb qb b n bit i) (rwF pb' qb' b' n' bit i) := by
  subst hn
  simp only [RenF, and_true]
  exact ⟨⟨h0, rfl⟩, ⟨h2, rfl, rfl⟩, ⟨h1, rfl, rfl, rfl, rfl⟩, rfl, rfl⟩
theorem Sy.rqM_ren {B C : Blk} {M : Mem} {l : List Nat} {b n : Nat} {cell : Nat → Nat → AV} {L : List TokV} (hl : l = [0, 1, b]) (hb0 : b ≠ 0) (hb1 : b ≠ 1) (h0 : M.get 0 = some B) (h1 : M.get 1 = some C) (h2 : M.get b = some (rowB n cell)) (hB : Frees B.cells) (hBr : B.rows = none) (hC : Frees C.cells) (hCr : C.rows = none) (hc : CellIs n cell L) : RenM (nm l) M (rqM B C L) := by
  subst hl
  exact .of rfl rfl (by simp; omega) ⟨⟨b, _, rfl, h2, rfl, trivial, hc.1.symm, rfl, fun i j hi hj => rowsAt hc _ hi hj⟩, ⟨1, _, rfl, h1, rfl, RenVs.free _ hC, by rw [hCr]; exact trivial⟩, ⟨0, _, rfl, h0, rfl, RenVs.free _ hB, by rw [hBr]; exact trivial⟩, trivial⟩
theorem Sy.rw_step0 (p : PartV) (hs : 0 ≤ p.states ∧ p.states ≤ 7) (L : List TokV) (m : Nat) (G : Ex → Fr → Mem → Prop) (hl : limT (L.length + 2))
    (c1 : ∀ L', L' = L ++ stateT p.states 1 wRoot → LoopToT 2 Try.prog (theBody Try.prog 28 22) m (rwF 0 1 2 L'.length 2 1) (rqM (pB p) wdB L') G) :
    LoopToT 2 Try.prog (theBody Try.prog 28 22) (m + 1) (rwF 0 1 2 L.length 1 0) (rqM (pB p) wdB L) G := by
  have c1 := c1 _ rfl
  rw [stateT_has] at c1
  refine roundT plain mixed 2 [cTok, cHas p] [] 400 30 28 22 Try.func28 rfl (by kernel_rfl) (false :: true :: false :: true :: false :: false :: false :: true :: true :: true :: (ff47 (ff48 []))) (.auto 0 (.yes (.br (.yes (.yes (.yes .done))) .done))) (let e1 := (1 : Int); let e2 := (int (10 : Int)); let e3 := (@Value.string (@ByteArray.mk (@Array.mk _ []))); let e4 := (@AV.lit e3); let e5 := (@AV.lit (@Value.string wRoot)); let e6 := ((L).length + 2); let e7 := (some (@AV.sl 1 0 3 (some 3) 1)); let e8 := (int (0 : Int)); let e9 := (@Value.int IntKind.i64 (0 : Int)); let e10 := (@Array.toList _ (@Array.mk _ [e9, e3, e9])); let e11 := (e2 :: e4 :: e8 :: (int e1) :: e5 :: e8 :: (@List.drop _ (3 + ([(int e1), e5, e8]).length) (e2 :: e4 :: e8 :: (@List.drop _ (0 + ([e2, e4, e8]).length) (@List.map _ _ AV.lit (@Array.toList _ (@Array.mk _ [(@List.get _ e10 (@Fin.mk _ 0 (@Nat.le_of_ble_eq_true _ _ (@Eq.refl _ true)))), (@List.get _ e10 (@Fin.mk _ 1 (@Nat.le_of_ble_eq_true _ _ (@Eq.refl _ true)))), (@List.get _ e10 (@Fin.mk _ 2 (@Nat.le_of_ble_eq_true _ _ (@Eq.refl _ true)))), (@List.get _ e10 (@Fin.mk _ 0 (@Nat.le_of_ble_eq_true _ _ (@Eq.refl _ true)))), (@List.get _ e10 (@Fin.mk _ 1 (@Nat.le_of_ble_eq_true _ _ (@Eq.refl _ true)))), (@List.get _ e10 (@Fin.mk _ 2 (@Nat.le_of_ble_eq_true _ _ (@Eq.refl _ true))))]))))))); let e12 := (some (@Blk.mk [(int (p).comb), (@AV.lit (@Value.string (p).tag)), (@AV.lit (@Value.string (p).id)), (cview ((p).cls)), (tview ((p).tests)), (int (p).states)] 55 none)); (.need (@isSo (@And ((@HAppend.hAppend _ _ _ _ (@HAppend.hAppend _ _ _ _ [] [(int (p).states), (int e1)]) []) = [(int (p).states), (int e1)]) (@And (@And ((0 : Int) ≤ (p).states) ((p).states ≤ (7 : Int))) (@Or (e1 = e1) (@Or (e1 = (2 : Int)) (e1 = (4 : Int))))))) (.fork (@hasB (p).states e1) (.need (@isSo (@And ((@HAppend.hAppend _ _ _ _ (@HAppend.hAppend _ _ _ _ [] [e2, e4]) []) = [e2, e4]) True)) (.need (@isSo (@And ((@HAppend.hAppend _ _ _ _ (@HAppend.hAppend _ _ _ _ [] [(int e1), e5]) []) = [(int e1), e5]) True)) (.need (Bool.true && ((@Nat.ble (L).length (L).length) && ((@Nat.ble (e6 * 32) 140737488355328) && (@Nat.ble e6 17592186044416)))) (.leaf (Ex.norm, ((none :: (some (@AV.ptr 0 0)) :: none :: (some (@AV.own (3 + 1) e6 3)) :: none :: none :: none :: e7 :: (some (int (2 : Int))) :: (some (int e1)) :: (nn47 (nn48 []))), (@Mem.mk ((3 + 1) + 1) (0 + 1) ((some (@Blk.mk [] 39 (some (@Rw.mk e6 3 (@appc (L).length (@kcell L) (fun y0 => (fun y1 => (@getA (@List.take _ 6 e11) ((y0 * 3) + y1))))))))) :: [(some (@Blk.mk e11 39 none)), none, (some wdB), e12])))))))) (.leaf (Ex.norm, ((none :: (some (@AV.ptr 0 0)) :: none :: (some (@AV.own 2 (L).length 3)) :: none :: none :: none :: e7 :: (some (int (2 : Int))) :: (some (int e1)) :: (nn47 (nn48 []))), (@Mem.mk 3 0 [(some (@Blk.mk [] 39 (some (@Rw.mk (L).length 3 (@kcell L))))), (some wdB), e12]))))))) (by kernel_rfl) ?_
  refine need_so ⟨rfl, hs, by omega⟩ (fork_ok (fun h => need_so ⟨rfl, trivial⟩ (need_so ⟨rfl, trivial⟩ (need_t (room_ok hl) ?_))) (fun h => ?_))
  · rw [if_pos h] at c1
    exact LoopToT.ren [0, 1, 4] rfl (rwF_ren 0 1 4 _ _ _ _ 0 1 2 _ (by simp) rfl rfl rfl) (rqM_ren (b := 4) rfl (by decide) (by decide) rfl rfl rfl (partL_free p) rfl ⟨trivial, trivial, trivial, trivial⟩ rfl (CellIs.app3 (CellIs.kc L) rfl (fun i j hi hj => by
        rcases i with _ | _ | i
        · rcases j with _ | _ | _ | j
          · exact rfl
          · exact rfl
          · exact rfl
          · omega
        · rcases j with _ | _ | _ | j
          · exact rfl
          · exact rfl
          · exact rfl
          · omega
        · omega))) c1
  · rw [if_neg (by rw [h]; simp)] at c1
    exact LoopToT.ren [0, 1, 2] rfl (rwF_ren 0 1 2 _ _ _ _ 0 1 2 _ (by simp) rfl rfl rfl) (rqM_ren (b := 2) rfl (by decide) (by decide) rfl rfl rfl (partL_free p) rfl ⟨trivial, trivial, trivial, trivial⟩ rfl (CellIs.cast (CellIs.kc L) (by simp))) c1
theorem Sy.rw_step1 (p : PartV) (hs : 0 ≤ p.states ∧ p.states ≤ 7) (L : List TokV) (m : Nat) (G : Ex → Fr → Mem → Prop) (hl : limT (L.length + 2))
    (c1 : ∀ L', L' = L ++ stateT p.states 2 wFirst → LoopToT 2 Try.prog (theBody Try.prog 28 22) m (rwF 0 1 2 L'.length 4 2) (rqM (pB p) wdB L') G) :
    LoopToT 2 Try.prog (theBody Try.prog 28 22) (m + 1) (rwF 0 1 2 L.length 2 1) (rqM (pB p) wdB L) G := by
  have c1 := c1 _ rfl
  rw [stateT_has] at c1
  refine roundT plain mixed 2 [cTok, cHas p] [] 400 30 28 22 Try.func28 rfl (by kernel_rfl) (false :: true :: false :: true :: false :: false :: false :: true :: true :: true :: (ff47 (ff48 []))) (.auto 0 (.yes (.br (.yes (.yes (.yes .done))) .done))) (let e1 := (2 : Int); let e2 := (int (10 : Int)); let e3 := (@Value.string (@ByteArray.mk (@Array.mk _ []))); let e4 := (@AV.lit e3); let e5 := (int (1 : Int)); let e6 := (@AV.lit (@Value.string wFirst)); let e7 := ((L).length + 2); let e8 := (some (@AV.sl 1 0 3 (some 3) 1)); let e9 := (int (0 : Int)); let e10 := (@Value.int IntKind.i64 (0 : Int)); let e11 := (@Array.toList _ (@Array.mk _ [e10, e3, e10])); let e12 := (e2 :: e4 :: e9 :: e5 :: e6 :: e9 :: (@List.drop _ (3 + ([e5, e6, e9]).length) (e2 :: e4 :: e9 :: (@List.drop _ (0 + ([e2, e4, e9]).length) (@List.map _ _ AV.lit (@Array.toList _ (@Array.mk _ [(@List.get _ e11 (@Fin.mk _ 0 (@Nat.le_of_ble_eq_true _ _ (@Eq.refl _ true)))), (@List.get _ e11 (@Fin.mk _ 1 (@Nat.le_of_ble_eq_true _ _ (@Eq.refl _ true)))), (@List.get _ e11 (@Fin.mk _ 2 (@Nat.le_of_ble_eq_true _ _ (@Eq.refl _ true)))), (@List.get _ e11 (@Fin.mk _ 0 (@Nat.le_of_ble_eq_true _ _ (@Eq.refl _ true)))), (@List.get _ e11 (@Fin.mk _ 1 (@Nat.le_of_ble_eq_true _ _ (@Eq.refl _ true)))), (@List.get _ e11 (@Fin.mk _ 2 (@Nat.le_of_ble_eq_true _ _ (@Eq.refl _ true))))]))))))); let e13 := (some (@Blk.mk [(int (p).comb), (@AV.lit (@Value.string (p).tag)), (@AV.lit (@Value.string (p).id)), (cview ((p).cls)), (tview ((p).tests)), (int (p).states)] 55 none)); (.need (@isSo (@And ((@HAppend.hAppend _ _ _ _ (@HAppend.hAppend _ _ _ _ [] [(int (p).states), (int e1)]) []) = [(int (p).states), (int e1)]) (@And (@And ((0 : Int) ≤ (p).states) ((p).states ≤ (7 : Int))) (@Or (e1 = (1 : Int)) (@Or (e1 = e1) (e1 = (4 : Int))))))) (.fork (@hasB (p).states e1) (.need (@isSo (@And ((@HAppend.hAppend _ _ _ _ (@HAppend.hAppend _ _ _ _ [] [e2, e4]) []) = [e2, e4]) True)) (.need (@isSo (@And ((@HAppend.hAppend _ _ _ _ (@HAppend.hAppend _ _ _ _ [] [e5, e6]) []) = [e5, e6]) True)) (.need (Bool.true && ((@Nat.ble (L).length (L).length) && ((@Nat.ble (e7 * 32) 140737488355328) && (@Nat.ble e7 17592186044416)))) (.leaf (Ex.norm, ((none :: (some (@AV.ptr 0 0)) :: none :: (some (@AV.own (3 + 1) e7 3)) :: none :: none :: none :: e8 :: (some (int (4 : Int))) :: (some (int e1)) :: (nn47 (nn48 []))), (@Mem.mk ((3 + 1) + 1) (0 + 1) ((some (@Blk.mk [] 39 (some (@Rw.mk e7 3 (@appc (L).length (@kcell L) (fun y0 => (fun y1 => (@getA (@List.take _ 6 e12) ((y0 * 3) + y1))))))))) :: [(some (@Blk.mk e12 39 none)), none, (some wdB), e13])))))))) (.leaf (Ex.norm, ((none :: (some (@AV.ptr 0 0)) :: none :: (some (@AV.own 2 (L).length 3)) :: none :: none :: none :: e8 :: (some (int (4 : Int))) :: (some (int e1)) :: (nn47 (nn48 []))), (@Mem.mk 3 0 [(some (@Blk.mk [] 39 (some (@Rw.mk (L).length 3 (@kcell L))))), (some wdB), e13]))))))) (by kernel_rfl) ?_
  refine need_so ⟨rfl, hs, by omega⟩ (fork_ok (fun h => need_so ⟨rfl, trivial⟩ (need_so ⟨rfl, trivial⟩ (need_t (room_ok hl) ?_))) (fun h => ?_))
  · rw [if_pos h] at c1
    exact LoopToT.ren [0, 1, 4] rfl (rwF_ren 0 1 4 _ _ _ _ 0 1 2 _ (by simp) rfl rfl rfl) (rqM_ren (b := 4) rfl (by decide) (by decide) rfl rfl rfl (partL_free p) rfl ⟨trivial, trivial, trivial, trivial⟩ rfl (CellIs.app3 (CellIs.kc L) rfl (fun i j hi hj => by
        rcases i with _ | _ | i
        · rcases j with _ | _ | _ | j
          · exact rfl
          · exact rfl
          · exact rfl
          · omega
        · rcases j with _ | _ | _ | j
          · exact rfl
          · exact rfl
          · exact rfl
          · omega
        · omega))) c1
  · rw [if_neg (by rw [h]; simp)] at c1
    exact LoopToT.ren [0, 1, 2] rfl (rwF_ren 0 1 2 _ _ _ _ 0 1 2 _ (by simp) rfl rfl rfl) (rqM_ren (b := 2) rfl (by decide) (by decide) rfl rfl rfl (partL_free p) rfl ⟨trivial, trivial, trivial, trivial⟩ rfl (CellIs.cast (CellIs.kc L) (by simp))) c1
theorem Sy.rw_step2 (p : PartV) (hs : 0 ≤ p.states ∧ p.states ≤ 7) (L : List TokV) (m : Nat) (G : Ex → Fr → Mem → Prop) (hl : limT (L.length + 2))
    (c1 : ∀ L', L' = L ++ stateT p.states 4 wLast → LoopToT 2 Try.prog (theBody Try.prog 28 22) m (rwF 0 1 2 L'.length 8 3) (rqM (pB p) wdB L') G) :
    LoopToT 2 Try.prog (theBody Try.prog 28 22) (m + 1) (rwF 0 1 2 L.length 4 2) (rqM (pB p) wdB L) G := by
  have c1 := c1 _ rfl
  rw [stateT_has] at c1
  refine roundT plain mixed 2 [cTok, cHas p] [] 400 30 28 22 Try.func28 rfl (by kernel_rfl) (false :: true :: false :: true :: false :: false :: false :: true :: true :: true :: (ff47 (ff48 []))) (.auto 0 (.yes (.br (.yes (.yes (.yes .done))) .done))) (let e1 := (4 : Int); let e2 := (int (10 : Int)); let e3 := (@Value.string (@ByteArray.mk (@Array.mk _ []))); let e4 := (@AV.lit e3); let e5 := (int (1 : Int)); let e6 := (@AV.lit (@Value.string wLast)); let e7 := ((L).length + 2); let e8 := (some (@AV.sl 1 0 3 (some 3) 1)); let e9 := (int (0 : Int)); let e10 := (@Value.int IntKind.i64 (0 : Int)); let e11 := (@Array.toList _ (@Array.mk _ [e10, e3, e10])); let e12 := (e2 :: e4 :: e9 :: e5 :: e6 :: e9 :: (@List.drop _ (3 + ([e5, e6, e9]).length) (e2 :: e4 :: e9 :: (@List.drop _ (0 + ([e2, e4, e9]).length) (@List.map _ _ AV.lit (@Array.toList _ (@Array.mk _ [(@List.get _ e11 (@Fin.mk _ 0 (@Nat.le_of_ble_eq_true _ _ (@Eq.refl _ true)))), (@List.get _ e11 (@Fin.mk _ 1 (@Nat.le_of_ble_eq_true _ _ (@Eq.refl _ true)))), (@List.get _ e11 (@Fin.mk _ 2 (@Nat.le_of_ble_eq_true _ _ (@Eq.refl _ true)))), (@List.get _ e11 (@Fin.mk _ 0 (@Nat.le_of_ble_eq_true _ _ (@Eq.refl _ true)))), (@List.get _ e11 (@Fin.mk _ 1 (@Nat.le_of_ble_eq_true _ _ (@Eq.refl _ true)))), (@List.get _ e11 (@Fin.mk _ 2 (@Nat.le_of_ble_eq_true _ _ (@Eq.refl _ true))))]))))))); let e13 := (some (@Blk.mk [(int (p).comb), (@AV.lit (@Value.string (p).tag)), (@AV.lit (@Value.string (p).id)), (cview ((p).cls)), (tview ((p).tests)), (int (p).states)] 55 none)); (.need (@isSo (@And ((@HAppend.hAppend _ _ _ _ (@HAppend.hAppend _ _ _ _ [] [(int (p).states), (int e1)]) []) = [(int (p).states), (int e1)]) (@And (@And ((0 : Int) ≤ (p).states) ((p).states ≤ (7 : Int))) (@Or (e1 = (1 : Int)) (@Or (e1 = (2 : Int)) (e1 = e1)))))) (.fork (@hasB (p).states e1) (.need (@isSo (@And ((@HAppend.hAppend _ _ _ _ (@HAppend.hAppend _ _ _ _ [] [e2, e4]) []) = [e2, e4]) True)) (.need (@isSo (@And ((@HAppend.hAppend _ _ _ _ (@HAppend.hAppend _ _ _ _ [] [e5, e6]) []) = [e5, e6]) True)) (.need (Bool.true && ((@Nat.ble (L).length (L).length) && ((@Nat.ble (e7 * 32) 140737488355328) && (@Nat.ble e7 17592186044416)))) (.leaf (Ex.norm, ((none :: (some (@AV.ptr 0 0)) :: none :: (some (@AV.own (3 + 1) e7 3)) :: none :: none :: none :: e8 :: (some (int (8 : Int))) :: (some (int (3 : Int))) :: (nn47 (nn48 []))), (@Mem.mk ((3 + 1) + 1) (0 + 1) ((some (@Blk.mk [] 39 (some (@Rw.mk e7 3 (@appc (L).length (@kcell L) (fun y0 => (fun y1 => (@getA (@List.take _ 6 e12) ((y0 * 3) + y1))))))))) :: [(some (@Blk.mk e12 39 none)), none, (some wdB), e13])))))))) (.leaf (Ex.norm, ((none :: (some (@AV.ptr 0 0)) :: none :: (some (@AV.own 2 (L).length 3)) :: none :: none :: none :: e8 :: (some (int (8 : Int))) :: (some (int (3 : Int))) :: (nn47 (nn48 []))), (@Mem.mk 3 0 [(some (@Blk.mk [] 39 (some (@Rw.mk (L).length 3 (@kcell L))))), (some wdB), e13]))))))) (by kernel_rfl) ?_
  refine need_so ⟨rfl, hs, by omega⟩ (fork_ok (fun h => need_so ⟨rfl, trivial⟩ (need_so ⟨rfl, trivial⟩ (need_t (room_ok hl) ?_))) (fun h => ?_))
  · rw [if_pos h] at c1
    exact LoopToT.ren [0, 1, 4] rfl (rwF_ren 0 1 4 _ _ _ _ 0 1 2 _ (by simp) rfl rfl rfl) (rqM_ren (b := 4) rfl (by decide) (by decide) rfl rfl rfl (partL_free p) rfl ⟨trivial, trivial, trivial, trivial⟩ rfl (CellIs.app3 (CellIs.kc L) rfl (fun i j hi hj => by
        rcases i with _ | _ | i
        · rcases j with _ | _ | _ | j
          · exact rfl
          · exact rfl
          · exact rfl
          · omega
        · rcases j with _ | _ | _ | j
          · exact rfl
          · exact rfl
          · exact rfl
          · omega
        · omega))) c1
  · rw [if_neg (by rw [h]; simp)] at c1
    exact LoopToT.ren [0, 1, 2] rfl (rwF_ren 0 1 2 _ _ _ _ 0 1 2 _ (by simp) rfl rfl rfl) (rqM_ren (b := 2) rfl (by decide) (by decide) rfl rfl rfl (partL_free p) rfl ⟨trivial, trivial, trivial, trivial⟩ rfl (CellIs.cast (CellIs.kc L) (by simp))) c1
theorem Sy.rw_step3 (p : PartV) (L : List TokV) (m : Nat) (G : Ex → Fr → Mem → Prop) (c2 : G (.exit 4) (rwF 0 1 2 L.length 8 3) (rqM (pB p) wdB L)) :
    LoopToT 2 Try.prog (theBody Try.prog 28 22) (m + 1) (rwF 0 1 2 L.length 8 3) (rqM (pB p) wdB L) G :=
  roundT plain mixed 2 [cTok, cHas p] [] 400 30 28 22 Try.func28 rfl (by kernel_rfl) (false :: true :: false :: true :: false :: false :: false :: true :: true :: true :: (ff47 (ff48 []))) (.auto 0 .done) (.leaf ((@Ex.exit 4), ((none :: (some (@AV.ptr 0 0)) :: none :: (some (@AV.own 2 (L).length 3)) :: none :: none :: none :: (some (@AV.sl 1 0 3 (some 3) 1)) :: (some (int (8 : Int))) :: (some (int (3 : Int))) :: (nn47 (nn48 []))), (@Mem.mk 3 0 [(some (@Blk.mk [] 39 (some (@Rw.mk (L).length 3 (@kcell L))))), (some wdB), (some (@Blk.mk [(int (p).comb), (@AV.lit (@Value.string (p).tag)), (@AV.lit (@Value.string (p).id)), (cview ((p).cls)), (tview ((p).tests)), (int (p).states)] 55 none))])))) (by kernel_rfl) c2
def statesT (n : Int) : List TokV := stateT n 1 wRoot ++ (stateT n 2 wFirst ++ stateT n 4 wLast)
theorem Sy.rw_loop (p : PartV) (hs : 0 ≤ p.states ∧ p.states ≤ 7) (L : List TokV) (hl : limT (L.length + 6)) : LoopToT 2 Try.prog (theBody Try.prog 28 22) 4 (rwF 0 1 2 L.length 1 0) (rqM (pB p) wdB L) fun ex F2 M2 => ex = .exit 4 ∧ F2 = rwF 0 1 2 (L ++ statesT p.states).length 8 3 ∧ M2 = rqM (pB p) wdB (L ++ statesT p.states) := by
  unfold limT at hl
  have l1 := stateT_len p.states 1 wRoot
  have l2 := stateT_len p.states 2 wFirst
  refine rw_step0 p hs L 3 _ (by unfold limT; omega) fun L1 h1 => rw_step1 p hs L1 2 _ (by rw [h1]; unfold limT; simp only [List.length_append]; omega) fun L2 h2 => rw_step2 p hs L2 1 _ (by rw [h2, h1]; unfold limT; simp only [List.length_append]; omega) fun L3 h3 => ?_
  have e : L3 = L ++ statesT p.states := by rw [h3, h2, h1]; unfold statesT; simp only [List.append_assoc]
  rw [← e]
  exact rw_step3 p L3 0 _ ⟨rfl, rfl, rfl⟩
namespace Sy
structure RZ where
  qb : Nat
  y : RY
noncomputable def rzGet (a c t : Nat) (F : Fr) (M : Mem) : Option RZ := match nth F c with
  | some (some (.sl qb 0 3 (some 3) 1)) => match ryGet a t F M with
    | some y => some ⟨qb, y⟩
    | none => none
  | _ => none
noncomputable def formZ (a c t : Nat) (form : RZ → AV → Fr) (C : RZ → Prop) (res : RZ → Tr (Ex × Fr × Mem)) (p : List Bool) : Summ := fun F M => match rzGet a c t F M with
  | some x => .need (isSo (maskF p F = form x x.y.r.v ∧ TokRows x.y.r.n x.y.r.cell ∧ x.y.r.m = x.y.r.n ∧ C x)) (res x)
  | none => .bad 22
theorem formZ_ok {P : Program} {body : Code} {a c t : Nat} {form : RZ → AV → Fr} {C : RZ → Prop} {res : RZ → Tr (Ex × Fr × Mem)} {p : List Bool} (hget : ∀ x v, (form x v)[t]? = some (some v)) (hset : ∀ x v u, (form x v).set t (some u) = form x u) (h : ∀ (x : RZ) (L : List TokV), x.y.r.M.get x.y.r.b = some (rowB x.y.r.n x.y.r.cell) → CellIs x.y.r.n x.y.r.cell L → C x → ∃ n, LoopTo P body n (form x (.own x.y.r.b x.y.r.n 3)) x.y.r.M fun ex F' M' => (res x).sel (ex, F', M')) : Sums P body (formZ a c t form C res p) := fun F M H hok => by
  unfold formZ at hok
  cases hg : rzGet a c t F M with
  | none => rw [hg] at hok; exact hok.elim
  | some x =>
    rw [hg] at hok
    unfold rzGet at hg
    split at hg
    · rename_i qb _
      cases hy : ryGet a t F M with
      | none => rw [hy] at hg; cases hg
      | some y =>
        rw [hy] at hg
        simp at hg
        subst hg
        have hS : (formR a t (fun y v => form ⟨qb, y⟩ v) (fun y => C ⟨qb, y⟩) (fun y => res ⟨qb, y⟩) p F M).Ok H := by
          unfold formR
          rw [hy]
          exact hok
        have := formR_ok (P := P) (body := body) (a := a) (t := t) (form := fun y v => form ⟨qb, y⟩ v) (C := fun y => C ⟨qb, y⟩) (res := fun y => res ⟨qb, y⟩) (p := p) (fun y v => hget ⟨qb, y⟩ v) (fun y v u => hset ⟨qb, y⟩ v u) (fun y L q1 q2 q3 => h ⟨qb, y⟩ L q1 q2 q3)
        exact this F M H hS
    · cases hg
abbrev rwG (x : RZ) (v : AV) : Fr := (none :: some (.ptr x.y.pb 0) :: none :: some (v) :: none :: none :: none :: some (.sl x.qb 0 3 (some 3) 1) :: some (int 1) :: some (int 0) :: (nn47 (nn48 [])))
abbrev rwE (pb b n : Nat) : Fr := (none :: some (.ptr pb 0) :: none :: some (.own b n 3) :: (nn5 (nn48 (nn48 []))))
noncomputable abbrev lpRw (p : PartV) : Lp Try.prog where
  f := 28
  key := 22
  S := formZ 1 7 3 rwG (fun x => x.y.r.M.get x.y.pb = some (pB p) ∧ x.y.r.M.get x.qb = some wdB ∧ limT (x.y.r.n + 6) ∧ 0 ≤ p.states ∧ p.states ≤ 7) (fun x => .leaf (.exit 4, rwE x.y.pb x.y.r.M.top (x.y.r.n + (statesT p.states).length), rRes x.y.r.M x.y.r.b x.y.r.n x.y.r.cell (statesT p.states))) (false :: true :: false :: true :: false :: false :: false :: true :: true :: true :: (ff47 (ff48 [])))
  one := by kernel_rfl
  ok := formZ_ok (fun x v => rfl) (fun x v u => rfl) fun x L h2 h4 ⟨h3, h3b, h5, h6⟩ => by
    refine ⟨4, ?_⟩
    have key := rw_loop p h6 L (by rw [← h4.1]; exact h5)
    have hp1 : x.y.pb ≠ x.y.r.b := fun e => by rw [e, h2] at h3; cases h3
    have hp2 : x.qb ≠ x.y.r.b := fun e => by rw [e, h2] at h3b; cases h3b
    have hp3 : x.y.pb ≠ x.qb := fun e => by rw [e, h3b] at h3; cases h3
    refine ((loopR2_frame key (F := rwF x.y.pb x.qb x.y.r.b x.y.r.n 1 0) (F' := rwF x.y.pb x.qb x.y.r.M.top (x.y.r.n + (statesT p.states).length) 8 3) (rwF_ren x.y.pb x.qb x.y.r.b _ _ _ _ 0 1 2 _ h4.1 rfl rfl rfl) (fun τ t0 t1 t2 => rwF_ren 0 1 2 _ _ _ _ x.y.pb x.qb x.y.r.M.top τ (by rw [List.length_append, h4.1]) t0 t1 t2) h2 h3 h3b ⟨hp1, hp2, hp3⟩ ⟨partL_free p, ⟨trivial, trivial, trivial, trivial⟩⟩ ⟨rfl, rfl⟩ h4).out (false :: true :: false :: true :: (ff5 (ff48 (ff48 []))))).mono fun ex F M hg => ?_
    obtain ⟨F0, ⟨rfl, rfl, hM⟩, rfl⟩ := hg
    rw [hM]; rfl
end Sy
theorem app411 {α : Type} (a b : α) (c d e f g : List α) : [a, b] ++ c ++ d ++ (e ++ (f ++ g)) = [a] ++ ([b] ++ (c ++ (d ++ (e ++ (f ++ g))))) := by simp
theorem app410 {α : Type} (a : α) (c d e f g : List α) : [a] ++ c ++ d ++ (e ++ (f ++ g)) = [a] ++ ([] ++ (c ++ (d ++ (e ++ (f ++ g))))) := by simp
theorem app401 {α : Type} (a : α) (c d e f g : List α) : [a] ++ c ++ d ++ (e ++ (f ++ g)) = [] ++ ([a] ++ (c ++ (d ++ (e ++ (f ++ g))))) := by simp
theorem app400 {α : Type} (c d e f g : List α) : [] ++ c ++ d ++ (e ++ (f ++ g)) = [] ++ ([] ++ (c ++ (d ++ (e ++ (f ++ g))))) := by simp
def OwnEnd (v : AV) (M' : Mem) (L : List TokV) : Prop := ∃ b n cell, v = .own b n 3 ∧ M'.get b = some (rowB n cell) ∧ CellIs n cell L
theorem Sy.ptk_t (p : PartV) (hc : p.cls.length ≤ 8) (ht : p.tests.length ≤ 8) (hs : 0 ≤ p.states ∧ p.states ≤ 7) (hl : limT ((partT p).length + 6)) : CallTo Try.prog 28 [partG p] M0 fun v M' => OwnEnd v M' (partT p) :=
  to (G := fun r => OwnEnd r.1 r.2 (partT p)) [cTok] [lpRtc p, lpRtt p, lpRw p] 400 30 (.br (.yes (.br (.yes (.br (.yes (.yes .done)) .done)) (.br (.yes (.yes .done)) .done))) (.br (.yes (.br (.yes (.yes .done)) .done)) (.br (.yes (.yes .done)) .done))) (let e1 := (@ByteArray.mk (@Array.mk _ [])); let e2 := (@Array.toList _ (@ByteArray.data e1)); let e3 := (@AV.lit (@Value.string (p).tag)); let e4 := (int (Int.ofNat 1)); let e5 := (!(@bytesEq (@Array.toList _ (@ByteArray.data (p).id)) e2)); let e6 := (@AV.lit (@Value.string (p).id)); let e7 := (int (Int.ofNat 4)); let e8 := (@isSo (@And ((@HAppend.hAppend _ _ _ _ (@HAppend.hAppend _ _ _ _ [] [(int (4 : Int)), e6]) []) = [e7, e6]) True)); let e9 := (some (@AV.ptr 0 0)); let e10 := (((0 + 1) + 1) + 1); let e11 := (e10 + 1); let e12 := (some (@AV.sl e11 0 2 none 3)); let e13 := (0 : Int); let e14 := (int e13); let e15 := (some e14); let e16 := (@Array.toList _ (@Array.mk _ [(@Value.int IntKind.i64 e13), (@Value.string e1), (@Value.int IntKind.i64 e13)])); let e17 := (@List.map _ _ AV.lit (@Array.toList _ (@Array.mk _ [(@List.get _ e16 (@Fin.mk _ 0 (@Nat.le_of_ble_eq_true _ _ (@Eq.refl _ true)))), (@List.get _ e16 (@Fin.mk _ 1 (@Nat.le_of_ble_eq_true _ _ (@Eq.refl _ true)))), (@List.get _ e16 (@Fin.mk _ 2 (@Nat.le_of_ble_eq_true _ _ (@Eq.refl _ true))))]))); let e18 := (e7 :: e6 :: e14 :: (@List.drop _ (0 + ([e7, e6, e14]).length) e17)); let e19 := (fun y0 => (fun y1 => (@getA (e4 :: e3 :: e14 :: (@List.take _ 3 e18)) ((y0 * 3) + y1)))); let e20 := (some (@Blk.mk [(int (p).comb), e3, e6, (cview ((p).cls)), (tview ((p).tests)), (int (p).states)] 55 none)); let e21 := (e20 = e20); let e22 := ((1 + 1) + ((@clssT (p).cls)).length); let e23 := (((p).cls).length ≤ 8); let e24 := (e11 + 1); let e25 := (@kcell (@clssT (p).cls)); let e26 := (e22 + ((@testsT (p).tests)).length); let e27 := (((p).tests).length ≤ 8); let e28 := (some (@AV.own (e24 + 1) e26 3)); let e29 := ((e24 + 1) + 1); let e30 := (some (@AV.sl e29 0 3 (some 3) 1)); let e31 := (some (int (1 : Int))); let e32 := (@kcell (@testsT (p).tests)); let e33 := (@appc e22 (@appc (1 + 1) e19 e25) e32); let e34 := (@AV.lit (@Value.string (@ByteArray.mk (@Array.mk _ [(114 : UInt8), (111 : UInt8), (111 : UInt8), (116 : UInt8)])))); let e35 := (@AV.lit (@Value.string (@ByteArray.mk (@Array.mk _ [(102 : UInt8), (105 : UInt8), (114 : UInt8), (115 : UInt8), (116 : UInt8), (45 : UInt8), (99 : UInt8), (104 : UInt8), (105 : UInt8), (108 : UInt8), (100 : UInt8)])))); let e36 := (some (@Blk.mk (e34 :: e35 :: (@AV.lit (@Value.string (@ByteArray.mk (@Array.mk _ [(108 : UInt8), (97 : UInt8), (115 : UInt8), (116 : UInt8), (45 : UInt8), (99 : UInt8), (104 : UInt8), (105 : UInt8), (108 : UInt8), (100 : UInt8)])))) :: (@List.drop _ 3 (e34 :: e35 :: (@List.drop _ 2 (e34 :: (@List.drop _ 1 (@List.map _ _ AV.lit (@Array.toList _ (@Array.mk _ [(@List.get _ (@Array.toList _ (@Array.mk _ [(@Value.string e1)])) (@Fin.mk _ 0 (@Nat.le_of_ble_eq_true _ _ (@Eq.refl _ true)))), (@List.get _ (@Array.toList _ (@Array.mk _ [(@Value.string e1)])) (@Fin.mk _ 0 (@Nat.le_of_ble_eq_true _ _ (@Eq.refl _ true)))), (@List.get _ (@Array.toList _ (@Array.mk _ [(@Value.string e1)])) (@Fin.mk _ 0 (@Nat.le_of_ble_eq_true _ _ (@Eq.refl _ true))))]))))))))) 9 none)); let e37 := (e36 = (some wdB)); let e38 := (@And (e13 ≤ (p).states) ((p).states ≤ (7 : Int))); let e39 := (e26 + ((@statesT (p).states)).length); let e40 := (int (19 : Int)); let e41 := (@AV.lit (@Value.string (@ByteArray.mk (@Array.mk _ [(42 : UInt8)])))); let e42 := (@isSo (@And ((@HAppend.hAppend _ _ _ _ (@HAppend.hAppend _ _ _ _ [] [e40, e41]) []) = [e40, e41]) True)); let e43 := ((e29 + 1) + 1); let e44 := (@kcell (@statesT (p).states)); let e45 := (e40 :: e41 :: e14 :: (@List.drop _ (0 + ([e40, e41, e14]).length) e17)); let e46 := (fun y0 => (fun y1 => (@getA (@List.take _ 3 e45) ((y0 * 3) + y1)))); let e47 := (some (@Blk.mk e45 39 none)); let e48 := (some (@Blk.mk (e4 :: e3 :: e14 :: (@List.drop _ (0 + ([e4, e3, e14]).length) e17)) 39 none)); let e49 := (some (@AV.sl ((0 + 1) + 1) 0 1 none 3)); let e50 := ((none :: (e9 :: none :: e49 :: e15 :: (nn5 (nn47 (nn48 []))))) = (none :: e9 :: none :: e49 :: e15 :: (nn5 (nn47 (nn48 []))))); let e51 := (fun y0 => (fun y1 => (@getA [e4, e3, e14] ((y0 * 3) + y1)))); let e52 := (1 + ((@clssT (p).cls)).length); let e53 := (@And (1 = 1) (@And e21 (@And (e52 ≤ 1000000) e23))); let e54 := (e52 + ((@testsT (p).tests)).length); let e55 := (@And (e52 = e52) (@And e21 (@And (e54 ≤ 1000000) e27))); let e56 := (some (@AV.sl e24 0 3 (some 3) 1)); let e57 := (@appc e52 (@appc 1 e51 e25) e32); let e58 := (@And (e54 = e54) (@And e21 (@And e37 (@And ((e54 + 6) ≤ 1000000) e38)))); let e59 := (e54 + ((@statesT (p).states)).length); let e60 := (eqI ((e59 : Nat) : Int) e13); let e61 := (Bool.true && ((@Nat.ble e59 e59) && ((@Nat.ble ((e59 + 1) * 32) 140737488355328) && (@Nat.ble (e59 + 1) 17592186044416)))); let e62 := (@AV.own (e29 + 1) (e59 + 1) 3); let e63 := (fun y0 => (fun y1 => (@getA [e7, e6, e14] ((y0 * 3) + y1)))); let e64 := (@appc e52 (@appc 1 e63 e25) e32); let e65 := (some (@AV.lit (@Value.slice none 0 0))); let e66 := (0 + ((@clssT (p).cls)).length); let e67 := (some (@AV.own ((0 + 1) + 1) e66 3)); let e68 := (e66 + ((@testsT (p).tests)).length); let e69 := (some (@AV.sl e11 0 3 (some 3) 1)); let e70 := (@appc e66 (@appc 0 (@kcell []) e25) e32); let e71 := (e68 + ((@statesT (p).states)).length); (.fork (!(@bytesEq (@Array.toList _ (@ByteArray.data (p).tag)) e2)) (.need (@isSo (@And ((@HAppend.hAppend _ _ _ _ (@HAppend.hAppend _ _ _ _ [] [(int (1 : Int)), e3]) []) = [e4, e3]) True)) (.fork e5 (.need e8 (.need (@isSo (@And ((none :: (e9 :: none :: e12 :: e15 :: (nn5 (nn47 (nn48 []))))) = (none :: e9 :: none :: e12 :: e15 :: (nn5 (nn47 (nn48 []))))) (@And (@TokRows (1 + 1) e19) (@And ((1 + 1) = (1 + 1)) (@And e21 (@And (e22 ≤ 1000000) e23)))))) (.need (@isSo (@And ((none :: e9 :: none :: (some (@AV.own e24 e22 3)) :: none :: e15 :: (nn5 (nn46 (nn48 [])))) = (none :: e9 :: none :: (some (@AV.own e24 e22 3)) :: none :: e15 :: (nn5 (nn46 (nn48 []))))) (@And (@TokRows e22 (@appc (1 + 1) e19 e25)) (@And (e22 = e22) (@And e21 (@And (e26 ≤ 1000000) e27)))))) (.need (@isSo (@And ((none :: e9 :: none :: e28 :: none :: none :: none :: e30 :: e31 :: e15 :: (nn47 (nn48 []))) = (none :: e9 :: none :: e28 :: none :: none :: none :: e30 :: e31 :: e15 :: (nn47 (nn48 [])))) (@And (@TokRows e26 e33) (@And (e26 = e26) (@And e21 (@And e37 (@And ((e26 + 6) ≤ 1000000) e38))))))) (.fork (eqI ((e39 : Nat) : Int) e13) (.need e42 (.need (Bool.true && ((@Nat.ble e39 e39) && ((@Nat.ble ((e39 + 1) * 32) 140737488355328) && (@Nat.ble (e39 + 1) 17592186044416)))) (.leaf ((@AV.own (e43 + 1) (e39 + 1) 3), (@Mem.mk ((e43 + 1) + 1) (e24 + 1) ((some (@Blk.mk [] 39 (some (@Rw.mk (e39 + 1) 3 (@appc e39 (@appc e26 e33 e44) e46))))) :: (e47 :: none :: (e36 :: none :: (none :: (none :: [(some (@Blk.mk e18 39 none)), none, e48, e20])))))))))) (.leaf ((@AV.own (e29 + 1) e39 3), (@Mem.mk e43 e24 ((some (@Blk.mk [] 39 (some (@Rw.mk e39 3 (@appc e26 e33 e44))))) :: (e36 :: none :: (none :: (none :: [(some (@Blk.mk e18 39 none)), none, e48, e20])))))))))))) (.need (@isSo (@And e50 (@And (@TokRows 1 e51) e53))) (.need (@isSo (@And ((none :: e9 :: none :: (some (@AV.own e10 e52 3)) :: none :: e15 :: (nn5 (nn46 (nn48 [])))) = (none :: e9 :: none :: (some (@AV.own e10 e52 3)) :: none :: e15 :: (nn5 (nn46 (nn48 []))))) (@And (@TokRows e52 (@appc 1 e51 e25)) e55))) (.need (@isSo (@And ((none :: e9 :: none :: (some (@AV.own e11 e54 3)) :: none :: none :: none :: e56 :: e31 :: e15 :: (nn47 (nn48 []))) = (none :: e9 :: none :: (some (@AV.own e11 e54 3)) :: none :: none :: none :: e56 :: e31 :: e15 :: (nn47 (nn48 [])))) (@And (@TokRows e54 e57) e58))) (.fork e60 (.need e42 (.need e61 (.leaf (e62, (@Mem.mk e43 e24 ((some (@Blk.mk [] 39 (some (@Rw.mk (e59 + 1) 3 (@appc e59 (@appc e54 e57 e44) e46))))) :: (e47 :: none :: (e36 :: none :: (none :: [none, e48, e20]))))))))) (.leaf ((@AV.own (e24 + 1) e59 3), (@Mem.mk e29 e11 ((some (@Blk.mk [] 39 (some (@Rw.mk e59 3 (@appc e54 e57 e44))))) :: (e36 :: none :: (none :: [none, e48, e20])))))))))))) (.fork e5 (.need e8 (.need (@isSo (@And e50 (@And (@TokRows 1 e63) e53))) (.need (@isSo (@And ((none :: e9 :: none :: (some (@AV.own e10 e52 3)) :: none :: e15 :: (nn5 (nn46 (nn48 [])))) = (none :: e9 :: none :: (some (@AV.own e10 e52 3)) :: none :: e15 :: (nn5 (nn46 (nn48 []))))) (@And (@TokRows e52 (@appc 1 e63 e25)) e55))) (.need (@isSo (@And ((none :: e9 :: none :: (some (@AV.own e11 e54 3)) :: none :: none :: none :: e56 :: e31 :: e15 :: (nn47 (nn48 []))) = (none :: e9 :: none :: (some (@AV.own e11 e54 3)) :: none :: none :: none :: e56 :: e31 :: e15 :: (nn47 (nn48 [])))) (@And (@TokRows e54 e64) e58))) (.fork e60 (.need e42 (.need e61 (.leaf (e62, (@Mem.mk e43 e24 ((some (@Blk.mk [] 39 (some (@Rw.mk (e59 + 1) 3 (@appc e59 (@appc e54 e64 e44) e46))))) :: (e47 :: none :: (e36 :: none :: (none :: [none, (some (@Blk.mk e18 39 none)), e20]))))))))) (.leaf ((@AV.own (e24 + 1) e59 3), (@Mem.mk e29 e11 ((some (@Blk.mk [] 39 (some (@Rw.mk e59 3 (@appc e54 e64 e44))))) :: (e36 :: none :: (none :: [none, (some (@Blk.mk e18 39 none)), e20]))))))))))) (.need (@isSo (@And ((none :: (e9 :: none :: e65 :: e15 :: (nn5 (nn47 (nn48 []))))) = (none :: e9 :: none :: e65 :: e15 :: (nn5 (nn47 (nn48 []))))) (@And (@TokRows 0 (@kcell [])) (@And (0 = 0) (@And e21 (@And (e66 ≤ 1000000) e23)))))) (.need (@isSo (@And ((none :: e9 :: none :: e67 :: none :: e15 :: (nn5 (nn46 (nn48 [])))) = (none :: e9 :: none :: e67 :: none :: e15 :: (nn5 (nn46 (nn48 []))))) (@And (@TokRows e66 (@appc 0 (@kcell []) e25)) (@And (e66 = e66) (@And e21 (@And (e68 ≤ 1000000) e27)))))) (.need (@isSo (@And ((none :: e9 :: none :: (some (@AV.own e10 e68 3)) :: none :: none :: none :: e69 :: e31 :: e15 :: (nn47 (nn48 []))) = (none :: e9 :: none :: (some (@AV.own e10 e68 3)) :: none :: none :: none :: e69 :: e31 :: e15 :: (nn47 (nn48 [])))) (@And (@TokRows e68 e70) (@And (e68 = e68) (@And e21 (@And e37 (@And ((e68 + 6) ≤ 1000000) e38))))))) (.fork (eqI ((e71 : Nat) : Int) e13) (.need e42 (.need (Bool.true && ((@Nat.ble e71 e71) && ((@Nat.ble ((e71 + 1) * 32) 140737488355328) && (@Nat.ble (e71 + 1) 17592186044416)))) (.leaf ((@AV.own e29 (e71 + 1) 3), (@Mem.mk (e29 + 1) e11 ((some (@Blk.mk [] 39 (some (@Rw.mk (e71 + 1) 3 (@appc e71 (@appc e68 e70 e44) e46))))) :: (e47 :: none :: (e36 :: none :: (none :: [none, e20]))))))))) (.leaf ((@AV.own e24 e71 3), (@Mem.mk (e24 + 1) e10 ((some (@Blk.mk [] 39 (some (@Rw.mk e71 3 (@appc e68 e70 e44))))) :: (e36 :: none :: (none :: [none, e20]))))))))))))) (by kernel_rfl) (by
    unfold limT at hl
    have hb := partT_len p
    have hsum : (bodyT p).length = (tagT p).length + ((idT p).length + ((clssT p.cls).length + ((testsT p.tests).length + (statesT p.states).length))) := by
      unfold bodyT statesT
      simp only [List.length_append]
    have star : (bodyT p).length = 0 → partT p = [tk 19 ⟨#[42]⟩] := fun h => by unfold partT; rw [if_pos h]
    have full : (bodyT p).length ≠ 0 → partT p = bodyT p := fun h => by unfold partT; rw [if_neg h]
    have nil : (bodyT p).length = 0 → bodyT p = [] := fun h => List.eq_nil_of_length_eq_zero h
    refine fork_ok (fun h1 => ?_) (fun h1 => ?_)
    · have t1 : tagT p = [tk 1 p.tag] := by unfold tagT; rw [if_neg (by simpa using h1)]
      have t1l := congrArg List.length t1
      simp only [List.length_cons, List.length_nil] at t1l
      refine need_so ⟨rfl, trivial⟩ (fork_ok (fun h2 => ?_) (fun h2 => ?_))
      · have t2 : idT p = [tk 4 p.id] := by unfold idT; rw [if_neg (by simpa using h2)]
        have t2l := congrArg List.length t2
        simp only [List.length_cons, List.length_nil] at t2l
        have k0 := fun (c : Nat → Nat → AV) (h : ∀ i j, i < 2 → j < 3 → c i j = kcell ([tk 1 p.tag, tk 4 p.id] : List TokV) i j) => (⟨rfl, h⟩ : CellIs 2 c ([tk 1 p.tag, tk 4 p.id] : List TokV))
        refine need_so ⟨rfl, trivial⟩ (need_so ⟨rfl, ⟨_, k0 _ (fun i j hi hj => by
        rcases i with _ | _ | i
        · rcases j with _ | _ | _ | j
          · exact rfl
          · exact rfl
          · exact rfl
          · omega
        · rcases j with _ | _ | _ | j
          · exact rfl
          · exact rfl
          · exact rfl
          · omega
        · omega)⟩, rfl, rfl, (by (try unfold limT); (try simp only [List.length_cons, List.length_nil] at *); omega), hc⟩ (need_so ⟨rfl, TokRows.app ⟨_, k0 _ (fun i j hi hj => by
        rcases i with _ | _ | i
        · rcases j with _ | _ | _ | j
          · exact rfl
          · exact rfl
          · exact rfl
          · omega
        · rcases j with _ | _ | _ | j
          · exact rfl
          · exact rfl
          · exact rfl
          · omega
        · omega)⟩ rfl, rfl, rfl, (by (try unfold limT); (try simp only [List.length_cons, List.length_nil] at *); omega), ht⟩ (need_so ⟨rfl, TokRows.app (TokRows.app ⟨_, k0 _ (fun i j hi hj => by
        rcases i with _ | _ | i
        · rcases j with _ | _ | _ | j
          · exact rfl
          · exact rfl
          · exact rfl
          · omega
        · rcases j with _ | _ | _ | j
          · exact rfl
          · exact rfl
          · exact rfl
          · omega
        · omega)⟩ rfl) rfl, rfl, rfl, rfl, (by (try unfold limT); (try simp only [List.length_cons, List.length_nil] at *); omega), hs⟩ (fork_ok (fun h3 => ?_) (fun h3 => ?_)))))
        · simp only [Bool.not_eq_true', Bool.not_eq_false', leI_t, leI_f, eqI_t, eqI_f, inR_t, inR_f, isSo_t, isSo_f] at h3
          try simp only [List.length_cons, List.length_nil] at h3
          have hz : (bodyT p).length = 0 := by omega
          exfalso; omega
        · simp only [Bool.not_eq_true', Bool.not_eq_false', leI_t, leI_f, eqI_t, eqI_f, inR_t, inR_f, isSo_t, isSo_f] at h3
          try simp only [List.length_cons, List.length_nil] at h3
          have hz : (bodyT p).length ≠ 0 := by omega
          rw [full hz]
          refine ⟨_, _, _, rfl, rfl, CellIs.cast (CellIs.app2 (CellIs.app2 (CellIs.app2 (k0 _ (fun i j hi hj => by
        rcases i with _ | _ | i
        · rcases j with _ | _ | _ | j
          · exact rfl
          · exact rfl
          · exact rfl
          · omega
        · rcases j with _ | _ | _ | j
          · exact rfl
          · exact rfl
          · exact rfl
          · omega
        · omega)) rfl) rfl) rfl) ?_⟩
          unfold bodyT
          rw [t1, t2]
          exact app411 _ _ _ _ _ _ _
      · have t2 : idT p = [] := by unfold idT; rw [if_pos (by simpa using h2)]
        have t2l := congrArg List.length t2
        simp only [List.length_cons, List.length_nil] at t2l
        have k0 := fun (c : Nat → Nat → AV) (h : ∀ i j, i < 1 → j < 3 → c i j = kcell ([tk 1 p.tag] : List TokV) i j) => (⟨rfl, h⟩ : CellIs 1 c ([tk 1 p.tag] : List TokV))
        refine need_so ⟨rfl, ⟨_, k0 _ (fun i j hi hj => by
        rcases i with _ | i
        · rcases j with _ | _ | _ | j
          · exact rfl
          · exact rfl
          · exact rfl
          · omega
        · omega)⟩, rfl, rfl, (by (try unfold limT); (try simp only [List.length_cons, List.length_nil] at *); omega), hc⟩ (need_so ⟨rfl, TokRows.app ⟨_, k0 _ (fun i j hi hj => by
        rcases i with _ | i
        · rcases j with _ | _ | _ | j
          · exact rfl
          · exact rfl
          · exact rfl
          · omega
        · omega)⟩ rfl, rfl, rfl, (by (try unfold limT); (try simp only [List.length_cons, List.length_nil] at *); omega), ht⟩ (need_so ⟨rfl, TokRows.app (TokRows.app ⟨_, k0 _ (fun i j hi hj => by
        rcases i with _ | i
        · rcases j with _ | _ | _ | j
          · exact rfl
          · exact rfl
          · exact rfl
          · omega
        · omega)⟩ rfl) rfl, rfl, rfl, rfl, (by (try unfold limT); (try simp only [List.length_cons, List.length_nil] at *); omega), hs⟩ (fork_ok (fun h3 => ?_) (fun h3 => ?_))))
        · simp only [Bool.not_eq_true', Bool.not_eq_false', leI_t, leI_f, eqI_t, eqI_f, inR_t, inR_f, isSo_t, isSo_f] at h3
          try simp only [List.length_cons, List.length_nil] at h3
          have hz : (bodyT p).length = 0 := by omega
          exfalso; omega
        · simp only [Bool.not_eq_true', Bool.not_eq_false', leI_t, leI_f, eqI_t, eqI_f, inR_t, inR_f, isSo_t, isSo_f] at h3
          try simp only [List.length_cons, List.length_nil] at h3
          have hz : (bodyT p).length ≠ 0 := by omega
          rw [full hz]
          refine ⟨_, _, _, rfl, rfl, CellIs.cast (CellIs.app2 (CellIs.app2 (CellIs.app2 (k0 _ (fun i j hi hj => by
        rcases i with _ | i
        · rcases j with _ | _ | _ | j
          · exact rfl
          · exact rfl
          · exact rfl
          · omega
        · omega)) rfl) rfl) rfl) ?_⟩
          unfold bodyT
          rw [t1, t2]
          exact app410 _ _ _ _ _ _
    · have t1 : tagT p = [] := by unfold tagT; rw [if_pos (by simpa using h1)]
      have t1l := congrArg List.length t1
      simp only [List.length_cons, List.length_nil] at t1l
      refine fork_ok (fun h2 => ?_) (fun h2 => ?_)
      · have t2 : idT p = [tk 4 p.id] := by unfold idT; rw [if_neg (by simpa using h2)]
        have t2l := congrArg List.length t2
        simp only [List.length_cons, List.length_nil] at t2l
        have k0 := fun (c : Nat → Nat → AV) (h : ∀ i j, i < 1 → j < 3 → c i j = kcell ([tk 4 p.id] : List TokV) i j) => (⟨rfl, h⟩ : CellIs 1 c ([tk 4 p.id] : List TokV))
        refine need_so ⟨rfl, trivial⟩ (need_so ⟨rfl, ⟨_, k0 _ (fun i j hi hj => by
        rcases i with _ | i
        · rcases j with _ | _ | _ | j
          · exact rfl
          · exact rfl
          · exact rfl
          · omega
        · omega)⟩, rfl, rfl, (by (try unfold limT); (try simp only [List.length_cons, List.length_nil] at *); omega), hc⟩ (need_so ⟨rfl, TokRows.app ⟨_, k0 _ (fun i j hi hj => by
        rcases i with _ | i
        · rcases j with _ | _ | _ | j
          · exact rfl
          · exact rfl
          · exact rfl
          · omega
        · omega)⟩ rfl, rfl, rfl, (by (try unfold limT); (try simp only [List.length_cons, List.length_nil] at *); omega), ht⟩ (need_so ⟨rfl, TokRows.app (TokRows.app ⟨_, k0 _ (fun i j hi hj => by
        rcases i with _ | i
        · rcases j with _ | _ | _ | j
          · exact rfl
          · exact rfl
          · exact rfl
          · omega
        · omega)⟩ rfl) rfl, rfl, rfl, rfl, (by (try unfold limT); (try simp only [List.length_cons, List.length_nil] at *); omega), hs⟩ (fork_ok (fun h3 => ?_) (fun h3 => ?_)))))
        · simp only [Bool.not_eq_true', Bool.not_eq_false', leI_t, leI_f, eqI_t, eqI_f, inR_t, inR_f, isSo_t, isSo_f] at h3
          try simp only [List.length_cons, List.length_nil] at h3
          have hz : (bodyT p).length = 0 := by omega
          exfalso; omega
        · simp only [Bool.not_eq_true', Bool.not_eq_false', leI_t, leI_f, eqI_t, eqI_f, inR_t, inR_f, isSo_t, isSo_f] at h3
          try simp only [List.length_cons, List.length_nil] at h3
          have hz : (bodyT p).length ≠ 0 := by omega
          rw [full hz]
          refine ⟨_, _, _, rfl, rfl, CellIs.cast (CellIs.app2 (CellIs.app2 (CellIs.app2 (k0 _ (fun i j hi hj => by
        rcases i with _ | i
        · rcases j with _ | _ | _ | j
          · exact rfl
          · exact rfl
          · exact rfl
          · omega
        · omega)) rfl) rfl) rfl) ?_⟩
          unfold bodyT
          rw [t1, t2]
          exact app401 _ _ _ _ _ _
      · have t2 : idT p = [] := by unfold idT; rw [if_pos (by simpa using h2)]
        have t2l := congrArg List.length t2
        simp only [List.length_cons, List.length_nil] at t2l
        have k0 := fun (c : Nat → Nat → AV) (h : ∀ i j, i < 0 → j < 3 → c i j = kcell ([] : List TokV) i j) => (⟨rfl, h⟩ : CellIs 0 c ([] : List TokV))
        refine need_so ⟨rfl, ⟨_, k0 _ (fun i j hi hj => by omega)⟩, rfl, rfl, (by (try unfold limT); (try simp only [List.length_cons, List.length_nil] at *); omega), hc⟩ (need_so ⟨rfl, TokRows.app ⟨_, k0 _ (fun i j hi hj => by omega)⟩ rfl, rfl, rfl, (by (try unfold limT); (try simp only [List.length_cons, List.length_nil] at *); omega), ht⟩ (need_so ⟨rfl, TokRows.app (TokRows.app ⟨_, k0 _ (fun i j hi hj => by omega)⟩ rfl) rfl, rfl, rfl, rfl, (by (try unfold limT); (try simp only [List.length_cons, List.length_nil] at *); omega), hs⟩ (fork_ok (fun h3 => ?_) (fun h3 => ?_))))
        · simp only [Bool.not_eq_true', Bool.not_eq_false', leI_t, leI_f, eqI_t, eqI_f, inR_t, inR_f, isSo_t, isSo_f] at h3
          try simp only [List.length_cons, List.length_nil] at h3
          have hz : (bodyT p).length = 0 := by omega
          rw [star hz] at hl ⊢
          have hn := nil hz
          unfold bodyT at hn
          rw [t1, t2] at hn
          simp only [List.nil_append, List.append_eq_nil_iff] at hn
          obtain ⟨n1, n2, n3, n4, n5⟩ := hn
          have n6 : statesT p.states = [] := by unfold statesT; rw [n3, n4, n5]; rfl
          refine need_so ⟨rfl, trivial⟩ (need_t (room_ok (by unfold limT; simp only [List.length_cons, List.length_nil] at *; omega)) ?_)
          refine ⟨_, _, _, rfl, rfl, CellIs.cast (CellIs.app3 (X := [tk 19 ⟨#[42]⟩]) (CellIs.app2 (CellIs.app2 (CellIs.app2 (k0 _ (fun i j hi hj => by omega)) rfl) rfl) rfl) rfl (fun i j hi hj => by
        rcases i with _ | i
        · rcases j with _ | _ | _ | j
          · exact rfl
          · exact rfl
          · exact rfl
          · omega
        · omega)) ?_⟩
          rw [n1, n2, n6]; rfl
        · simp only [Bool.not_eq_true', Bool.not_eq_false', leI_t, leI_f, eqI_t, eqI_f, inR_t, inR_f, isSo_t, isSo_f] at h3
          try simp only [List.length_cons, List.length_nil] at h3
          have hz : (bodyT p).length ≠ 0 := by omega
          rw [full hz]
          refine ⟨_, _, _, rfl, rfl, CellIs.cast (CellIs.app2 (CellIs.app2 (CellIs.app2 (k0 _ (fun i j hi hj => by omega)) rfl) rfl) rfl) ?_⟩
          unfold bodyT
          rw [t1, t2]
          exact app400 _ _ _ _ _)
end Go.Proofs.Ytconlneohilnmaa
namespace Go.Proofs.Ytconlneohilnmaa
open Go Go.RowKit Pl Sy
set_option linter.unusedVariables false
set_option linter.unusedSimpArgs false
theorem Sy.OwnEnd.frz {v : AV} {M' : Mem} {L : List TokV} (h : OwnEnd v M' L) (keep : Bool) : Frz keep 0 M' v (kv L) := by
  obtain ⟨b, n, cell, rfl, h1, h2⟩ := h
  obtain ⟨rfl, h3⟩ := h2
  refine Frz.own (Nat.zero_le _) h1 rfl (Nat.le_refl _) rfl fun i j hi hj => ?_
  dsimp only
  rw [h3 i j hi hj]
  exact Frz.lit _ _ _ _
def TokOk (p : PartV) : Prop := (p.cls.length ≤ 8 ∧ p.tests.length ≤ 8) ∧ (0 ≤ p.states ∧ p.states ≤ 7) ∧ limT ((partT p).length + 6)
theorem Sy.ptk_v (p : PartV) (h : TokOk p) : CallTo Try.prog 28 [partG p] M0 fun v _ => v = kv (partT p) :=
  CallTo.frz0 ((ptk_t p h.1.1 h.1.2 h.2.1 h.2.2).mono fun v M' hv => OwnEnd.frz hv true) ⟨partG_free p, trivial⟩ (kv_free _)
noncomputable abbrev Sy.cPtk (p : PartV) : Con Try.prog := at1 28 [partG p] (kv (partT p)) (TokOk p) fun h => ⟨⟨⟨partG_free p, trivial⟩, kv_free _⟩, ptk_v p h⟩
theorem Sy.WR.freezeL {w0 : World} {ρ : Rho} {M : Mem} {w : World} (h : WR w0 ρ M w) {b n s : Nat} {c : Option Nat} {B : Blk} {u : Value} (hb : M.get b = some B) (hr : rel ρ (.sl b 0 n c s) u) {cell : Nat → Nat → AV} (hc : ∀ i j, i < n → j < s → ∃ x : Value, B.cells[i * s + j]? = some (.lit x) ∧ cell i j = .lit x ∧ x.oneCell' = true) :
    ∃ ρ', Ext ρ ρ' ∧ WR w0 ρ' (M.put b none) w ∧ rel ρ' (.view n s cell) u := by
  simp only [rel] at hr
  obtain ⟨g, tot, cap, hg, rfl, h1, h2, h3, h4⟩ := hr
  obtain ⟨q2, cur, q3, q4, q5⟩ := h.holds hb hg
  let st : Nat → Nat → Option Value := fun g' o => if g' = g then w.cell? ⟨g', o, none⟩ else none
  have hE : Ext ρ (more ρ st) := ⟨fun _ _ h => h, fun _ h => h, fun g o v hv => by simp [more, hv], rfl, rfl⟩
  have hlt := Mem.get_lt hb
  have key : ∀ x C, (M.put b none).get x = some C → x ≠ b ∧ M.get x = some C := fun x C hx => by
    rcases Mem.get_put hlt hx with ⟨_, e⟩ | e
    · cases e
    · exact e
  refine ⟨more ρ st, hE, ⟨h.keep, h.dom, h.nild, fun x C g' t h1 h2 => ?_, fun x C h1 => h.has x C (key x C h1).2, fun x x' C C' g' t t' h1 h2 h3 h4 => h.inj x x' C C' g' t t' (key x C h1).2 (key x' C' h2).2 h3 h4, fun g' o v hv => ?_, fun g' o v hg1 hm hv => ?_, fun x C g' t h1 h2 o => ?_⟩, ?_⟩
  · obtain ⟨r2, c2, r3, r4, r5⟩ := h.holds (key x C h1).2 h2
    exact ⟨r2, c2, r3, r4, r5.ext hE⟩
  · simp only [more, Option.or_eq_some_iff] at hv
    rcases hv with hv | ⟨_, hv⟩
    · exact h.still g' o v hv
    · simp only [st] at hv
      split at hv
      · exact hv
      · cases hv
  · simp only [more, Option.or_eq_some_iff] at hv
    rcases hv with hv | ⟨_, hv⟩
    · exact h.first g' o v hg1 hm hv
    · simp only [st] at hv
      split at hv
      · rename_i e
        subst e
        have hm : ρ.mine g' = false := hm
        rcases q2 with q2 | q2
        · omega
        · rw [q2] at hm; cases hm
      · cases hv
  · simp only [more, Option.or_eq_none_iff]
    refine ⟨h.apart x C g' t (key x C h1).2 h2 o, ?_⟩
    simp only [st]
    rw [if_neg]
    intro e
    subst e
    exact (key x C h1).1 (h.inj x b C B g' t tot (key x C h1).2 hb h2 hg)
  · simp only [rel]
    refine ⟨_, cap, rfl, h1, h2, (fun h => by cases h), fun _ => ⟨g, 0, rfl, fun i j hi hj => ?_⟩⟩
    obtain ⟨x, e1, e2, e3⟩ := hc i j hi hj
    obtain ⟨y, e4, e5⟩ := q5.1 _ _ e1
    simp only [rel] at e5
    subst e5
    refine ⟨y, ?_, by rw [e2]; simp only [rel], e3⟩
    simp only [more, st, if_true]
    rw [cell_at q3, Nat.zero_add, e4]
    cases hs : ρ.still g (i * s + j) with
    | none => rfl
    | some z => rw [h.apart b B g tot hb hg] at hs; cases hs
theorem Sy.LoopTo.freezeL {P : Program} {body : Code} {m : Nat} {F : Fr} {M : Mem} {G : Ex → Fr → Mem → Prop} (t : Nat) {b n s : Nat} {c : Option Nat} {B : Blk} (ht : F[t]? = some (some (.sl b 0 n c s))) (hb : M.get b = some B) {cell : Nat → Nat → AV} (hc : ∀ i j, i < n → j < s → ∃ x : Value, B.cells[i * s + j]? = some (.lit x) ∧ cell i j = .lit x ∧ x.oneCell' = true)
    (h : LoopTo P body m (F.set t (some (.view n s cell))) (M.put b none) G) : LoopTo P body m F M G := fun w0 ρ a w Q hF hW hQ => by
  obtain ⟨ρ', h1, h2, h3⟩ := WR.freezeL hW hb (hF.val t _ ht) hc
  refine h w0 ρ' a w Q ⟨by rw [List.length_set]; exact hF.len, fun t' v hv => ?_, hF.defers⟩ h2 fun ex F' M' ρ2 a' w' hg q1 q2 q3 => hQ ex F' M' ρ2 a' w' hg (h1.trans q1) q2 q3
  rw [List.getElem?_set] at hv
  by_cases e1 : t = t'
  · subst e1
    simp only [if_true] at hv
    split at hv
    · simp at hv; subst hv; exact h3
    · cases hv
  · rw [if_neg e1] at hv
    exact (hF.val t' v hv).ext h1
def sgns : List ByteArray := [⟨⟨[]⟩⟩, ⟨⟨[]⟩⟩, ⟨⟨[62]⟩⟩, ⟨⟨[43]⟩⟩, ⟨⟨[126]⟩⟩]
def sgnAt (i : Nat) : ByteArray := sgns.getD i ⟨⟨[]⟩⟩
abbrev Sy.sgnV : AV := .view 5 1 fun i _ => .lit (.string (sgnAt i))
namespace Sy
abbrev qM (L : List TokV) : Mem := ⟨1, 0, [some (rowB L.length (kcell L))]⟩
abbrev toF (ss : List (List PartV)) (b n : Nat) (k : Int) : Fr := (some ((@AV.view (ss).length 1 (fun x870469 => (fun x25650 => (@AV.view ((ss.getD x870469 [])).length 6 (@pcell (ss.getD x870469 []))))))) :: none :: none :: some (.own b n 3) :: some (sgnV) :: some (int k) :: (nn10 (nn48 [])))
end Sy
namespace Sy
abbrev tiF (ss : List (List PartV)) (b n : Nat) (k q : Int) : Fr := (some ((@AV.view (ss).length 1 (fun x808569 => (fun x565036 => (@AV.view ((ss.getD x808569 [])).length 6 (@pcell (ss.getD x808569 []))))))) :: none :: none :: some (.own b n 3) :: some (sgnV) :: some (int k) :: some (int q) :: (nn9 (nn48 [])))
end Sy
def CombOk (q : Int) (c : Int) : Prop := (q = 0 → c = 0) ∧ (0 < q → 1 ≤ c ∧ c ≤ 4)
theorem sgn_eq (c : Int) (h2 : 2 ≤ c) (h4 : c ≤ 4) : sgnAt c.toNat = signS c := by
  have hc : c = 2 ∨ c = 3 ∨ c = 4 := by omega
  rcases hc with rfl | rfl | rfl <;> rfl
theorem Sy.qM_ren {M : Mem} {l : List Nat} {b n : Nat} {cell : Nat → Nat → AV} {L : List TokV} (hl : l = [b]) (h2 : M.get b = some (rowB n cell)) (hc : CellIs n cell L) : RenM (nm l) M (qM L) := by
  subst hl
  exact .of rfl rfl (by simp) ⟨⟨b, _, rfl, h2, rfl, trivial, hc.1.symm, rfl, fun i j hi hj => rowsAt hc _ hi hj⟩, trivial⟩
theorem Sy.sgnV_free : Free sgnV := fun i j => trivial
theorem Sy.tiF_ren (ss : List (List PartV)) (b b' n n' : Nat) (k q q' : Int) (σ : Nat → Option Nat) (h : q = q') (hn : n = n') (h1 : σ b' = some b) : RenF σ (tiF ss b n k q) (tiF ss b' n' k q') := by
  subst h hn
  simp only [RenF, and_true]
  exact ⟨RenV.free _ (sview_free ss), ⟨h1, rfl, rfl⟩, RenV.free _ sgnV_free, rfl, rfl⟩
theorem Sy.ti_step (ss : List (List PartV)) (k q : Int) (L : List TokV) (m : Nat) (G : Ex → Fr → Mem → Prop) (hk : inR k ss.length = true) (h8 : (ss.getD k.toNat []).length ≤ 8) (h0 : 0 ≤ q) (hq : q ≤ (ss.getD k.toNat []).length) (ho : q < (ss.getD k.toNat []).length → TokOk ((ss.getD k.toNat []).getD q.toNat partNone) ∧ CombOk q ((ss.getD k.toNat []).getD q.toNat partNone).comb) (hl : q < (ss.getD k.toNat []).length → limT (L.length + (3 + (partT ((ss.getD k.toNat []).getD q.toNat partNone)).length)))
    (c1 : q < (ss.getD k.toNat []).length → ∀ L', L' = L ++ (combT ((ss.getD k.toNat []).getD q.toNat partNone).comb ++ partT ((ss.getD k.toNat []).getD q.toNat partNone)) → LoopToT 0 Try.prog (theBody Try.prog 11 10) m (tiF ss 0 L'.length k (q + 1)) (qM L') G)
    (c2 : q = (ss.getD k.toNat []).length → G (.exit 2) (tiF ss 0 L.length k q) (qM L)) :
    LoopToT 0 Try.prog (theBody Try.prog 11 10) (m + 1) (tiF ss 0 L.length k q) (qM L) G := by
  refine roundT plain mixed 0 [cTok, cPtk ((ss.getD k.toNat []).getD q.toNat partNone)] [] 400 30 11 10 Try.func11 rfl (by kernel_rfl) (true :: false :: false :: true :: true :: true :: true :: (ff9 (ff48 []))) (.yes (.br (.yes (.yes (.br (.yes (.yes (.br (.yes (.yes (.yes (.yes (.yes (.yes .done)))))) (.yes (.yes .done))))) (.br (.yes (.yes (.yes (.yes (.yes (.yes .done)))))) (.yes (.yes .done)))))) .done)) (let e1 := (ss.getD (k).toNat []); let e2 := (int (20 : Int)); let e3 := (@ByteArray.mk (@Array.mk _ [])); let e4 := (@AV.lit (@Value.string e3)); let e5 := (@isSo (@And ((@HAppend.hAppend _ _ _ _ (@HAppend.hAppend _ _ _ _ [] [e2, e4]) []) = [e2, e4]) True)); let e6 := (@Nat.ble (L).length (L).length); let e7 := ((L).length + 1); let e8 := (e1.getD (q).toNat partNone); let e9 := (@AV.lit (@Value.string (@sgnAt ((e8).comb).toNat))); let e10 := (int (Int.ofNat 19)); let e11 := (@isSo (@And ((@HAppend.hAppend _ _ _ _ (@HAppend.hAppend _ _ _ _ [] [(int (19 : Int)), e9]) []) = [e10, e9]) True)); let e12 := (int (0 : Int)); let e13 := (@AV.lit (@Value.slice none 0 0)); let e14 := ((@pcell e1 (q).toNat 0) :: (@pcell e1 (q).toNat 1) :: (@pcell e1 (q).toNat 2) :: (@pcell e1 (q).toNat 3) :: (@pcell e1 (q).toNat 4) :: (@pcell e1 (q).toNat 5) :: (@List.drop _ (0 + ([(@pcell e1 (q).toNat 0), (@pcell e1 (q).toNat 1), (@pcell e1 (q).toNat 2), (@pcell e1 (q).toNat 3), (@pcell e1 (q).toNat 4), (@pcell e1 (q).toNat 5)]).length) [e12, e4, e4, e13, e13, e12])); let e15 := (@Value.tuple (@Array.mk _ [])); let e16 := (@isSo (@And ((@HAppend.hAppend _ _ _ _ (@HAppend.hAppend _ _ _ _ [] [(@AV.agg (@List.take _ 6 e14))]) []) = [(@AV.agg [(int (e8).comb), (@AV.lit (@Value.string (e8).tag)), (@AV.lit (@Value.string (e8).id)), (@AV.view ((e8).cls).length 1 (fun y0 => (fun y1 => (@AV.lit ([(@Value.string ((e8).cls.getD y0 e3))].getD y1 e15))))), (@AV.view ((e8).tests).length 3 (fun y0 => (fun y1 => (@AV.lit ([(@Value.string (((e8).tests.getD y0 testNone)).name), (@Value.bool (((e8).tests.getD y0 testNone)).equal), (@Value.string (((e8).tests.getD y0 testNone)).value)].getD y1 e15))))), (int (e8).states)])]) (@TokOk e8))); let e17 := ((e7 + 2) + ((@partT e8)).length); let e18 := (some (@AV.view (ss).length 1 (fun y0 => (fun y1 => (@AV.view ((ss.getD y0 [])).length 6 (@pcell (ss.getD y0 []))))))); let e19 := (((1 + 1) + 1) + 1); let e20 := (some (@AV.view 5 1 (fun y0 => (fun y1 => (@AV.lit (@Value.string (@sgnAt y0))))))); let e21 := (some (int k)); let e22 := (some (int (w64 (q + (1 : Int))))); let e23 := (((0 + 1) + 1) + 1); let e24 := (@Value.int IntKind.i64 (0 : Int)); let e25 := (@Array.toList _ (@Array.mk _ [e24, (@Value.string e3), e24])); let e26 := (e2 :: e4 :: e12 :: (@List.drop _ (0 + ([e2, e4, e12]).length) (@List.map _ _ AV.lit (@Array.toList _ (@Array.mk _ [(@List.get _ e25 (@Fin.mk _ 0 (@Nat.le_of_ble_eq_true _ _ (@Eq.refl _ true)))), (@List.get _ e25 (@Fin.mk _ 1 (@Nat.le_of_ble_eq_true _ _ (@Eq.refl _ true)))), (@List.get _ e25 (@Fin.mk _ 2 (@Nat.le_of_ble_eq_true _ _ (@Eq.refl _ true))))]))))); let e27 := (@appc (L).length (@kcell L) (fun y0 => (fun y1 => (@getA (@List.take _ 3 e26) ((y0 * 3) + y1))))); let e28 := (e10 :: e9 :: e12 :: e2 :: e4 :: e12 :: (@List.drop _ (3 + ([e2, e4, e12]).length) (e10 :: e9 :: e12 :: (@List.drop _ (0 + ([e10, e9, e12]).length) (@List.map _ _ AV.lit (@Array.toList _ (@Array.mk _ [(@List.get _ e25 (@Fin.mk _ 0 (@Nat.le_of_ble_eq_true _ _ (@Eq.refl _ true)))), (@List.get _ e25 (@Fin.mk _ 1 (@Nat.le_of_ble_eq_true _ _ (@Eq.refl _ true)))), (@List.get _ e25 (@Fin.mk _ 2 (@Nat.le_of_ble_eq_true _ _ (@Eq.refl _ true)))), (@List.get _ e25 (@Fin.mk _ 0 (@Nat.le_of_ble_eq_true _ _ (@Eq.refl _ true)))), (@List.get _ e25 (@Fin.mk _ 1 (@Nat.le_of_ble_eq_true _ _ (@Eq.refl _ true)))), (@List.get _ e25 (@Fin.mk _ 2 (@Nat.le_of_ble_eq_true _ _ (@Eq.refl _ true))))]))))))); let e29 := (fun y0 => (fun y1 => (@getA (@List.take _ 6 e28) ((y0 * 3) + y1)))); let e30 := (fun y0 => (fun y1 => (@AV.lit ([(@Value.int IntKind.i64 (((@partT e8).getD y0 tok0)).kind), (@Value.string (((@partT e8).getD y0 tok0)).text), (@Value.int IntKind.i64 (((@partT e8).getD y0 tok0)).n)].getD y1 e15)))); let e31 := (some (@Blk.mk e14 55 none)); let e32 := (e7 + ((@partT e8)).length); let e33 := ((L).length + 2); let e34 := (e33 + ((@partT e8)).length); let e35 := ((L).length + ((@partT e8)).length); (.need (@inR k (ss).length) (.fork (!(leI (((e1).length : Nat) : Int) q)) (.need (@inR k (ss).length) (.need (@inR q (e1).length) (.fork (!(leI q (0 : Int))) (.need e5 (.need (Bool.true && (e6 && ((@Nat.ble (e7 * 32) 140737488355328) && (@Nat.ble e7 17592186044416)))) (.fork (leI (2 : Int) (e8).comb) (.need (@inR (e8).comb 5) (.need e11 (.need e5 (.need (Bool.true && ((@Nat.ble e7 e7) && ((@Nat.ble ((e7 + 2) * 32) 140737488355328) && (@Nat.ble (e7 + 2) 17592186044416)))) (.need e16 (.need (Bool.true && ((@Nat.ble (e7 + 2) (e7 + 2)) && ((@Nat.ble (e17 * 32) 140737488355328) && (@Nat.ble e17 17592186044416)))) (.leaf (Ex.norm, ((e18 :: none :: none :: (some (@AV.own ((e19 + 1) + 1) e17 3)) :: e20 :: e21 :: e22 :: (nn9 (nn48 []))), (@Mem.mk (((e19 + 1) + 1) + 1) (e23 + 1) ((some (@Blk.mk [] 39 (some (@Rw.mk e17 3 (@appc (e7 + 2) (@appc e7 e27 e29) e30))))) :: (none :: ((some (@Blk.mk e28 39 none)) :: none :: ((some (@Blk.mk e26 39 none)) :: [e31, none])))))))))))))) (.need e16 (.need (Bool.true && ((@Nat.ble e7 e7) && ((@Nat.ble (e32 * 32) 140737488355328) && (@Nat.ble e32 17592186044416)))) (.leaf (Ex.norm, ((e18 :: none :: none :: (some (@AV.own e19 e32 3)) :: e20 :: e21 :: e22 :: (nn9 (nn48 []))), (@Mem.mk (e19 + 1) e23 ((some (@Blk.mk [] 39 (some (@Rw.mk e32 3 (@appc e7 e27 e30))))) :: (none :: ((some (@Blk.mk e26 39 none)) :: [e31, none])))))))))))) (.fork (leI (2 : Int) (e8).comb) (.need (@inR (e8).comb 5) (.need e11 (.need e5 (.need (Bool.true && (e6 && ((@Nat.ble (e33 * 32) 140737488355328) && (@Nat.ble e33 17592186044416)))) (.need e16 (.need (Bool.true && ((@Nat.ble e33 e33) && ((@Nat.ble (e34 * 32) 140737488355328) && (@Nat.ble e34 17592186044416)))) (.leaf (Ex.norm, ((e18 :: none :: none :: (some (@AV.own e19 e34 3)) :: e20 :: e21 :: e22 :: (nn9 (nn48 []))), (@Mem.mk (e19 + 1) e23 ((some (@Blk.mk [] 39 (some (@Rw.mk e34 3 (@appc e33 (@appc (L).length (@kcell L) e29) e30))))) :: (none :: ((some (@Blk.mk e28 39 none)) :: [e31, none]))))))))))))) (.need e16 (.need (Bool.true && (e6 && ((@Nat.ble (e35 * 32) 140737488355328) && (@Nat.ble e35 17592186044416)))) (.leaf (Ex.norm, ((e18 :: none :: none :: (some (@AV.own (1 + 1) e35 3)) :: e20 :: e21 :: e22 :: (nn9 (nn48 []))), (@Mem.mk ((1 + 1) + 1) ((0 + 1) + 1) ((some (@Blk.mk [] 39 (some (@Rw.mk e35 3 (@appc (L).length (@kcell L) e30))))) :: [e31, none]))))))))))) (.leaf ((@Ex.exit 2), ((e18 :: none :: none :: (some (@AV.own 0 (L).length 3)) :: e20 :: e21 :: (some (int q)) :: (nn9 (nn48 []))), (@Mem.mk 1 0 [(some (@Blk.mk [] 39 (some (@Rw.mk (L).length 3 (@kcell L)))))]))))))) (by kernel_rfl) ?_
  refine need_t hk (fork_ok (fun h1 => ?_) (fun h1 => ?_))
  · simp only [Bool.not_eq_true', Bool.not_eq_false', leI_t, leI_f, eqI_t, eqI_f, inR_t, inR_f, isSo_t, isSo_f] at h1
    have hlt : q < (ss.getD k.toNat []).length := by omega
    have hin : inR q (ss.getD k.toNat []).length = true := by rw [inR_t]; omega
    obtain ⟨o1, o2, o3⟩ := ho hlt
    have hl := hl hlt
    have c1 := c1 hlt _ rfl
    unfold limT at hl
    refine need_t hk (need_t hin (fork_ok (fun h2 => ?_) (fun h2 => ?_)))
    · simp only [Bool.not_eq_true', Bool.not_eq_false', leI_t, leI_f, eqI_t, eqI_f, inR_t, inR_f, isSo_t, isSo_f] at h2
      have o3 := o3 (by omega)
      refine need_so ⟨rfl, trivial⟩ (need_t (room_ok (by unfold limT; omega)) (fork_ok (fun h3 => ?_) (fun h3 => ?_)))
      · simp only [Bool.not_eq_true', Bool.not_eq_false', leI_t, leI_f, eqI_t, eqI_f, inR_t, inR_f, isSo_t, isSo_f] at h3
        have hc5 : inR ((ss.getD k.toNat []).getD q.toNat partNone).comb 5 = true := by rw [inR_t]; omega
        have e : combT ((ss.getD k.toNat []).getD q.toNat partNone).comb = [tk 20 ⟨#[]⟩, tk 19 (sgnAt ((ss.getD k.toNat []).getD q.toNat partNone).comb.toNat), tk 20 ⟨#[]⟩] := by
          unfold combT
          rw [if_neg (by omega), if_neg (by omega), sgn_eq _ h3 o3.2]
        rw [e] at c1
        refine need_t hc5 (need_so ⟨rfl, trivial⟩ (need_so ⟨rfl, trivial⟩ (need_t (room_ok (by unfold limT; omega)) (need_so ⟨rfl, o1⟩ (need_t (room_ok (by unfold limT; omega)) ?_)))))
        exact LoopToT.ren [6] rfl (tiF_ren ss 6 0 _ _ k _ _ _ (w64_in (by omega)) (by simp; omega) rfl) (qM_ren (b := 6) rfl rfl (CellIs.cast (CellIs.app3 (X := partT ((ss.getD k.toNat []).getD q.toNat partNone)) (CellIs.app3 (X := [tk 19 (sgnAt ((ss.getD k.toNat []).getD q.toNat partNone).comb.toNat), tk 20 ⟨#[]⟩]) (CellIs.app3 (X := [tk 20 ⟨#[]⟩]) (CellIs.kc L) rfl (fun i j hi hj => by
        rcases i with _ | i
        · rcases j with _ | _ | _ | j
          · exact rfl
          · exact rfl
          · exact rfl
          · omega
        · omega)) rfl (fun i j hi hj => by
        rcases i with _ | _ | i
        · rcases j with _ | _ | _ | j
          · exact rfl
          · exact rfl
          · exact rfl
          · omega
        · rcases j with _ | _ | _ | j
          · exact rfl
          · exact rfl
          · exact rfl
          · omega
        · omega)) rfl (fun i j _ _ => rfl)) (by simp))) c1
      · simp only [Bool.not_eq_true', Bool.not_eq_false', leI_t, leI_f, eqI_t, eqI_f, inR_t, inR_f, isSo_t, isSo_f] at h3
        have hc1 : ((ss.getD k.toNat []).getD q.toNat partNone).comb = 1 := by have h3 : ¬ 2 ≤ ((ss.getD k.toNat []).getD q.toNat partNone).comb := h3; omega
        have e : combT ((ss.getD k.toNat []).getD q.toNat partNone).comb = [tk 20 ⟨#[]⟩] := by rw [hc1]; rfl
        rw [e] at c1
        refine need_so ⟨rfl, o1⟩ (need_t (room_ok (by unfold limT; omega)) ?_)
        exact LoopToT.ren [4] rfl (tiF_ren ss 4 0 _ _ k _ _ _ (w64_in (by omega)) (by simp; omega) rfl) (qM_ren (b := 4) rfl rfl (CellIs.cast (CellIs.app3 (X := partT ((ss.getD k.toNat []).getD q.toNat partNone)) (CellIs.app3 (X := [tk 20 ⟨#[]⟩]) (CellIs.kc L) rfl (fun i j hi hj => by
        rcases i with _ | i
        · rcases j with _ | _ | _ | j
          · exact rfl
          · exact rfl
          · exact rfl
          · omega
        · omega)) rfl (fun i j _ _ => rfl)) (by simp))) c1
    · simp only [Bool.not_eq_true', Bool.not_eq_false', leI_t, leI_f, eqI_t, eqI_f, inR_t, inR_f, isSo_t, isSo_f] at h2
      have o2 := o2 (by omega)
      refine fork_ok (fun h3 => ?_) (fun h3 => ?_)
      · simp only [Bool.not_eq_true', Bool.not_eq_false', leI_t, leI_f, eqI_t, eqI_f, inR_t, inR_f, isSo_t, isSo_f] at h3
        have h3 : 2 ≤ ((ss.getD k.toNat []).getD q.toNat partNone).comb := h3
        exfalso; omega
      · have e : combT ((ss.getD k.toNat []).getD q.toNat partNone).comb = [] := by rw [o2]; rfl
        rw [e] at c1
        refine need_so ⟨rfl, o1⟩ (need_t (room_ok (by unfold limT; omega)) ?_)
        exact LoopToT.ren [2] rfl (tiF_ren ss 2 0 _ _ k _ _ _ (w64_in (by omega)) (by simp) rfl) (qM_ren (b := 2) rfl rfl (CellIs.cast (CellIs.app3 (X := partT ((ss.getD k.toNat []).getD q.toNat partNone)) (CellIs.kc L) rfl (fun i j _ _ => rfl)) (by simp))) c1
  · simp only [Bool.not_eq_true', Bool.not_eq_false', leI_t, leI_f, eqI_t, eqI_f, inR_t, inR_f, isSo_t, isSo_f] at h1
    exact c2 (by omega)
def PartsQ (ps : List PartV) : Prop := ps.length ≤ 8 ∧ ∀ q : Int, 0 ≤ q → q < ps.length → TokOk (ps.getD q.toNat partNone) ∧ CombOk q (ps.getD q.toNat partNone).comb
theorem Sy.ti_loop (ss : List (List PartV)) (k : Int) (hk : inR k ss.length = true) (hp : PartsQ (ss.getD k.toNat [])) : ∀ (l pre : List PartV) (q : Int) (L : List TokV), ss.getD k.toNat [] = pre ++ l → q = pre.length → limT (L.length + ((partsT l).length + 30)) →
    LoopToT 0 Try.prog (theBody Try.prog 11 10) (l.length + 1) (tiF ss 0 L.length k q) (qM L) fun ex F2 M2 => ex = .exit 2 ∧ F2 = tiF ss 0 (L ++ partsT l).length k (ss.getD k.toNat []).length ∧ M2 = qM (L ++ partsT l) := by
  intro l
  induction l with
  | nil =>
    intro pre q L h hq hl
    have hn : (ss.getD k.toNat []).length = pre.length := by rw [h]; simp
    exact ti_step ss k q L _ _ hk hp.1 (by omega) (by omega) (fun h1 => by omega) (fun h1 => by omega) (fun h1 => by omega) (fun h1 => by rw [show L ++ partsT [] = L by simp [partsT]]; exact ⟨rfl, by rw [h1], rfl⟩)
  | cons p l ih =>
    intro pre q L h hq hl
    have hn : (ss.getD k.toNat []).length = pre.length + l.length + 1 := by rw [h]; simp; omega
    have hg : (ss.getD k.toNat []).getD q.toNat partNone = p := by rw [h]; exact getD_at _ _ _ _ _ hq
    rw [partsT_cons] at hl
    unfold limT at hl
    simp only [List.length_append] at hl
    have hcl := combT_len p.comb
    refine ti_step ss k q L _ _ hk hp.1 (by omega) (by omega) (fun h1 => hp.2 q (by omega) h1) (fun h1 => by rw [hg]; unfold limT; omega) (fun h1 L' hL' => ?_) (fun h1 => by omega)
    rw [hg] at hL'
    have key := ih (pre ++ [p]) (q + 1) L' (by rw [h]; simp) (by simp; omega) (by rw [hL']; unfold limT; simp only [List.length_append]; omega)
    rw [show L' ++ partsT l = L ++ partsT (p :: l) by rw [hL', partsT_cons, List.append_assoc]] at key
    exact key
theorem Sy.loopQ_frame {P : Program} {body : Code} {m : Nat} {Fc Fc' F F' : Fr} {e : Ex} {L X : List TokV} (h : LoopToT 0 P body m Fc (qM L) fun ex F2 M2 => ex = e ∧ F2 = Fc' ∧ M2 = qM (L ++ X)) {M : Mem} {b n : Nat} {cell : Nat → Nat → AV}
    (hF : RenF (nm [b]) F Fc) (hF' : ∀ τ : Nat → Option Nat, τ M.top = some 0 → RenF τ Fc' F') (h1 : M.get b = some (rowB n cell)) (hc : CellIs n cell L) :
    LoopTo P body m F M fun ex F2 M2 => ex = e ∧ F2 = F' ∧ M2 = rRes M b n cell X := by
  have hn := hc.1
  have hbt := Mem.get_lt h1
  refine LoopToT.frame (σ := nm [b]) h hF (qM_ren rfl h1 hc) ?_ ?_
  · intro x c hx
    rcases x with _ | x
    · exact ⟨_, rfl⟩
    · cases hx
  · rintro ex F2 M2 ⟨rfl, rfl, rfl⟩
    have hlen : (L ++ X).length = n + X.length := by rw [List.length_append, hn]
    have tof : ∀ x c, (if x = M.top then some 0 else none : Option Nat) = some c → x = M.top ∧ c = 0 := fun x c hx => by
      split at hx
      · simp at hx; omega
      · cases hx
    refine ⟨fun x => if x = M.top then some 0 else none, F', _, ⟨rfl, rfl, rfl⟩, hF' _ (if_pos rfl), Nat.le_succ _, fun x c hx => ?_, fun x c hlt hx => ?_, fun x x' c hx hx' => ?_, fun x B' hx => ?_⟩
    · show x < M.top + 1
      have := tof x c hx; omega
    · have := tof x c hx; omega
    · have := tof x c hx
      have := tof x' c hx'
      omega
    · rcases rRes_get h1 hx with ⟨rfl, rfl⟩ | ⟨e1, e3, e4⟩
      · refine .inr ⟨0, _, if_pos rfl, rfl, rfl, trivial, hlen.symm, rfl, fun i j hi hj => ?_⟩
        dsimp only
        rw [(hc.app (CellIs.kc X)).2 i j hi hj]
        exact rfl
      · refine .inl ⟨e1, fun c hc => ?_, e4⟩
        rcases c with _ | c
        · have : some b = some x := hc
          simp at this; omega
        · cases hc
namespace Sy
structure RK where
  k : Int
  r : RX
noncomputable def rkGet (a t : Nat) (F : Fr) (M : Mem) : Option RK := match nth F a, nth F t with
  | some (some (.lit (.int .i64 k))), some (some v) => match rGet M v with
    | some x => some ⟨k, x⟩
    | none => none
  | _, _ => none
noncomputable def formK (a t : Nat) (form : RK → AV → Fr) (C : RK → Prop) (res : RK → Tr (Ex × Fr × Mem)) (p : List Bool) : Summ := fun F M => match rkGet a t F M with
  | some x => .need (isSo (maskF p F = form x x.r.v ∧ TokRows x.r.n x.r.cell ∧ x.r.m = x.r.n ∧ C x)) (res x)
  | none => .bad 23
theorem formK_ok {P : Program} {body : Code} {a t : Nat} {form : RK → AV → Fr} {C : RK → Prop} {res : RK → Tr (Ex × Fr × Mem)} {p : List Bool} (hget : ∀ x v, (form x v)[t]? = some (some v)) (hset : ∀ x v u, (form x v).set t (some u) = form x u) (h : ∀ (x : RK) (L : List TokV), x.r.M.get x.r.b = some (rowB x.r.n x.r.cell) → CellIs x.r.n x.r.cell L → C x → ∃ n, LoopTo P body n (form x (.own x.r.b x.r.n 3)) x.r.M fun ex F' M' => (res x).sel (ex, F', M')) : Sums P body (formK a t form C res p) := fun F M H hok => by
  unfold formK at hok
  cases hg : rkGet a t F M with
  | none => rw [hg] at hok; exact hok.elim
  | some x =>
    rw [hg] at hok
    obtain ⟨h1, h2⟩ := hok
    rw [isSo_t] at h1
    obtain ⟨hF, ⟨L, hL⟩, hm, hC⟩ := h1
    unfold rkGet at hg
    split at hg
    · rename_i k v q1 q2
      cases hr : rGet M v with
      | none => rw [hr] at hg; cases hg
      | some y =>
        rw [hr] at hg
        simp at hg
        subst hg
        obtain ⟨ev, g1, lift⟩ := LoopTo.rows hr
        simp only at hF hL hm hC
        rw [hm] at g1
        obtain ⟨n, hn⟩ := h ⟨k, y⟩ L g1 hL hC
        refine ⟨n, LoopTo.mask p ?_⟩
        rw [hF]
        refine lift t ?_ ?_
        · have h5 := hget ⟨k, y⟩ y.v
          rw [ev] at h5 ⊢
          exact h5
        · rw [hset]
          exact hn.mono fun ex F' M' hs => h2.of_sel hs
    · cases hg
abbrev tiG (ss : List (List PartV)) (x : RK) (v : AV) : Fr := (some ((@AV.view (ss).length 1 (fun x808569 => (fun x565036 => (@AV.view ((ss.getD x808569 [])).length 6 (@pcell (ss.getD x808569 []))))))) :: none :: none :: some (v) :: some (sgnV) :: some (int x.k) :: some (int 0) :: (nn9 (nn48 [])))
abbrev tiE (ss : List (List PartV)) (b n : Nat) (k : Int) : Fr := (some ((@AV.view (ss).length 1 (fun x808569 => (fun x565036 => (@AV.view ((ss.getD x808569 [])).length 6 (@pcell (ss.getD x808569 []))))))) :: none :: none :: some (.own b n 3) :: some (sgnV) :: some (int k) :: (nn10 (nn48 [])))
noncomputable abbrev lpTi (ss : List (List PartV)) (ps : List PartV) : Lp Try.prog where
  f := 11
  key := 10
  S := formK 5 3 (tiG ss) (fun x => ps = ss.getD x.k.toNat [] ∧ inR x.k ss.length = true ∧ PartsQ ps ∧ limT (x.r.n + ((partsT ps).length + 30))) (fun x => .leaf (.exit 2, tiE ss x.r.M.top (x.r.n + (partsT ps).length) x.k, rRes x.r.M x.r.b x.r.n x.r.cell (partsT ps))) (true :: false :: false :: true :: true :: true :: true :: (ff9 (ff48 [])))
  one := by kernel_rfl
  ok := formK_ok (fun x v => rfl) (fun x v u => rfl) fun x L h2 h4 ⟨h3, h5, h6, h7⟩ => by
    refine ⟨ps.length + 1, ?_⟩
    rw [h3] at h6 h7 ⊢
    have key := ti_loop ss x.k h5 h6 (ss.getD x.k.toNat []) [] 0 L rfl rfl (by rw [← h4.1]; exact h7)
    refine ((loopQ_frame key (F := tiF ss x.r.b x.r.n x.k 0) (F' := tiF ss x.r.M.top (x.r.n + (partsT (ss.getD x.k.toNat [])).length) x.k (ss.getD x.k.toNat []).length) (tiF_ren ss x.r.b 0 _ _ x.k _ _ _ rfl h4.1 rfl) (fun τ t0 => tiF_ren ss 0 x.r.M.top _ _ x.k _ _ τ rfl (by rw [List.length_append, h4.1]) t0) h2 h4).out (true :: false :: false :: true :: true :: true :: (ff10 (ff48 [])))).mono fun ex F M hg => ?_
    obtain ⟨F0, ⟨rfl, rfl, hM⟩, rfl⟩ := hg
    rw [hM]; rfl
end Sy
theorem Sy.toF_ren (ss : List (List PartV)) (b b' n n' : Nat) (k k' : Int) (σ : Nat → Option Nat) (h : k = k') (hn : n = n') (h1 : σ b' = some b) : RenF σ (toF ss b n k) (toF ss b' n' k') := by
  subst h hn
  simp only [RenF, and_true]
  exact ⟨RenV.free _ (sview_free ss), ⟨h1, rfl, rfl⟩, RenV.free _ sgnV_free, rfl⟩
theorem Sy.to_step (ss : List (List PartV)) (hs : ss.length ≤ 1000) (ho : ∀ ps ∈ ss, PartsQ ps) (k : Int) (L : List TokV) (m : Nat) (G : Ex → Fr → Mem → Prop) (h0 : 0 ≤ k) (hk : k ≤ ss.length) (hl : k < ss.length → limT (L.length + ((sepT k).length + ((partsT (ss.getD k.toNat [])).length + 30))))
    (c1 : k < ss.length → ∀ L', L' = L ++ (sepT k ++ partsT (ss.getD k.toNat [])) → LoopToT 0 Try.prog (theBody Try.prog 11 5) m (toF ss 0 L'.length (k + 1)) (qM L') G)
    (c2 : k = ss.length → G (.exit 0) (toF ss 0 L.length k) (qM L)) :
    LoopToT 0 Try.prog (theBody Try.prog 11 5) (m + 1) (toF ss 0 L.length k) (qM L) G := by
  refine roundT plain mixed 0 [cTok] [lpTi ss (ss.getD k.toNat [])] 400 30 11 5 Try.func11 rfl (by kernel_rfl) (true :: false :: false :: true :: true :: true :: (ff10 (ff48 []))) (.br (.br (.yes (.yes (.yes .done))) .done) .done) (let e1 := (int (12 : Int)); let e2 := (@Value.string (@ByteArray.mk (@Array.mk _ []))); let e3 := (@AV.lit e2); let e4 := (int (20 : Int)); let e5 := ((L).length + 2); let e6 := (some (@AV.view (ss).length 1 (fun y0 => (fun y1 => (@AV.view ((ss.getD y0 [])).length 6 (@pcell (ss.getD y0 []))))))); let e7 := (some (@AV.own (1 + 1) e5 3)); let e8 := (some (@AV.view 5 1 (fun y0 => (fun y1 => (@AV.lit (@Value.string (@sgnAt y0))))))); let e9 := (some (int k)); let e10 := (int (0 : Int)); let e11 := (@Value.int IntKind.i64 (0 : Int)); let e12 := (@Array.toList _ (@Array.mk _ [e11, e2, e11])); let e13 := (e1 :: e3 :: e10 :: e4 :: e3 :: e10 :: (@List.drop _ (3 + ([e4, e3, e10]).length) (e1 :: e3 :: e10 :: (@List.drop _ (0 + ([e1, e3, e10]).length) (@List.map _ _ AV.lit (@Array.toList _ (@Array.mk _ [(@List.get _ e12 (@Fin.mk _ 0 (@Nat.le_of_ble_eq_true _ _ (@Eq.refl _ true)))), (@List.get _ e12 (@Fin.mk _ 1 (@Nat.le_of_ble_eq_true _ _ (@Eq.refl _ true)))), (@List.get _ e12 (@Fin.mk _ 2 (@Nat.le_of_ble_eq_true _ _ (@Eq.refl _ true)))), (@List.get _ e12 (@Fin.mk _ 0 (@Nat.le_of_ble_eq_true _ _ (@Eq.refl _ true)))), (@List.get _ e12 (@Fin.mk _ 1 (@Nat.le_of_ble_eq_true _ _ (@Eq.refl _ true)))), (@List.get _ e12 (@Fin.mk _ 2 (@Nat.le_of_ble_eq_true _ _ (@Eq.refl _ true))))]))))))); let e14 := (@appc (L).length (@kcell L) (fun y0 => (fun y1 => (@getA (@List.take _ 6 e13) ((y0 * 3) + y1))))); let e15 := (ss.getD (k).toNat []); let e16 := ((@inR k (ss).length) = true); let e17 := (((@partsT e15)).length + 30); let e18 := (e5 + ((@partsT e15)).length); let e19 := (some (int (w64 (k + (1 : Int))))); let e20 := (some (@AV.own 0 (L).length 3)); let e21 := ((L).length + ((@partsT e15)).length); (.fork (!(leI (((ss).length : Nat) : Int) k)) (.fork (!(leI k (0 : Int))) (.need (@isSo (@And ((@HAppend.hAppend _ _ _ _ (@HAppend.hAppend _ _ _ _ [] [e1, e3]) []) = [e1, e3]) True)) (.need (@isSo (@And ((@HAppend.hAppend _ _ _ _ (@HAppend.hAppend _ _ _ _ [] [e4, e3]) []) = [e4, e3]) True)) (.need (Bool.true && ((@Nat.ble (L).length (L).length) && ((@Nat.ble (e5 * 32) 140737488355328) && (@Nat.ble e5 17592186044416)))) (.need (@isSo (@And ((e6 :: none :: none :: e7 :: e8 :: e9 :: (some e10) :: (nn9 (nn48 []))) = (e6 :: none :: none :: e7 :: e8 :: e9 :: (some e10) :: (nn9 (nn48 [])))) (@And (@TokRows e5 e14) (@And (e5 = e5) (@And (e15 = e15) (@And e16 (@And (@PartsQ e15) ((e5 + e17) ≤ 1000000)))))))) (.leaf (Ex.norm, ((e6 :: none :: none :: (some (@AV.own ((1 + 1) + 1) e18 3)) :: e8 :: e19 :: (nn10 (nn48 []))), (@Mem.mk (((1 + 1) + 1) + 1) ((0 + 1) + 1) ((some (@Blk.mk [] 39 (some (@Rw.mk e18 3 (@appc e5 e14 (@kcell (@partsT e15))))))) :: (none :: [(some (@Blk.mk e13 39 none)), none])))))))))) (.need (@isSo (@And ((e6 :: none :: none :: e20 :: e8 :: e9 :: (some e10) :: (nn9 (nn48 []))) = (e6 :: none :: none :: e20 :: e8 :: e9 :: (some e10) :: (nn9 (nn48 [])))) (@And (@TokRows (L).length (@kcell L)) (@And ((L).length = (L).length) (@And (e15 = e15) (@And e16 (@And (@PartsQ e15) (((L).length + e17) ≤ 1000000)))))))) (.leaf (Ex.norm, ((e6 :: none :: none :: (some (@AV.own 1 e21 3)) :: e8 :: e19 :: (nn10 (nn48 []))), (@Mem.mk (1 + 1) (0 + 1) ((some (@Blk.mk [] 39 (some (@Rw.mk e21 3 (@appc (L).length (@kcell L) (@kcell (@partsT e15))))))) :: [none]))))))) (.leaf ((@Ex.exit 0), ((e6 :: none :: none :: e20 :: e8 :: e9 :: (nn10 (nn48 []))), (@Mem.mk 1 0 [(some (@Blk.mk [] 39 (some (@Rw.mk (L).length 3 (@kcell L)))))])))))) (by kernel_rfl) ?_
  refine fork_ok (fun h1 => ?_) (fun h1 => ?_)
  · simp only [Bool.not_eq_true', Bool.not_eq_false', leI_t, leI_f, eqI_t, eqI_f, inR_t, inR_f, isSo_t, isSo_f] at h1
    have hlt : k < ss.length := by omega
    have hl := hl hlt
    have c1 := c1 hlt _ rfl
    unfold limT at hl
    have hin : inR k ss.length = true := by rw [inR_t]; omega
    have hp := ho _ (getD_mem ss k [] h0 hlt)
    refine fork_ok (fun h2 => ?_) (fun h2 => ?_)
    · simp only [Bool.not_eq_true', Bool.not_eq_false', leI_t, leI_f, eqI_t, eqI_f, inR_t, inR_f, isSo_t, isSo_f] at h2
      have es : sepT k = [tk 12 ⟨#[]⟩, tk 20 ⟨#[]⟩] := by unfold sepT; rw [if_neg (by omega)]
      rw [es] at hl c1
      simp only [List.length_cons, List.length_nil] at hl
      refine need_so ⟨rfl, trivial⟩ (need_so ⟨rfl, trivial⟩ (need_t (room_ok (by unfold limT; omega)) (need_so ⟨rfl, ⟨_, CellIs.app3 (X := [tk 12 ⟨#[]⟩, tk 20 ⟨#[]⟩]) (CellIs.kc L) rfl (fun i j hi hj => by
        rcases i with _ | _ | i
        · rcases j with _ | _ | _ | j
          · exact rfl
          · exact rfl
          · exact rfl
          · omega
        · rcases j with _ | _ | _ | j
          · exact rfl
          · exact rfl
          · exact rfl
          · omega
        · omega)⟩, rfl, rfl, hin, hp, (by (try unfold limT); (try simp only [List.length_cons, List.length_nil] at *); omega)⟩ ?_)))
      exact LoopToT.ren [3] rfl (toF_ren ss 3 0 _ _ _ _ _ (w64_in (by omega)) (by simp; omega) rfl) (qM_ren (b := 3) rfl rfl (CellIs.cast (CellIs.app2 (CellIs.app3 (X := [tk 12 ⟨#[]⟩, tk 20 ⟨#[]⟩]) (CellIs.kc L) rfl (fun i j hi hj => by
        rcases i with _ | _ | i
        · rcases j with _ | _ | _ | j
          · exact rfl
          · exact rfl
          · exact rfl
          · omega
        · rcases j with _ | _ | _ | j
          · exact rfl
          · exact rfl
          · exact rfl
          · omega
        · omega)) rfl) (by simp))) c1
    · simp only [Bool.not_eq_true', Bool.not_eq_false', leI_t, leI_f, eqI_t, eqI_f, inR_t, inR_f, isSo_t, isSo_f] at h2
      have es : sepT k = [] := by unfold sepT; rw [if_pos (by omega)]
      rw [es] at hl c1
      simp only [List.length_nil] at hl
      refine need_so ⟨rfl, TokRows.kc L, rfl, rfl, hin, hp, (by (try unfold limT); (try simp only [List.length_cons, List.length_nil] at *); omega)⟩ ?_
      exact LoopToT.ren [1] rfl (toF_ren ss 1 0 _ _ _ _ _ (w64_in (by omega)) (by simp) rfl) (qM_ren (b := 1) rfl rfl (CellIs.cast (CellIs.app2 (CellIs.kc _) rfl) (by simp))) c1
  · simp only [Bool.not_eq_true', Bool.not_eq_false', leI_t, leI_f, eqI_t, eqI_f, inR_t, inR_f, isSo_t, isSo_f] at h1
    exact c2 (by omega)
theorem Sy.to_loop (ss : List (List PartV)) (hs : ss.length ≤ 1000) (ho : ∀ ps ∈ ss, PartsQ ps) : ∀ (l pre : List (List PartV)) (k : Int) (L : List TokV), ss = pre ++ l → k = pre.length → limT (L.length + ((selsT k l).length + 30)) →
    LoopToT 0 Try.prog (theBody Try.prog 11 5) (l.length + 1) (toF ss 0 L.length k) (qM L) fun ex F2 M2 => ex = .exit 0 ∧ F2 = toF ss 0 (L ++ selsT k l).length ss.length ∧ M2 = qM (L ++ selsT k l) := by
  intro l
  induction l with
  | nil =>
    intro pre k L h hk hl
    have hn : ss.length = pre.length := by rw [h]; simp
    exact to_step ss hs ho k L _ _ (by omega) (by omega) (fun h1 => by omega) (fun h1 => by omega) (fun h1 => by rw [show L ++ selsT k [] = L by simp [selsT]]; exact ⟨rfl, by rw [h1], rfl⟩)
  | cons ps l ih =>
    intro pre k L h hk hl
    have hn : ss.length = pre.length + l.length + 1 := by rw [h]; simp; omega
    have hg : ss.getD k.toNat [] = ps := by rw [h]; exact getD_at _ _ _ _ _ hk
    have e : selsT k (ps :: l) = sepT k ++ partsT ps ++ selsT (k + 1) l := rfl
    rw [e] at hl
    unfold limT at hl
    simp only [List.length_append] at hl
    refine to_step ss hs ho k L _ _ (by omega) (by omega) (fun h1 => by rw [hg]; unfold limT; omega) (fun h1 L' hL' => ?_) (fun h1 => by omega)
    rw [hg] at hL'
    have key := ih (pre ++ [ps]) (k + 1) L' (by rw [h]; simp) (by simp; omega) (by rw [hL']; unfold limT; simp only [List.length_append]; omega)
    rw [show L' ++ selsT (k + 1) l = L ++ selsT k (ps :: l) by rw [hL', e, List.append_assoc]] at key
    exact key
namespace Sy
abbrev sgB : Blk := ⟨[.lit (.string ⟨⟨[]⟩⟩), .lit (.string ⟨⟨[]⟩⟩), .lit (.string ⟨⟨[62]⟩⟩), .lit (.string ⟨⟨[43]⟩⟩), .lit (.string ⟨⟨[126]⟩⟩)], 9, none⟩
abbrev toG (ss : List (List PartV)) : Fr := (some ((@AV.view (ss).length 1 (fun x870469 => (fun x25650 => (@AV.view ((ss.getD x870469 [])).length 6 (@pcell (ss.getD x870469 []))))))) :: none :: none :: some ((@AV.lit (@Value.slice none 0 0))) :: some ((@AV.sl 0 0 5 (some 5) 1)) :: some (int 0) :: (nn10 (nn48 [])))
abbrev toE (ss : List (List PartV)) (b n : Nat) : Fr := (some ((@AV.view (ss).length 1 (fun x870469 => (fun x25650 => (@AV.view ((ss.getD x870469 [])).length 6 (@pcell (ss.getD x870469 []))))))) :: none :: none :: some (.own b n 3) :: (nn12 (nn48 [])))
noncomputable abbrev lpTo (ss : List (List PartV)) : Lp Try.prog where
  f := 11
  key := 5
  S := formS (fun F M => some M.stamp) (fun _ => toG ss) (fun s => ⟨1, s, [some sgB]⟩) (fun _ => ss.length ≤ 1000 ∧ (∀ ps ∈ ss, PartsQ ps) ∧ limT ((selsT 0 ss).length + 30)) (fun s => .leaf (.exit 0, toE ss 2 (0 + (selsT 0 ss).length), rRes ⟨2, s + 1, [some (rowB 0 (kcell [])), none]⟩ 1 0 (kcell []) (selsT 0 ss))) (true :: false :: false :: true :: true :: true :: (ff10 (ff48 [])))
  one := by kernel_rfl
  ok := formS_ok fun s ⟨h1, h2, h3⟩ => by
    refine ⟨ss.length + 1, ?_⟩
    have key := to_loop ss h1 h2 ss [] 0 [] rfl rfl (by unfold limT at *; simp only [List.length_nil]; omega)
    have k2 : LoopTo Try.prog (theBody Try.prog 11 5) (ss.length + 1) (toF ss 1 0 0) ⟨2, s + 1, [some (rowB 0 (kcell [])), none]⟩ _ := loopQ_frame key (b := 1) (F' := toF ss 2 (0 + (selsT 0 ss).length) ss.length) (toF_ren ss 1 0 _ _ _ _ _ rfl rfl rfl) (fun τ t0 => toF_ren ss 0 2 _ _ _ _ τ rfl (by simp) t0) rfl (CellIs.kc [])
    have k3 : LoopTo Try.prog (theBody Try.prog 11 5) (ss.length + 1) (toG ss) ⟨1, s, [some sgB]⟩ _ := LoopTo.freezeL (cell := fun i _ => .lit (.string (sgnAt i))) 4 rfl (B := sgB) rfl (fun i j hi hj => by
      obtain rfl : j = 0 := by omega
      rcases i with _ | _ | _ | _ | _ | i
      · exact ⟨_, rfl, rfl, rfl⟩
      · exact ⟨_, rfl, rfl, rfl⟩
      · exact ⟨_, rfl, rfl, rfl⟩
      · exact ⟨_, rfl, rfl, rfl⟩
      · exact ⟨_, rfl, rfl, rfl⟩
      · omega) (LoopToT.to (T := 1) (LoopToT.nil 3 39 3 (kcell []) (Nat.le_refl _) rfl (k2.toT 1)) (Nat.le_refl _))
    refine (k3.out (true :: false :: false :: true :: (ff12 (ff48 [])))).mono fun ex F M hg => ?_
    obtain ⟨F0, ⟨rfl, rfl, hM⟩, rfl⟩ := hg
    rw [hM]; rfl
end Sy
theorem Sy.tks_t (ss : List (List PartV)) (h1 : ss.length ≤ 1000) (h2 : ∀ ps ∈ ss, PartsQ ps) (h3 : limT ((selsT 0 ss).length + 30)) : CallTo Try.prog 11 [sview ss] M0 fun v M' => OwnEnd v M' (selsT 0 ss) :=
  to (G := fun r => OwnEnd r.1 r.2 (selsT 0 ss)) [cTok] [lpTo ss] 400 30 .done (let e1 := (some (@AV.view (ss).length 1 (fun y0 => (fun y1 => (@AV.view ((ss.getD y0 [])).length 6 (@pcell (ss.getD y0 []))))))); let e2 := (some (@AV.lit (@Value.slice none 0 0))); let e3 := (some (@AV.sl 0 0 5 (some 5) 1)); let e4 := (@Value.string (@ByteArray.mk (@Array.mk _ []))); let e5 := (@AV.lit e4); let e6 := (@AV.lit (@Value.string (@ByteArray.mk (@Array.mk _ [(62 : UInt8)])))); let e7 := (@AV.lit (@Value.string (@ByteArray.mk (@Array.mk _ [(43 : UInt8)])))); let e8 := (0 + ((@selsT (0 : Int) ss)).length); (.need (@isSo (@And ((e1 :: (none :: none :: e2 :: e3 :: (some (int (0 : Int))) :: (nn10 (nn48 [])))) = (e1 :: none :: none :: e2 :: e3 :: (some (int (0 : Int))) :: (nn10 (nn48 [])))) ((@Mem.mk 1 0 [(some (@Blk.mk (e5 :: e5 :: e6 :: e7 :: (@AV.lit (@Value.string (@ByteArray.mk (@Array.mk _ [(126 : UInt8)])))) :: (@List.drop _ 5 (e5 :: e5 :: e6 :: e7 :: (@List.drop _ 4 (e5 :: e5 :: e6 :: (@List.drop _ 3 (e5 :: e5 :: (@List.drop _ 2 (e5 :: (@List.drop _ 1 (@List.map _ _ AV.lit (@Array.toList _ (@Array.mk _ [(@List.get _ (@Array.toList _ (@Array.mk _ [e4])) (@Fin.mk _ 0 (@Nat.le_of_ble_eq_true _ _ (@Eq.refl _ true)))), (@List.get _ (@Array.toList _ (@Array.mk _ [e4])) (@Fin.mk _ 0 (@Nat.le_of_ble_eq_true _ _ (@Eq.refl _ true)))), (@List.get _ (@Array.toList _ (@Array.mk _ [e4])) (@Fin.mk _ 0 (@Nat.le_of_ble_eq_true _ _ (@Eq.refl _ true)))), (@List.get _ (@Array.toList _ (@Array.mk _ [e4])) (@Fin.mk _ 0 (@Nat.le_of_ble_eq_true _ _ (@Eq.refl _ true)))), (@List.get _ (@Array.toList _ (@Array.mk _ [e4])) (@Fin.mk _ 0 (@Nat.le_of_ble_eq_true _ _ (@Eq.refl _ true))))]))))))))))))) 9 none))]) = (@Mem.mk 1 0 [(some sgB)])))) (.need (@isSo (@And ((ss).length ≤ 1000) (@And (∀ (ps : List PartV), ps ∈ ss → PartsQ ps) ((((@selsT (0 : Int) ss)).length + 30) ≤ 1000000)))) (.leaf ((@AV.own 2 e8 3), (@Mem.mk 3 2 [(some (@Blk.mk [] 39 (some (@Rw.mk e8 3 (@appc 0 (@kcell []) (@kcell (@selsT (0 : Int) ss))))))), none, none])))))) (by kernel_rfl) (need_so ⟨rfl, rfl⟩ (need_so ⟨h1, h2, h3⟩ ⟨_, _, _, rfl, rfl, CellIs.cast (CellIs.app2 (CellIs.kc []) rfl) (by simp)⟩))
end Go.Proofs.Ytconlneohilnmaa
namespace Go.Proofs.Ytconlneohilnmaa
open Go Go.RowKit Pl Sy
set_option linter.unusedVariables false
set_option linter.unusedSimpArgs false
theorem wrong_no {p : PartV} (h : wrongB p = false) : (0 ≤ p.states ∧ p.states ≤ 7) ∧ (p.cls.length ≤ 8 ∧ p.tests.length ≤ 8) := by
  unfold wrongB at h
  simp only [Bool.or_eq_false_iff, Bool.not_eq_false', leI_t] at h
  omega
theorem right_of {xs : List PartV} (h : rightB xs = true) : (xs.length ≠ 0 ∧ xs.length ≤ 8) ∧ (∀ p ∈ xs, wrongB p = false) ∧ ∀ k, k < xs.length → CombOk k (xs.getD k partNone).comb := by
  unfold rightB at h
  simp only [Bool.and_eq_true, Bool.not_eq_true', eqI_f, leI_t] at h
  obtain ⟨h1, h2, h3, h4⟩ := h
  refine ⟨⟨by omega, by omega⟩, fun p hp => ?_, fun k hk => ?_⟩
  · unfold anyP at h3
    rw [List.any_eq_false] at h3
    simpa using h3 p hp
  · have h5 : combs xs k = false := by
      unfold anyN at h4
      rw [List.any_eq_false] at h4
      simpa using h4 k (List.mem_range.2 hk)
    unfold combs combB at h5
    refine ⟨fun e => ?_, fun e => ?_⟩
    · rw [if_pos (by omega)] at h5
      simp only [Bool.not_eq_false', eqI_t] at h5
      exact h5
    · rw [if_neg (by omega)] at h5
      simp only [Bool.or_eq_false_iff, Bool.not_eq_false', leI_t] at h5
      exact h5
theorem testsT_len2 : ∀ l : List TestV, (testsT l).length ≤ 5 * l.length
  | [] => by simp [testsT]
  | t :: l => by
    have := testsT_len2 l
    have h := testT_len t
    show ((t :: l).flatMap testT).length ≤ _
    rw [List.flatMap_cons, List.length_append]
    unfold testsT at this
    simp only [List.length_cons]
    omega
theorem partT_le {p : PartV} (h : p.cls.length ≤ 8 ∧ p.tests.length ≤ 8) : (partT p).length ≤ 70 := by
  have h1 : (bodyT p).length ≤ 70 := by
    unfold bodyT
    have a1 : (tagT p).length ≤ 1 := by unfold tagT; split <;> simp
    have a2 : (idT p).length ≤ 1 := by unfold idT; split <;> simp
    have a3 := clssT_len p.cls
    have a4 := testsT_len2 p.tests
    have a5 := stateT_len p.states 1 wRoot
    have a6 := stateT_len p.states 2 wFirst
    have a7 := stateT_len p.states 4 wLast
    simp only [List.length_append]
    omega
  unfold partT
  split
  · simp
  · exact h1
theorem combT_le (c : Int) : (combT c).length ≤ 3 := by
  unfold combT
  split
  · simp
  · split <;> simp
theorem partsT_le : ∀ (ps : List PartV), (∀ p ∈ ps, wrongB p = false) → (partsT ps).length ≤ 73 * ps.length
  | [], _ => by simp [partsT]
  | p :: l, h => by
    have h1 := partsT_le l (fun q hq => h q (by simp [hq]))
    have h2 := partT_le (wrong_no (h p (by simp))).2
    have h3 := combT_le p.comb
    rw [partsT_cons, List.length_append, List.length_append, List.length_cons]
    omega
theorem selsT_le : ∀ (ss : List (List PartV)) (k : Int), (∀ ps ∈ ss, rightB ps = true) → (selsT k ss).length ≤ 600 * ss.length
  | [], _, _ => by simp [selsT]
  | ps :: l, k, h => by
    have h1 := selsT_le l (k + 1) (fun q hq => h q (by simp [hq]))
    obtain ⟨⟨_, r1⟩, r2, _⟩ := right_of (h ps (by simp))
    have h2 := partsT_le ps r2
    have h3 : (sepT k).length ≤ 2 := by unfold sepT; split <;> simp
    show (sepT k ++ partsT ps ++ selsT (k + 1) l).length ≤ _
    rw [List.length_append, List.length_append, List.length_cons]
    omega
theorem putsOk_of {ps : List PartV} (h : rightB ps = true) : PutsOk ps := by
  obtain ⟨⟨_, r1⟩, r2, r3⟩ := right_of h
  refine ⟨r1, fun p hp => ⟨(wrong_no (r2 p hp)).2, ?_⟩⟩
  obtain ⟨k, hk, rfl⟩ := List.getElem_of_mem hp
  have h4 := r3 k hk
  rw [List.getD_eq_getElem?_getD, List.getElem?_eq_getElem hk] at h4
  simp only [Option.getD_some] at h4
  obtain ⟨q1, q2⟩ := h4
  rcases Nat.eq_zero_or_pos k with e | e
  · have := q1 (by omega); omega
  · have := q2 (by omega); omega
theorem partsQ_of {ps : List PartV} (h : rightB ps = true) : PartsQ ps := by
  obtain ⟨⟨_, r1⟩, r2, r3⟩ := right_of h
  refine ⟨r1, fun q h0 hq => ?_⟩
  have hm := getD_mem ps q partNone h0 hq
  have w := wrong_no (r2 _ hm)
  have l := partT_le w.2
  refine ⟨⟨w.2, w.1, by unfold limT; omega⟩, ?_⟩
  have := r3 q.toNat (by omega)
  rw [show ((q.toNat : Nat) : Int) = q by omega] at this
  exact this
def allR (ss : List (List PartV)) : Bool := !eqI ss.length 0 && !anyQ unrightB ss
def printT (ss : List (List PartV)) : List TokV := if allR ss = true then selsT 0 ss else []
def printE (ss : List (List PartV)) : Int := if allR ss = true then 0 else 20
theorem anyQ_no {ss : List (List PartV)} (h : anyQ unrightB ss = false) : ∀ ps ∈ ss, rightB ps = true := fun ps hp => by
  unfold anyQ at h
  rw [List.any_eq_false] at h
  have := h ps hp
  unfold unrightB at this
  simpa using this
theorem Sy.print_f (ss : List (List PartV)) (h : SelsR ss) (hn : ss.length ≤ 20) : CallTo Try.prog 7 [sview ss] M0 fun v M' => Frz true 0 M' v (.tup [kv (printT ss), int (printE ss)]) :=
  to (G := fun r => Frz true 0 r.2 r.1 (.tup [kv (printT ss), int (printE ss)])) [cAnySel ss] [lpPri ss] 400 30 (.br (.auto 0 (.yes (.auto 0 (.br .done .done)))) (.auto 2 .done)) (let e1 := (@AV.view (ss).length 1 (fun y0 => (fun y1 => (@AV.view ((ss.getD y0 [])).length 6 (@pcell (ss.getD y0 [])))))); let e2 := (@AV.lit (@Value.slice none 0 0)); let e3 := (some (int (((ss).length : Nat) : Int))); let e4 := (some (@Blk.mk [e2] 50 none)); let e5 := (@AV.own 1 ((@selsT (0 : Int) ss)).length 3); (.fork (!(eqI (((ss).length : Nat) : Int) (0 : Int))) (.need (@isSo (@And ((@HAppend.hAppend _ _ _ _ (@HAppend.hAppend _ _ _ _ [] [e1, (@AV.fn (@Fn.func 18) [] [])]) []) = [e1, (@AV.fn (@Fn.func 18) [] [])]) (@And ((ss).length ≤ 17592186044416) (∀ (ps : List PartV), ps ∈ ss → PartsOk ps)))) (.fork (@anyQ unrightB ss) (.leaf ((@AV.tup [e2, (int (20 : Int))]), (@Mem.mk 0 0 []))) (.need (@isSo (@And ((none :: (none :: none :: none :: (some (@AV.ptr 0 0)) :: (nn13 ((some e1) :: e3 :: (some (int (0 : Int))) :: (nn30 []))))) = (none :: none :: none :: none :: (some (@AV.ptr 0 0)) :: (nn13 ((some e1) :: e3 :: (some (int (Int.ofNat 0))) :: (nn30 []))))) ((@Mem.mk (0 + 1) 0 [e4]) = (@Mem.mk 1 0 [e4])))) (.need (@isSo (@And (@And ((ss).length ≤ 1000) (@And (∀ (ps : List PartV), ps ∈ ss → PutsOk ps) (((@selsT (0 : Int) ss)).length ≤ 1000000))) ((Int.ofNat 0) = (0 : Int)))) (.leaf ((@AV.tup [e5, (int (0 : Int))]), (@Mem.mk 2 0 [(some (@Blk.mk [] 39 (some (@Rw.mk ((@selsT (0 : Int) ss)).length 3 (@kcell (@selsT (0 : Int) ss)))))), (some (@Blk.mk [e5] 50 none))]))))))) (.leaf ((@AV.tup [e2, (int (20 : Int))]), (@Mem.mk 0 0 []))))) (by kernel_rfl) (by
    unfold printT printE
    refine fork_ok (fun h1 => need_so ⟨rfl, h⟩ (fork_ok (fun h2 => ?_) (fun h2 => ?_))) (fun h1 => ?_)
    · have e : allR ss = false := by unfold allR; rw [h2]; simp
      rw [if_neg (nt e), if_neg (nt e)]
      exact Frz.tup ⟨Frz.nil _ _ _ _ _, Frz.lit _ _ _ _, trivial⟩
    · have e : allR ss = true := by
        unfold allR; rw [h2, show (!eqI (ss.length : Int) 0) = true from h1]; rfl
      have r := anyQ_no h2
      have hl := selsT_le ss 0 r
      rw [if_pos e, if_pos e]
      refine need_so ⟨rfl, rfl⟩ (need_so ⟨⟨by omega, fun ps hp => putsOk_of (r ps hp), by first | (unfold limT; omega) | omega⟩, rfl⟩ ?_)
      exact Frz.tup ⟨Frz.own (b := 1) (by decide) rfl rfl (Nat.le_refl _) rfl fun i j _ _ => Frz.free _ _ trivial, Frz.lit _ _ _ _, trivial⟩
    · have e : allR ss = false := by
        unfold allR; rw [show (!eqI (ss.length : Int) 0) = false from h1]; rfl
      rw [if_neg (nt e), if_neg (nt e)]
      exact Frz.tup ⟨Frz.nil _ _ _ _ _, Frz.lit _ _ _ _, trivial⟩)
theorem Sy.print_v (ss : List (List PartV)) (h : SelsR ss) (hn : ss.length ≤ 20) : CallTo Try.prog 7 [sview ss] M0 fun v _ => v = .tup [kv (printT ss), int (printE ss)] :=
  CallTo.frz0 (print_f ss h hn) ⟨sview_free ss, trivial⟩ ⟨kv_free _, trivial, trivial⟩
noncomputable abbrev Sy.cPrint (ss : List (List PartV)) : Con Try.prog := at1 7 [sview ss] (.tup [kv (printT ss), int (printE ss)]) (SelsR ss ∧ ss.length ≤ 20) fun h => ⟨⟨⟨sview_free ss, trivial⟩, ⟨kv_free _, trivial, trivial⟩⟩, print_v ss h.1 h.2⟩
theorem Sy.tks_v (ss : List (List PartV)) (hn : ss.length ≤ 20) (h : ∀ ps ∈ ss, rightB ps = true) : CallTo Try.prog 11 [sview ss] M0 fun v _ => v = kv (selsT 0 ss) :=
  CallTo.frz0 ((tks_t ss (by omega) (fun ps hp => partsQ_of (h ps hp)) (by have := selsT_le ss 0 h; unfold limT; omega)).mono fun v M' hv => OwnEnd.frz hv true) ⟨sview_free ss, trivial⟩ (kv_free _)
noncomputable abbrev Sy.cTks (ss : List (List PartV)) : Con Try.prog := at1 11 [sview ss] (kv (selsT 0 ss)) (ss.length ≤ 20 ∧ ∀ ps ∈ ss, rightB ps = true) fun h => ⟨⟨⟨sview_free ss, trivial⟩, kv_free _⟩, tks_v ss h.1 h.2⟩
end Go.Proofs.Ytconlneohilnmaa
namespace Go.Proofs.Ytconlneohilnmaa
open Go Go.RowKit Pl Sy
set_option linter.unusedVariables false
set_option linter.unusedSimpArgs false
namespace Sy
abbrev slmF (xs ys : List (List PartV)) (k : Int) : Fr := (some ((@AV.view (xs).length 1 (fun x824286 => (fun x152863 => (@AV.view ((xs.getD x824286 [])).length 6 (@pcell (xs.getD x824286 []))))))) :: some ((@AV.view (ys).length 1 (fun x35083 => (fun x751408 => (@AV.view ((ys.getD x35083 [])).length 6 (@pcell (ys.getD x35083 []))))))) :: none :: none :: some ((boo false)) :: some (int k) :: (nn21 []))
abbrev alF (xs : List (List PartV)) (k : Int) : Fr := (some ((@AV.view (xs).length 1 (fun x946680 => (fun x237755 => (@AV.view ((xs.getD x946680 [])).length 6 (@pcell (xs.getD x946680 []))))))) :: none :: some ((boo false)) :: some (int k) :: (nn15 []))
abbrev tsF (xs ys : List TokV) (k : Int) : Fr := (some ((@AV.view (xs).length 3 (fun x988362 => (fun x824286 => (@AV.lit ([(@Value.int IntKind.i64 ((xs.getD x988362 tok0)).kind), (@Value.string ((xs.getD x988362 tok0)).text), (@Value.int IntKind.i64 ((xs.getD x988362 tok0)).n)].getD x824286 (@Value.tuple (@Array.mk _ [])))))))) :: some ((@AV.view (ys).length 3 (fun x152863 => (fun x35083 => (@AV.lit ([(@Value.int IntKind.i64 ((ys.getD x152863 tok0)).kind), (@Value.string ((ys.getD x152863 tok0)).text), (@Value.int IntKind.i64 ((ys.getD x152863 tok0)).n)].getD x35083 (@Value.tuple (@Array.mk _ [])))))))) :: none :: none :: some ((boo false)) :: some (int k) :: (nn20 []))
end Sy
def diffQ (xs ys : List (List PartV)) (i : Nat) : Bool := !sameL (xs.getD i []) (ys.getD i [])
def eqK (x y : TokV) : Bool := eqI x.kind y.kind && (bytesEq x.text.data.toList y.text.data.toList && (eqI x.n y.n && true))
def diffK (xs ys : List TokV) (i : Nat) : Bool := !eqK (xs.getD i tok0) (ys.getD i tok0)
theorem Sy.rsl_scan (xs ys : List (List PartV)) (hl : eqI xs.length ys.length = true) (hx : SelsR xs) : LoopTo Try.prog (theBody Try.prog 12 5) (xs.length + 1) (slmF xs ys 0) M0 fun ex F' M' => M' = M0 ∧ ((0 ≤ idxN (diffQ xs ys) xs.length ∧ ex = .ret ∧ F' = slmF xs ys (idxN (diffQ xs ys) xs.length)) ∨ (idxN (diffQ xs ys) xs.length = -1 ∧ ex = .exit 0 ∧ F' = slmF xs ys xs.length)) :=
  scanN xs.length (diffQ xs ys) (fun k => slmF xs ys k) (fun k => slmF xs ys k) M0 fun k n G h0 h1 c1 c2 c3 => by
    refine roundL [c_so (xs.getD k.toNat []) (ys.getD k.toNat [])] [] 400 30 12 5 Try.func12 rfl (by kernel_rfl) (true :: true :: false :: false :: true :: true :: (ff21 [])) (.br (.yes (.yes (.yes (.br .done .done)))) .done) (let e1 := (xs.getD (k).toNat []); let e2 := (@AV.agg [(@AV.view (e1).length 6 (@pcell e1))]); let e3 := (ys.getD (k).toNat []); let e4 := (@AV.agg [(@AV.view (e3).length 6 (@pcell e3))]); let e5 := (some (@AV.view (xs).length 1 (fun y0 => (fun y1 => (@AV.view ((xs.getD y0 [])).length 6 (@pcell (xs.getD y0 []))))))); let e6 := (some (@AV.view (ys).length 1 (fun y0 => (fun y1 => (@AV.view ((ys.getD y0 [])).length 6 (@pcell (ys.getD y0 []))))))); (.fork (!(leI (((xs).length : Nat) : Int) k)) (.need (@inR k (xs).length) (.need (@inR k (ys).length) (.need (@isSo (@And ((@HAppend.hAppend _ _ _ _ (@HAppend.hAppend _ _ _ _ [] [e2, e4]) []) = [e2, e4]) (@And ((e1).length ≤ 17592186044416) (∀ (p : PartV), p ∈ xs.getD k.toNat [] → PartOk p)))) (.fork (!(@sameL e1 e3)) (.leaf (Ex.ret, ((e5 :: e6 :: none :: none :: (some (boo false)) :: (some (int k)) :: (nn21 [])), (@Mem.mk 0 0 [])))) (.leaf (Ex.norm, ((e5 :: e6 :: none :: none :: (some (boo false)) :: (some (int (w64 (k + (1 : Int))))) :: (nn21 [])), (@Mem.mk 0 0 [])))))))) (.leaf ((@Ex.exit 0), ((e5 :: e6 :: none :: none :: (some (boo false)) :: (some (int k)) :: (nn21 [])), (@Mem.mk 0 0 [])))))) (by kernel_rfl) ?_
    rw [eqI_t] at hl
    have hm : xs.length ≤ 17592186044416 := hx.1
    refine fork_ok (fun h => ?_) (fun h => ?_)
    · simp only [Bool.not_eq_true', Bool.not_eq_false', leI_t, leI_f, eqI_t, eqI_f, inR_t, inR_f, isSo_t, isSo_f] at h
      have hr : inR k xs.length = true := by rw [inR_t]; omega
      have hr2 : inR k ys.length = true := by rw [inR_t]; omega
      refine need_t hr (need_t hr2 (need_so ⟨rfl, hx.2 _ (getD_mem xs k _ h0 (by omega))⟩ (fork_ok (fun h2 => c2 (by omega) h2) (fun h2 => ?_))))
      rw [w64_in (r := k + 1) (by omega)]
      exact c1 (by omega) h2
    · simp only [Bool.not_eq_true', Bool.not_eq_false', leI_t, leI_f, eqI_t, eqI_f, inR_t, inR_f, isSo_t, isSo_f] at h
      exact c3 (by omega)
namespace Sy
noncomputable abbrev lp_rsl (xs ys : List (List PartV)) : Lp Try.prog where
  f := 12
  key := 5
  S := formS (fun F M => slotI F 5) (fun k => slmF xs ys k) (fun _ => M0) (fun k => (eqI xs.length ys.length = true ∧ SelsR xs) ∧ k = 0) (fun k => .fork (anyN (diffQ xs ys) xs.length) (.leaf (.ret, (some ((@AV.view (xs).length 1 (fun x824286 => (fun x152863 => (@AV.view ((xs.getD x824286 [])).length 6 (@pcell (xs.getD x824286 []))))))) :: some ((@AV.view (ys).length 1 (fun x35083 => (fun x751408 => (@AV.view ((ys.getD x35083 [])).length 6 (@pcell (ys.getD x35083 []))))))) :: none :: none :: some ((boo false)) :: (nn22 [])), M0)) (.leaf (.exit 0, (some ((@AV.view (xs).length 1 (fun x824286 => (fun x152863 => (@AV.view ((xs.getD x824286 [])).length 6 (@pcell (xs.getD x824286 []))))))) :: some ((@AV.view (ys).length 1 (fun x35083 => (fun x751408 => (@AV.view ((ys.getD x35083 [])).length 6 (@pcell (ys.getD x35083 []))))))) :: none :: none :: some ((boo false)) :: (nn22 [])), M0))) (true :: true :: false :: false :: true :: true :: (ff21 []))
  one := by kernel_rfl
  ok := formS_ok fun k ⟨h1, h2⟩ => by
    subst h2
    refine ⟨xs.length + 1, ?_⟩
    refine ((Sy.rsl_scan xs ys h1.1 h1.2).out (true :: true :: false :: false :: true :: (ff22 []))).mono fun ex F M hg => ?_
    obtain ⟨F0, ⟨hM, hg⟩, rfl⟩ := hg
    rcases hg with ⟨q1, rfl, rfl⟩ | ⟨q1, rfl, rfl⟩
    · exact .inl ⟨by rw [← anyN_idx, leI_t]; exact q1, by rw [hM]; rfl⟩
    · exact .inr ⟨by rw [← anyN_idx, leI_f, q1]; omega, by rw [hM]; rfl⟩
end Sy
theorem Sy.rsl_t (xs ys : List (List PartV)) (hx : SelsR xs) : CallTo Try.prog 12 [sview xs, sview ys] M0 fun v _ => v = boo (eqI xs.length ys.length && !anyN (diffQ xs ys) xs.length) :=
  toV [] [lp_rsl xs ys] 400 30 (.br .done (.br .done .done)) (let e1 := (eqI (((xs).length : Nat) : Int) (((ys).length : Nat) : Int)); let e2 := (some (@AV.view (xs).length 1 (fun y0 => (fun y1 => (@AV.view ((xs.getD y0 [])).length 6 (@pcell (xs.getD y0 []))))))); let e3 := (some (@AV.view (ys).length 1 (fun y0 => (fun y1 => (@AV.view ((ys.getD y0 [])).length 6 (@pcell (ys.getD y0 []))))))); (.fork (!e1) (.leaf (boo false)) (.need (@isSo (@And ((e2 :: e3 :: (none :: none :: (some (boo false)) :: (some (int (0 : Int))) :: (nn21 []))) = (e2 :: e3 :: none :: none :: (some (boo false)) :: (some (int (0 : Int))) :: (nn21 []))) ((@Mem.mk 0 0 []) = M0))) (.need (@isSo (@And (@And (e1 = true) (@SelsR xs)) ((0 : Int) = (0 : Int)))) (.fork (@anyN (@diffQ xs ys) (xs).length) (.leaf (boo false)) (.leaf (boo true))))))) (by kernel_rfl) (by
    refine fork_ok (fun h => ?_) (fun h => need_so ⟨rfl, rfl⟩ (need_so ⟨⟨by simpa using h, hx⟩, rfl⟩ (fork_ok (fun h2 => ?_) (fun h2 => ?_))))
    · simp only [Bool.not_eq_true'] at h
      rw [h]; exact rfl
    · rw [h2]; refine leaf_boo ?_; simp
    · rw [h2]; refine leaf_boo ?_; simpa using h)
theorem Sy.tsm_scan (xs ys : List TokV) (hl : eqI xs.length ys.length = true) (hx : xs.length ≤ 17592186044416) : LoopTo Try.prog (theBody Try.prog 10 5) (xs.length + 1) (tsF xs ys 0) M0 fun ex F' M' => M' = M0 ∧ ((0 ≤ idxN (diffK xs ys) xs.length ∧ ex = .ret ∧ F' = tsF xs ys (idxN (diffK xs ys) xs.length)) ∨ (idxN (diffK xs ys) xs.length = -1 ∧ ex = .exit 0 ∧ F' = tsF xs ys xs.length)) :=
  scanN xs.length (diffK xs ys) (fun k => tsF xs ys k) (fun k => tsF xs ys k) M0 fun k n G h0 h1 c1 c2 c3 => by
    refine roundL [] [] 400 30 10 5 Try.func10 rfl (by kernel_rfl) (true :: true :: false :: false :: true :: true :: (ff20 [])) (.br (.yes (.yes (.br .done .done))) .done) (let e1 := (@Value.tuple (@Array.mk _ [])); let e2 := (some (@AV.view (xs).length 3 (fun y0 => (fun y1 => (@AV.lit ([(@Value.int IntKind.i64 ((xs.getD y0 tok0)).kind), (@Value.string ((xs.getD y0 tok0)).text), (@Value.int IntKind.i64 ((xs.getD y0 tok0)).n)].getD y1 e1)))))); let e3 := (some (@AV.view (ys).length 3 (fun y0 => (fun y1 => (@AV.lit ([(@Value.int IntKind.i64 ((ys.getD y0 tok0)).kind), (@Value.string ((ys.getD y0 tok0)).text), (@Value.int IntKind.i64 ((ys.getD y0 tok0)).n)].getD y1 e1)))))); (.fork (!(leI (((xs).length : Nat) : Int) k)) (.need (@inR k (xs).length) (.need (@inR k (ys).length) (.fork (!((eqI ((xs.getD (k).toNat tok0)).kind ((ys.getD (k).toNat tok0)).kind) && ((@bytesEq (@Array.toList _ (@ByteArray.data ((xs.getD (k).toNat tok0)).text)) (@Array.toList _ (@ByteArray.data ((ys.getD (k).toNat tok0)).text))) && ((eqI ((xs.getD (k).toNat tok0)).n ((ys.getD (k).toNat tok0)).n) && true)))) (.leaf (Ex.ret, ((e2 :: e3 :: none :: none :: (some (boo false)) :: (some (int k)) :: (nn20 [])), (@Mem.mk 0 0 [])))) (.leaf (Ex.norm, ((e2 :: e3 :: none :: none :: (some (boo false)) :: (some (int (w64 (k + (1 : Int))))) :: (nn20 [])), (@Mem.mk 0 0 []))))))) (.leaf ((@Ex.exit 0), ((e2 :: e3 :: none :: none :: (some (boo false)) :: (some (int k)) :: (nn20 [])), (@Mem.mk 0 0 [])))))) (by kernel_rfl) ?_
    rw [eqI_t] at hl
    have hm : xs.length ≤ 17592186044416 := hx
    refine fork_ok (fun h => ?_) (fun h => ?_)
    · simp only [Bool.not_eq_true', Bool.not_eq_false', leI_t, leI_f, eqI_t, eqI_f, inR_t, inR_f, isSo_t, isSo_f] at h
      have hr : inR k xs.length = true := by rw [inR_t]; omega
      have hr2 : inR k ys.length = true := by rw [inR_t]; omega
      refine need_t hr (need_t hr2 ((fork_ok (fun h2 => c2 (by omega) h2) (fun h2 => ?_))))
      rw [w64_in (r := k + 1) (by omega)]
      exact c1 (by omega) h2
    · simp only [Bool.not_eq_true', Bool.not_eq_false', leI_t, leI_f, eqI_t, eqI_f, inR_t, inR_f, isSo_t, isSo_f] at h
      exact c3 (by omega)
namespace Sy
noncomputable abbrev lp_tsm (xs ys : List TokV) : Lp Try.prog where
  f := 10
  key := 5
  S := formS (fun F M => slotI F 5) (fun k => tsF xs ys k) (fun _ => M0) (fun k => (eqI xs.length ys.length = true ∧ xs.length ≤ 17592186044416) ∧ k = 0) (fun k => .fork (anyN (diffK xs ys) xs.length) (.leaf (.ret, (some ((@AV.view (xs).length 3 (fun x988362 => (fun x824286 => (@AV.lit ([(@Value.int IntKind.i64 ((xs.getD x988362 tok0)).kind), (@Value.string ((xs.getD x988362 tok0)).text), (@Value.int IntKind.i64 ((xs.getD x988362 tok0)).n)].getD x824286 (@Value.tuple (@Array.mk _ [])))))))) :: some ((@AV.view (ys).length 3 (fun x152863 => (fun x35083 => (@AV.lit ([(@Value.int IntKind.i64 ((ys.getD x152863 tok0)).kind), (@Value.string ((ys.getD x152863 tok0)).text), (@Value.int IntKind.i64 ((ys.getD x152863 tok0)).n)].getD x35083 (@Value.tuple (@Array.mk _ [])))))))) :: none :: none :: some ((boo false)) :: (nn21 [])), M0)) (.leaf (.exit 0, (some ((@AV.view (xs).length 3 (fun x988362 => (fun x824286 => (@AV.lit ([(@Value.int IntKind.i64 ((xs.getD x988362 tok0)).kind), (@Value.string ((xs.getD x988362 tok0)).text), (@Value.int IntKind.i64 ((xs.getD x988362 tok0)).n)].getD x824286 (@Value.tuple (@Array.mk _ [])))))))) :: some ((@AV.view (ys).length 3 (fun x152863 => (fun x35083 => (@AV.lit ([(@Value.int IntKind.i64 ((ys.getD x152863 tok0)).kind), (@Value.string ((ys.getD x152863 tok0)).text), (@Value.int IntKind.i64 ((ys.getD x152863 tok0)).n)].getD x35083 (@Value.tuple (@Array.mk _ [])))))))) :: none :: none :: some ((boo false)) :: (nn21 [])), M0))) (true :: true :: false :: false :: true :: true :: (ff20 []))
  one := by kernel_rfl
  ok := formS_ok fun k ⟨h1, h2⟩ => by
    subst h2
    refine ⟨xs.length + 1, ?_⟩
    refine ((Sy.tsm_scan xs ys h1.1 h1.2).out (true :: true :: false :: false :: true :: (ff21 []))).mono fun ex F M hg => ?_
    obtain ⟨F0, ⟨hM, hg⟩, rfl⟩ := hg
    rcases hg with ⟨q1, rfl, rfl⟩ | ⟨q1, rfl, rfl⟩
    · exact .inl ⟨by rw [← anyN_idx, leI_t]; exact q1, by rw [hM]; rfl⟩
    · exact .inr ⟨by rw [← anyN_idx, leI_f, q1]; omega, by rw [hM]; rfl⟩
end Sy
theorem Sy.tsm_t (xs ys : List TokV) (hx : xs.length ≤ 17592186044416) : CallTo Try.prog 10 [kv xs, kv ys] M0 fun v _ => v = boo (eqI xs.length ys.length && !anyN (diffK xs ys) xs.length) :=
  toV [] [lp_tsm xs ys] 400 30 (.br .done (.br .done .done)) (let e1 := (eqI (((xs).length : Nat) : Int) (((ys).length : Nat) : Int)); let e2 := (@Value.tuple (@Array.mk _ [])); let e3 := (some (@AV.view (xs).length 3 (fun y0 => (fun y1 => (@AV.lit ([(@Value.int IntKind.i64 ((xs.getD y0 tok0)).kind), (@Value.string ((xs.getD y0 tok0)).text), (@Value.int IntKind.i64 ((xs.getD y0 tok0)).n)].getD y1 e2)))))); let e4 := (some (@AV.view (ys).length 3 (fun y0 => (fun y1 => (@AV.lit ([(@Value.int IntKind.i64 ((ys.getD y0 tok0)).kind), (@Value.string ((ys.getD y0 tok0)).text), (@Value.int IntKind.i64 ((ys.getD y0 tok0)).n)].getD y1 e2)))))); (.fork (!e1) (.leaf (boo false)) (.need (@isSo (@And ((e3 :: e4 :: (none :: none :: (some (boo false)) :: (some (int (0 : Int))) :: (nn20 []))) = (e3 :: e4 :: none :: none :: (some (boo false)) :: (some (int (0 : Int))) :: (nn20 []))) ((@Mem.mk 0 0 []) = M0))) (.need (@isSo (@And (@And (e1 = true) ((xs).length ≤ 17592186044416)) ((0 : Int) = (0 : Int)))) (.fork (@anyN (@diffK xs ys) (xs).length) (.leaf (boo false)) (.leaf (boo true))))))) (by kernel_rfl) (by
    refine fork_ok (fun h => ?_) (fun h => need_so ⟨rfl, rfl⟩ (need_so ⟨⟨by simpa using h, hx⟩, rfl⟩ (fork_ok (fun h2 => ?_) (fun h2 => ?_))))
    · simp only [Bool.not_eq_true'] at h
      rw [h]; exact rfl
    · rw [h2]; refine leaf_boo ?_; simp
    · rw [h2]; refine leaf_boo ?_; simpa using h)
theorem Sy.al7_scan (xs : List (List PartV)) (hx : SelsR xs) : LoopTo Try.prog (theBody Try.prog 8 3) (xs.length + 1) (alF xs 0) M0 fun ex F' M' => M' = M0 ∧ ((0 ≤ idxN (fun i => !rrightB (xs.getD i [])) xs.length ∧ ex = .ret ∧ F' = alF xs (idxN (fun i => !rrightB (xs.getD i [])) xs.length)) ∨ (idxN (fun i => !rrightB (xs.getD i [])) xs.length = -1 ∧ ex = .exit 0 ∧ F' = alF xs xs.length)) :=
  scanN xs.length (fun i => !rrightB (xs.getD i [])) (fun k => alF xs k) (fun k => alF xs k) M0 fun k n G h0 h1 c1 c2 c3 => by
    refine roundL [cRightR (xs.getD k.toNat [])] [] 400 30 8 3 Try.func8 rfl (by kernel_rfl) (true :: false :: true :: true :: (ff15 [])) (.br (.yes (.yes (.br .done .done))) .done) (let e1 := (xs.getD (k).toNat []); let e2 := (@AV.agg [(@AV.view (e1).length 6 (@pcell e1))]); let e3 := (some (@AV.view (xs).length 1 (fun y0 => (fun y1 => (@AV.view ((xs.getD y0 [])).length 6 (@pcell (xs.getD y0 []))))))); (.fork (!(leI (((xs).length : Nat) : Int) k)) (.need (@inR k (xs).length) (.need (@isSo (@And ((@HAppend.hAppend _ _ _ _ (@HAppend.hAppend _ _ _ _ [] [e2]) []) = [e2]) (@And ((e1).length ≤ 17592186044416) (∀ (p : PartV), p ∈ xs.getD k.toNat [] → PartOk p)))) (.fork (!(@rrightB e1)) (.leaf (Ex.ret, ((e3 :: none :: (some (boo false)) :: (some (int k)) :: (nn15 [])), (@Mem.mk 0 0 [])))) (.leaf (Ex.norm, ((e3 :: none :: (some (boo false)) :: (some (int (w64 (k + (1 : Int))))) :: (nn15 [])), (@Mem.mk 0 0 []))))))) (.leaf ((@Ex.exit 0), ((e3 :: none :: (some (boo false)) :: (some (int k)) :: (nn15 [])), (@Mem.mk 0 0 [])))))) (by kernel_rfl) ?_
    have hm : xs.length ≤ 17592186044416 := hx.1
    refine fork_ok (fun h => ?_) (fun h => ?_)
    · simp only [Bool.not_eq_true', Bool.not_eq_false', leI_t, leI_f, eqI_t, eqI_f, inR_t, inR_f, isSo_t, isSo_f] at h
      have hr : inR k xs.length = true := by rw [inR_t]; omega
      refine need_t hr (need_so ⟨rfl, hx.2 _ (getD_mem xs k _ h0 (by omega))⟩ (fork_ok (fun h2 => c2 (by omega) h2) (fun h2 => ?_)))
      rw [w64_in (r := k + 1) (by omega)]
      exact c1 (by omega) h2
    · simp only [Bool.not_eq_true', Bool.not_eq_false', leI_t, leI_f, eqI_t, eqI_f, inR_t, inR_f, isSo_t, isSo_f] at h
      exact c3 (by omega)
def anyU (xs : List (List PartV)) : Bool := anyN (fun i => !rrightB (xs.getD i [])) xs.length
namespace Sy
noncomputable abbrev lp_al7 (xs : List (List PartV)) : Lp Try.prog where
  f := 8
  key := 3
  S := formS (fun F M => slotI F 3) (fun k => alF xs k) (fun _ => M0) (fun k => SelsR xs ∧ k = 0) (fun k => .fork (anyU xs) (.leaf (.ret, (some ((@AV.view (xs).length 1 (fun x946680 => (fun x237755 => (@AV.view ((xs.getD x946680 [])).length 6 (@pcell (xs.getD x946680 []))))))) :: none :: some ((boo false)) :: (nn16 [])), M0)) (.leaf (.exit 0, (some ((@AV.view (xs).length 1 (fun x946680 => (fun x237755 => (@AV.view ((xs.getD x946680 [])).length 6 (@pcell (xs.getD x946680 []))))))) :: none :: some ((boo false)) :: (nn16 [])), M0))) (true :: false :: true :: true :: (ff15 []))
  one := by kernel_rfl
  ok := formS_ok fun k ⟨h1, h2⟩ => by
    subst h2
    refine ⟨xs.length + 1, ?_⟩
    refine ((Sy.al7_scan xs h1).out (true :: false :: true :: (ff16 []))).mono fun ex F M hg => ?_
    obtain ⟨F0, ⟨hM, hg⟩, rfl⟩ := hg
    rcases hg with ⟨q1, rfl, rfl⟩ | ⟨q1, rfl, rfl⟩
    · exact .inl ⟨by unfold anyU; rw [← anyN_idx, leI_t]; exact q1, by rw [hM]; rfl⟩
    · exact .inr ⟨by unfold anyU; rw [← anyN_idx, leI_f, q1]; omega, by rw [hM]; rfl⟩
end Sy
theorem Sy.al7_t (xs : List (List PartV)) (hx : SelsR xs) : CallTo Try.prog 8 [sview xs] M0 fun v _ => v = boo (!anyU xs && !leI xs.length 0) :=
  toV [] [lp_al7 xs] 400 30 (.br .done .done) (.need (@isSo (@And (((some (@AV.view (xs).length 1 (fun x936359 => (fun x525902 => (@AV.view ((xs.getD x936359 [])).length 6 (@pcell (xs.getD x936359 []))))))) :: (none :: (some (boo false)) :: (some (int (0 : Int))) :: (nn15 []))) = ((some (@AV.view (xs).length 1 (fun x614722 => (fun x422705 => (@AV.view ((xs.getD x614722 [])).length 6 (@pcell (xs.getD x614722 []))))))) :: none :: (some (boo false)) :: (some (int (0 : Int))) :: (nn15 []))) ((@Mem.mk 0 0 []) = M0))) (.need (@isSo (@And (@SelsR xs) ((0 : Int) = (0 : Int)))) (.fork (@anyU xs) (.leaf (boo false)) (.leaf (boo (!(leI (((xs).length : Nat) : Int) (0 : Int)))))))) (by kernel_rfl) (by
    refine need_so ⟨rfl, rfl⟩ (need_so ⟨hx, rfl⟩ (fork_ok (fun h2 => ?_) (fun h2 => ?_)))
    · rw [h2]; refine leaf_boo ?_; simp
    · rw [h2]; refine leaf_boo ?_; simp)
def sameQ (xs ys : List (List PartV)) : Bool := eqI xs.length ys.length && !anyN (diffQ xs ys) xs.length
def sameK (xs ys : List TokV) : Bool := eqI xs.length ys.length && !anyN (diffK xs ys) xs.length
def all7 (xs : List (List PartV)) : Bool := !anyU xs && !leI xs.length 0
noncomputable abbrev Sy.cSameQ (xs ys : List (List PartV)) : Con Try.prog := at1 12 [sview xs, sview ys] (boo (sameQ xs ys)) (SelsR xs) fun h => ⟨⟨⟨sview_free xs, sview_free ys, trivial⟩, trivial⟩, rsl_t xs ys h⟩
noncomputable abbrev Sy.cSameK (xs ys : List TokV) : Con Try.prog := at1 10 [kv xs, kv ys] (boo (sameK xs ys)) (xs.length ≤ 17592186044416) fun h => ⟨⟨⟨kv_free xs, kv_free ys, trivial⟩, trivial⟩, tsm_t xs ys h⟩
noncomputable abbrev Sy.cAll7 (xs : List (List PartV)) : Con Try.prog := at1 8 [sview xs] (boo (all7 xs)) (SelsR xs) fun h => ⟨⟨⟨sview_free xs, trivial⟩, trivial⟩, al7_t xs h⟩
theorem eqI_self (a : Int) : eqI a a = true := by rw [eqI_t]
theorem diff_no {g : Nat → Bool} {n : Nat} (h : ∀ i, g i = false) : anyN g n = false := (anyN_no g n).2 fun k _ => h k
theorem sameS_refl (xs : List ByteArray) : sameS xs xs = true := by
  unfold sameS
  rw [eqI_self, diff_no (fun i => by unfold diffS; rw [bytesEq_eq]; simp)]; rfl
theorem eqT_refl (t : TestV) : eqT t t = true := by unfold eqT; simp [bytesEq_eq]
theorem sameT_refl (xs : List TestV) : sameT xs xs = true := by
  unfold sameT
  rw [eqI_self, diff_no (fun i => by unfold diffT; rw [eqT_refl]; rfl)]; rfl
theorem sameP_refl (p : PartV) : sameP p p = true := by
  unfold sameP
  rw [eqI_self, eqI_self, sameS_refl, sameT_refl, bytesEq_eq, bytesEq_eq]; simp
theorem sameL_refl (xs : List PartV) : sameL xs xs = true := by
  unfold sameL
  rw [eqI_self, diff_no (fun i => by unfold diffP; rw [sameP_refl]; rfl)]; rfl
theorem sameQ_refl (xs : List (List PartV)) : sameQ xs xs = true := by
  unfold sameQ
  rw [eqI_self, diff_no (fun i => by unfold diffQ; rw [sameL_refl]; rfl)]; rfl
theorem sameK_refl (xs : List TokV) : sameK xs xs = true := by
  unfold sameK
  rw [eqI_self, diff_no (fun i => by unfold diffK eqK; rw [eqI_self, eqI_self, bytesEq_eq]; simp)]; rfl
theorem all7_eq (xs : List (List PartV)) : all7 xs = allR xs := by
  have e : anyU xs = anyQ unrightB xs := by
    rw [Bool.eq_iff_iff]
    unfold anyU
    rw [anyN_iff]
    unfold anyQ
    rw [List.any_eq_true]
    constructor
    · rintro ⟨k, hk, h⟩
      refine ⟨xs[k], List.getElem_mem hk, ?_⟩
      rw [List.getD_eq_getElem?_getD, List.getElem?_eq_getElem hk] at h
      unfold unrightB
      rw [right_eq]; exact h
    · rintro ⟨x, hx, h⟩
      obtain ⟨k, hk, rfl⟩ := List.getElem_of_mem hx
      refine ⟨k, hk, ?_⟩
      rw [List.getD_eq_getElem?_getD, List.getElem?_eq_getElem hk]
      unfold unrightB at h
      rw [right_eq] at h; exact h
  unfold all7 allR
  rw [e, Bool.and_comm]
  congr 1
  rw [Bool.eq_iff_iff, Bool.not_eq_true', Bool.not_eq_true', leI_f, eqI_f]
  omega
end Go.Proofs.Ytconlneohilnmaa
namespace Go.Proofs.Ytconlneohilnmaa
open Go Go.RowKit Pl Sy
set_option linter.unusedVariables false
set_option linter.unusedSimpArgs false
theorem getD_pre (pre : List TokV) (t : TokV) (post : List TokV) : (pre ++ t :: post).getD pre.length tok0 = t := by
  rw [List.getD_eq_getElem?_getD, List.getElem?_append_right (Nat.le_refl _), Nat.sub_self]; rfl
def At (T : List TokV) (a : Int) (t : TokV) : Prop := 0 ≤ a ∧ a < T.length ∧ T.getD a.toNat tok0 = t
theorem At.of {T pre post : List TokV} {t : TokV} {a : Int} (h : T = pre ++ t :: post) (ha : a = pre.length) : At T a t := by
  subst h ha
  refine ⟨by omega, by simp only [List.length_append, List.length_cons]; omega, ?_⟩
  rw [Int.toNat_natCast]
  exact getD_pre _ _ _
theorem At.kind {T : List TokV} {a : Int} {t : TokV} (h : At T a t) : kindI T a = t.kind := by
  unfold kindI
  rw [if_neg (by rw [leI_t]; have := h.2.1; omega), h.2.2]
theorem kind_end {T : List TokV} {a : Int} (h : a = T.length) : kindI T a = 0 := by
  unfold kindI
  rw [if_pos (by rw [leI_t]; omega)]
theorem At.take {T : List TokV} {a k : Int} {t : TokV} (h : At T a t) (hk : t.kind = k) : takeB T a k = true ∧ takeS T a k = t.text ∧ takeA T a k = a + 1 := by
  have e : takeB T a k = true := by unfold takeB; rw [h.kind, hk, eqI_t]
  refine ⟨e, ?_, takeA_t e⟩
  unfold takeS
  rw [if_pos e, h.2.2]
theorem take_no {T : List TokV} {a k : Int} (h : kindI T a ≠ k) : takeB T a k = false ∧ takeA T a k = a := by
  have e : takeB T a k = false := by unfold takeB; rw [eqI_f]; exact h
  exact ⟨e, by unfold takeA; rw [if_neg (nt e)]⟩
theorem At.sign {T : List TokV} {a : Int} {t : TokV} {s : ByteArray} (h : At T a t) (hk : t.kind = 19) (hs : t.text.data.toList = s.data.toList) : signB T a s = true ∧ signA T a s = a + 1 := by
  have e : signB T a s = true := by
    unfold signB; rw [h.kind, hk, h.2.2, hs, bytesEq_eq]; simp [eqI_t]
  exact ⟨e, signA_t e⟩
theorem sign_no {T : List TokV} {a : Int} {s : ByteArray} (h : kindI T a ≠ 19) : signB T a s = false ∧ signA T a s = a := by
  have e : signB T a s = false := by unfold signB; rw [show eqI (kindI T a) 19 = false by rw [eqI_f]; exact h]; rfl
  exact ⟨e, by unfold signA; rw [if_neg (nt e)]⟩
theorem At.sign_no {T : List TokV} {a : Int} {t : TokV} {s : ByteArray} (h : At T a t) (hs : t.text.data.toList ≠ s.data.toList) : signB T a s = false ∧ signA T a s = a := by
  have e : signB T a s = false := by
    unfold signB; rw [h.2.2, bytesEq_eq]; simp [hs]
  exact ⟨e, by unfold signA; rw [if_neg (nt e)]⟩
theorem skI_no {T : List TokV} {a : Int} (h0 : 0 ≤ a) (h : kindI T a ≠ 20) : skI T a = a := by
  unfold skI
  rw [skp_step, if_neg ?_]
  · omega
  · rintro ⟨h1, h2⟩
    apply h
    unfold kindI
    rw [if_neg (by rw [leI_t]; omega)]
    unfold spB tokAt at h2
    rw [eqI_t] at h2
    exact h2
theorem skI_one {T : List TokV} {a : Int} {t : TokV} (h : At T a t) (hk : t.kind = 20) (hn : kindI T (a + 1) ≠ 20) : skI T a = a + 1 := by
  have e := skI_no (by have := h.1; omega) hn
  unfold skI at e ⊢
  rw [skp_step, if_pos ⟨by have := h.2.1; have := h.1; omega, by unfold spB tokAt; rw [h.2.2, eqI_t]; exact hk⟩]
  rw [show (a + 1).toNat = a.toNat + 1 by have := h.1; omega] at e
  exact e
theorem mark_id {T : List TokV} {a : Int} {p : PartV} {s : ByteArray} (h : At T a (tk 4 s)) (h1 : p.id.data.toList = []) (h2 : nameL s.data.toList = true) : markV T a p = (2, { p with id := s }, a + 1) := by
  obtain ⟨q1, q2, q3⟩ := h.take (k := 4) rfl
  unfold markV mk1
  rw [if_pos q1, q2, q3, if_pos (by unfold isW; rw [h1, bytesEq_eq]; simp), if_pos (show nameL (tk 4 s).text.data.toList = true from h2)]
  rfl
theorem mark_cls {T : List TokV} {a : Int} {p : PartV} {s : ByteArray} (h : At T a (tk 19 ⟨#[46]⟩)) (h1 : At T (a + 1) (tk 1 s)) : markV T a p = (2, { p with cls := p.cls ++ [s] }, a + 2) := by
  obtain ⟨q1, q2⟩ := take_no (T := T) (a := a) (k := 4) (by rw [h.kind]; decide)
  obtain ⟨r1, r2⟩ := h.sign (s := ⟨⟨[46]⟩⟩) rfl rfl
  obtain ⟨u1, u2, u3⟩ := h1.take (k := 1) rfl
  unfold markV mk2 mk1
  rw [if_neg (nt q1), q2, if_pos r1, r2, if_pos u1, u2, u3]
  rw [show a + 1 + 1 = a + 2 by omega]
  rfl
theorem mark_no {T : List TokV} {a : Int} {p : PartV} (h4 : kindI T a ≠ 4) (h19 : kindI T a ≠ 19) (h15 : kindI T a ≠ 15) (h10 : kindI T a ≠ 10) : markV T a p = (1, p, a) := by
  obtain ⟨q1, q2⟩ := take_no h4
  obtain ⟨r1, r2⟩ := sign_no (s := ⟨⟨[46]⟩⟩) h19
  obtain ⟨u1, u2⟩ := take_no h15
  obtain ⟨w1, w2⟩ := take_no h10
  unfold markV mk4 mk3 mk2 mk1
  rw [q2, r2, u2, w2, if_neg (nt q1), if_neg (nt r1), if_neg (nt u1), if_neg (nt w1)]
theorem mark_state {T : List TokV} {a : Int} {p : PartV} {s : ByteArray} {b : Nat} (h : At T a (tk 10 ⟨#[]⟩)) (h1 : At T (a + 1) (tk 1 s)) (hs : (s = wRoot ∧ b = 1) ∨ (s = wFirst ∧ b = 2) ∨ (s = wLast ∧ b = 4)) : markV T a p = (2, { p with states := orSt p.states b }, a + 2) := by
  obtain ⟨q1, q2⟩ := take_no (T := T) (a := a) (k := 4) (by rw [h.kind]; decide)
  obtain ⟨r1, r2⟩ := sign_no (T := T) (a := a) (s := ⟨⟨[46]⟩⟩) (by rw [h.kind]; decide)
  obtain ⟨v1, v2⟩ := take_no (T := T) (a := a) (k := 15) (by rw [h.kind]; decide)
  obtain ⟨w1, w2, w3⟩ := h.take (k := 10) rfl
  obtain ⟨u1, u2, u3⟩ := h1.take (k := 1) rfl
  unfold markV mk4 mk3 mk2 mk1
  rw [q2, r2, v2, w3, if_neg (nt q1), if_neg (nt r1), if_neg (nt v1), if_pos w1, u2, u3, if_pos u1]
  rw [show a + 1 + 1 = a + 2 by omega]
  rcases hs with ⟨rfl, rfl⟩ | ⟨rfl, rfl⟩ | ⟨rfl, rfl⟩
  · rw [if_pos (by decide)]
  · rw [if_neg (by decide), if_pos (by decide)]
  · rw [if_neg (by decide), if_neg (by decide), if_pos (by decide)]
theorem mark_test {T : List TokV} {a : Int} {p : PartV} {n v : ByteArray} (h : At T a (tk 15 ⟨#[]⟩)) (h1 : At T (a + 1) (tk 1 n)) (h2 : At T (a + 2) (tk 19 ⟨#[61]⟩)) (h3 : At T (a + 3) (tk 5 v)) (h4 : At T (a + 4) (tk 16 ⟨#[]⟩)) : markV T a p = (2, { p with tests := p.tests ++ [⟨n, true, v⟩] }, a + 5) := by
  obtain ⟨q1, q2⟩ := take_no (T := T) (a := a) (k := 4) (by rw [h.kind]; decide)
  obtain ⟨r1, r2⟩ := sign_no (T := T) (a := a) (s := ⟨⟨[46]⟩⟩) (by rw [h.kind]; decide)
  obtain ⟨w1, w2, w3⟩ := h.take (k := 15) rfl
  have e1 : ts1 T (a + 1) = a + 1 := skI_no (by have := h.1; omega) (by rw [h1.kind]; show (1 : Int) ≠ _; decide)
  obtain ⟨u1, u2, u3⟩ := h1.take (k := 1) rfl
  have e2 : ts2 T (a + 1) = a + 2 := by
    unfold ts2; rw [e1, u3, show a + 1 + 1 = a + 2 by omega]
    exact skI_no (by have := h.1; omega) (by rw [h2.kind]; decide)
  obtain ⟨s1, s2⟩ := h2.sign (s := ⟨⟨[61]⟩⟩) rfl rfl
  have e3 : ts3 T (a + 1) = a + 3 := by unfold ts3; rw [e2, s2]; omega
  have e4 : skI T (a + 3) = a + 3 := skI_no (by have := h.1; omega) (by rw [h3.kind]; show (5 : Int) ≠ _; decide)
  obtain ⟨n1, n2⟩ := take_no (T := T) (a := a + 3) (k := 1) (by rw [h3.kind]; show (5 : Int) ≠ _; decide)
  obtain ⟨v1, v2, v3⟩ := h3.take (k := 5) rfl
  have f1 : valB T (a + 3) = true := by unfold valB; rw [e4, n2, v1, Bool.or_true]
  have f2 : valS T (a + 3) = v := by unfold valS; rw [e4, if_neg (nt n1), n2, v2]; rfl
  have f3 : valA T (a + 3) = a + 4 := by unfold valA; rw [e4, if_neg (nt n1), n2, v3]; omega
  have e5 : ts4 T (a + 1) = a + 4 := by
    unfold ts4; rw [e3, f3]
    exact skI_no (by have := h.1; omega) (by rw [h4.kind]; decide)
  obtain ⟨c1, c2, c3⟩ := h4.take (k := 16) rfl
  have ht : testM T (a + 1) = (true, ⟨n, true, v⟩, a + 5) := by
    unfold testM
    rw [e1, if_pos u1, e2, if_pos s1, e3, e5, f1, c1, u2, f2, c3]
    rw [show a + 4 + 1 = a + 5 by omega]
    rfl
  unfold markV mk3 mk2 mk1
  rw [q2, r2, w3, if_neg (nt q1), if_neg (nt r1), if_pos w1, ht]
  rfl
theorem mark_test0 {T : List TokV} {a : Int} {p : PartV} {n : ByteArray} (h : At T a (tk 15 ⟨#[]⟩)) (h1 : At T (a + 1) (tk 1 n)) (h2 : At T (a + 2) (tk 16 ⟨#[]⟩)) : markV T a p = (2, { p with tests := p.tests ++ [⟨n, false, ⟨⟨[]⟩⟩⟩] }, a + 3) := by
  obtain ⟨q1, q2⟩ := take_no (T := T) (a := a) (k := 4) (by rw [h.kind]; decide)
  obtain ⟨r1, r2⟩ := sign_no (T := T) (a := a) (s := ⟨⟨[46]⟩⟩) (by rw [h.kind]; decide)
  obtain ⟨w1, w2, w3⟩ := h.take (k := 15) rfl
  have e1 : ts1 T (a + 1) = a + 1 := skI_no (by have := h.1; omega) (by rw [h1.kind]; show (1 : Int) ≠ _; decide)
  obtain ⟨u1, u2, u3⟩ := h1.take (k := 1) rfl
  have e2 : ts2 T (a + 1) = a + 2 := by
    unfold ts2; rw [e1, u3, show a + 1 + 1 = a + 2 by omega]
    exact skI_no (by have := h.1; omega) (by rw [h2.kind]; decide)
  obtain ⟨s1, s2⟩ := sign_no (T := T) (a := a + 2) (s := ⟨⟨[61]⟩⟩) (by rw [h2.kind]; decide)
  have e3 : ts3 T (a + 1) = a + 2 := by unfold ts3; rw [e2, s2]
  obtain ⟨c1, c2, c3⟩ := h2.take (k := 16) rfl
  have ht : testM T (a + 1) = (true, ⟨n, false, ⟨⟨[]⟩⟩⟩, a + 3) := by
    unfold testM
    rw [e1, if_pos u1, e2, if_neg (nt s1), e3, c1, u2, c3]
    rw [show a + 2 + 1 = a + 3 by omega]
    rfl
  unfold markV mk3 mk2 mk1
  rw [q2, r2, w3, if_neg (nt q1), if_neg (nt r1), if_pos w1, ht]
  rfl
end Go.Proofs.Ytconlneohilnmaa
namespace Go.Proofs.Ytconlneohilnmaa
open Go Go.RowKit Pl Sy
set_option linter.unusedVariables false
set_option linter.unusedSimpArgs false
def Seg (T : List TokV) (a : Int) (L : List TokV) : Prop := ∃ pre post, T = pre ++ (L ++ post) ∧ a = pre.length
theorem Seg.at {T : List TokV} {a : Int} {t : TokV} {L : List TokV} (h : Seg T a (t :: L)) : At T a t := by
  obtain ⟨pre, post, h1, h2⟩ := h
  exact At.of (pre := pre) (post := L ++ post) h1 h2
theorem Seg.tail {T : List TokV} {a : Int} {t : TokV} {L : List TokV} (h : Seg T a (t :: L)) : Seg T (a + 1) L := by
  obtain ⟨pre, post, h1, h2⟩ := h
  exact ⟨pre ++ [t], post, by rw [h1]; simp, by rw [h2]; simp⟩
theorem Seg.left {T : List TokV} {a : Int} {L1 L2 : List TokV} (h : Seg T a (L1 ++ L2)) : Seg T a L1 := by
  obtain ⟨pre, post, h1, h2⟩ := h
  exact ⟨pre, L2 ++ post, by rw [h1]; simp, h2⟩
theorem Seg.right {T : List TokV} {a : Int} {L1 L2 : List TokV} (h : Seg T a (L1 ++ L2)) : Seg T (a + L1.length) L2 := by
  obtain ⟨pre, post, h1, h2⟩ := h
  exact ⟨pre ++ L1, post, by rw [h1]; simp, by rw [h2]; simp⟩
theorem Seg.le {T : List TokV} {a : Int} {L : List TokV} (h : Seg T a L) : 0 ≤ a ∧ a + L.length ≤ T.length := by
  obtain ⟨pre, post, h1, h2⟩ := h
  rw [h1, h2]
  simp only [List.length_append]
  omega
theorem marks_go {T : List TokV} {f0 a a' : Int} {p p' : PartV} {n : Nat} (h : markV T a p = (2, p', a')) : marksV T f0 (n + 1) a p = marksV T f0 n a' p' := by
  rw [marksV_2 (by rw [h]), h]
theorem marks_cls (T : List TokV) (f0 : Int) (n : Nat) : ∀ (cs : List ByteArray) (a : Int) (p : PartV), Seg T a (clssT cs) → marksV T f0 (n + cs.length) a p = marksV T f0 n (a + (clssT cs).length) { p with cls := p.cls ++ cs }
  | [], a, p, _ => by simp [clssT]
  | s :: cs, a, p, h => by
    have h : Seg T a ([tk 19 ⟨#[46]⟩, tk 1 s] ++ clssT cs) := h
    have h1 := h.left.at
    have h2 := h.left.tail.at
    have ih := marks_cls T f0 n cs (a + 2) { p with cls := p.cls ++ [s] } h.right
    rw [show n + (s :: cs).length = (n + cs.length) + 1 by simp only [List.length_cons]; omega, marks_go (mark_cls h1 h2), ih]
    have e : (clssT (s :: cs)).length = 2 + (clssT cs).length := by rw [clssT_cons, List.length_append]; rfl
    rw [e]
    congr 1
    · push_cast; omega
    · simp
theorem marks_tests (T : List TokV) (f0 : Int) (n : Nat) : ∀ (ts : List TestV) (a : Int) (p : PartV), (∀ t ∈ ts, t.equal = false → t.value = ⟨⟨[]⟩⟩) → Seg T a (testsT ts) → marksV T f0 (n + ts.length) a p = marksV T f0 n (a + (testsT ts).length) { p with tests := p.tests ++ ts }
  | [], a, p, _, _ => by simp [testsT]
  | t :: ts, a, p, hv, h => by
    have h : Seg T a (testT t ++ testsT ts) := h
    have hl := h.left
    have hr := h.right
    have e : (testsT (t :: ts)).length = (testT t).length + (testsT ts).length := by
      show ((t :: ts).flatMap testT).length = _
      rw [List.flatMap_cons, List.length_append]; rfl
    rw [show n + (t :: ts).length = (n + ts.length) + 1 by simp only [List.length_cons]; omega]
    obtain ⟨nm, eq, vl⟩ := t
    have ih := fun a' h' => marks_tests T f0 n ts a' { p with tests := p.tests ++ [⟨nm, eq, vl⟩] } (fun x hx => hv x (by simp [hx])) h'
    cases eq with
    | true =>
      have et : testT ⟨nm, true, vl⟩ = [tk 15 ⟨#[]⟩, tk 1 nm, tk 19 ⟨#[61]⟩, tk 5 vl, tk 16 ⟨#[]⟩] := rfl
      rw [et] at hl hr e
      have q0 := hl.at
      have q1 := hl.tail.at
      have q2 := hl.tail.tail.at
      have q3 := hl.tail.tail.tail.at
      have q4 := hl.tail.tail.tail.tail.at
      rw [show a + 1 + 1 = a + 2 by omega] at q2 q3 q4
      rw [show a + 2 + 1 = a + 3 by omega] at q3 q4
      rw [show a + 3 + 1 = a + 4 by omega] at q4
      rw [marks_go (mark_test q0 q1 q2 q3 q4), ih (a + 5) hr, e]
      congr 1
      · simp only [List.length_cons, List.length_nil]; push_cast; omega
      · simp
    | false =>
      obtain rfl : vl = ⟨⟨[]⟩⟩ := hv ⟨nm, false, vl⟩ (by simp) rfl
      have et : testT ⟨nm, false, ⟨⟨[]⟩⟩⟩ = [tk 15 ⟨#[]⟩, tk 1 nm, tk 16 ⟨#[]⟩] := rfl
      rw [et] at hl hr e
      have q0 := hl.at
      have q1 := hl.tail.at
      have q2 := hl.tail.tail.at
      rw [show a + 1 + 1 = a + 2 by omega] at q2
      rw [marks_go (mark_test0 q0 q1 q2), ih (a + 3) hr, e]
      congr 1
      · simp only [List.length_cons, List.length_nil]; push_cast; omega
      · simp
theorem marks_end {T : List TokV} {f0 a : Int} {p : PartV} {n : Nat} (h : kindI T a = 0 ∨ kindI T a = 20) : marksV T f0 (n + 1) a p = (p, a, !leI a f0 && !wrongB p) := by
  have e : markV T a p = (1, p, a) := by
    rcases h with h | h <;> exact mark_no (by rw [h]; decide) (by rw [h]; decide) (by rw [h]; decide) (by rw [h]; decide)
  simp only [marksV, e]
end Go.Proofs.Ytconlneohilnmaa
namespace Go.Proofs.Ytconlneohilnmaa
open Go Go.RowKit Pl Sy
set_option linter.unusedVariables false
set_option linter.unusedSimpArgs false
theorem bytes_nil {s : ByteArray} (h : s.data.toList = []) : s = ⟨⟨[]⟩⟩ := by
  cases s with
  | mk d =>
    cases d with
    | mk l =>
      simp only at h
      rw [h]
def stb (n b : Int) : Bool := leI (IntKind.i64.wrap (((BitVec.ofInt 64 n &&& BitVec.ofInt 64 b).toNat : Nat) : Int)) 0
def orI (n : Int) (b : Nat) (x : Int) : Int := if stb n b = true then x else orSt x b
theorem or_all (n : Int) (h0 : 0 ≤ n) (h7 : n ≤ 7) : orI n 4 (orI n 2 (orI n 1 0)) = n := by
  have h : n = 0 ∨ n = 1 ∨ n = 2 ∨ n = 3 ∨ n = 4 ∨ n = 5 ∨ n = 6 ∨ n = 7 := by omega
  rcases h with rfl | rfl | rfl | rfl | rfl | rfl | rfl | rfl <;> decide
theorem stateT_eq (n : Int) (b : Nat) (s : ByteArray) : stateT n b s = if stb n b = true then [] else [tk 10 ⟨#[]⟩, tk 1 s] := rfl
theorem marks_state (T : List TokV) (f0 : Int) (n : Int) (b : Nat) (s : ByteArray) (hs : (s = wRoot ∧ b = 1) ∨ (s = wFirst ∧ b = 2) ∨ (s = wLast ∧ b = 4)) (a : Int) (p : PartV) (h : Seg T a (stateT n b s)) : ∃ k, k ≤ (stateT n b s).length ∧ ∀ m, marksV T f0 (m + k) a p = marksV T f0 m (a + (stateT n b s).length) { p with states := orI n b p.states } := by
  rw [stateT_eq] at h ⊢
  unfold orI
  by_cases e : stb n b = true
  · refine ⟨0, Nat.zero_le _, fun m => ?_⟩
    rw [if_pos e, if_pos e]
    simp
  · rw [if_neg e] at h
    rw [if_neg e, if_neg e]
    refine ⟨1, by simp, fun m => ?_⟩
    rw [marks_go (mark_state h.at h.tail.at hs)]
    rfl
theorem marks_id (T : List TokV) (f0 : Int) (q : PartV) (a : Int) (p : PartV) (hp : p.id = ⟨⟨[]⟩⟩) (hq : isW q.id ⟨⟨[]⟩⟩ = true ∨ nameL q.id.data.toList = true) (h : Seg T a (idT q)) : ∃ k, k ≤ (idT q).length ∧ ∀ m, marksV T f0 (m + k) a p = marksV T f0 m (a + (idT q).length) { p with id := q.id } := by
  unfold idT at h ⊢
  by_cases e : bytesEq q.id.data.toList [] = true
  · refine ⟨0, Nat.zero_le _, fun m => ?_⟩
    rw [if_pos e]
    rw [bytesEq_eq, decide_eq_true_eq] at e
    have e2 : q.id = ⟨⟨[]⟩⟩ := bytes_nil e
    rw [e2, ← hp]
    simp
  · rw [if_neg e] at h
    have hq : nameL q.id.data.toList = true := by
      rcases hq with hq | hq
      · exact absurd hq e
      · exact hq
    rw [if_neg e]
    refine ⟨1, by simp, fun m => ?_⟩
    rw [marks_go (mark_id h.at (by rw [hp]) hq)]
    rfl
theorem not_wrong {p : PartV} (h : wrongB p = false) : (isW p.tag ⟨⟨[]⟩⟩ = true ∨ nameL p.tag.data.toList = true) ∧ (isW p.id ⟨⟨[]⟩⟩ = true ∨ nameL p.id.data.toList = true) ∧ ∀ t ∈ p.tests, t.equal = false → t.value = ⟨⟨[]⟩⟩ := by
  unfold wrongB at h
  simp only [Bool.or_eq_false_iff, Bool.and_eq_false_iff, Bool.not_eq_false'] at h
  obtain ⟨h1, h2, _, _, _, _, h3, h4⟩ := h
  refine ⟨h1.imp id fun h => ?_, h2.imp id fun h => ?_, fun t ht he => ?_⟩
  · unfold lacksB at h; simpa using h
  · unfold lacksB at h; simpa using h
  · unfold anyT at h4
    rw [List.any_eq_false] at h4
    have h5 := h4 t ht
    unfold oddB at h5
    rw [he] at h5
    simp only [Bool.not_false, Bool.true_and, Bool.or_eq_true, not_or, Bool.not_eq_true', Bool.not_eq_false, bytesEq_eq, decide_eq_true_eq] at h5
    exact bytes_nil h5.2
def restT (p : PartV) : List TokV := idT p ++ (clssT p.cls ++ (testsT p.tests ++ (stateT p.states (1 : Nat) wRoot ++ (stateT p.states (2 : Nat) wFirst ++ stateT p.states (4 : Nat) wLast))))
theorem marks_bodyK (T : List TokV) (f0 : Int) (p : PartV) (hw : wrongB p = false) (b c : Int) (h : Seg T b (restT p)) : ∃ K, K ≤ (restT p).length ∧ ∀ m, marksV T f0 (m + K) b (p0V c p.tag) = marksV T f0 m (b + (restT p).length) { p with comb := c } := by
  obtain ⟨_, w2, w3⟩ := not_wrong hw
  obtain ⟨⟨s0, s7⟩, _⟩ := wrong_no hw
  unfold restT at h
  have g0 := h.left
  have h1 := h.right
  have g1 := h1.left
  have h2 := h1.right
  have g2 := h2.left
  have h3 := h2.right
  have g3 := h3.left
  have h4 := h3.right
  have g4 := h4.left
  have g5 := h4.right
  obtain ⟨k3, l3, e3⟩ := marks_state T f0 p.states 4 wLast (.inr (.inr ⟨rfl, rfl⟩)) _ ⟨c, p.tag, p.id, p.cls, p.tests, orI p.states 2 (orI p.states 1 0)⟩ g5
  obtain ⟨k2, l2, e2⟩ := marks_state T f0 p.states 2 wFirst (.inr (.inl ⟨rfl, rfl⟩)) _ ⟨c, p.tag, p.id, p.cls, p.tests, orI p.states 1 0⟩ g4
  obtain ⟨k1, l1, e1⟩ := marks_state T f0 p.states 1 wRoot (.inl ⟨rfl, rfl⟩) _ ⟨c, p.tag, p.id, p.cls, p.tests, 0⟩ g3
  have et := fun m => marks_tests T f0 (m + k3 + k2 + k1) p.tests _ ⟨c, p.tag, p.id, p.cls, [], 0⟩ w3 g2
  have ec := fun m => marks_cls T f0 (m + k3 + k2 + k1 + p.tests.length) p.cls _ ⟨c, p.tag, p.id, [], [], 0⟩ g1
  obtain ⟨k0, l0, e0⟩ := marks_id T f0 p b (p0V c p.tag) rfl w2 g0
  have lc := clssT_len p.cls
  have lt : p.tests.length ≤ (testsT p.tests).length := by
    clear et g2 h2 h3 h4 g3 g4 g5 w3 hw
    induction p.tests with
    | nil => simp
    | cons t l ih =>
      show l.length + 1 ≤ ((t :: l).flatMap testT).length
      rw [List.flatMap_cons, List.length_append]
      have : 1 ≤ (testT t).length := by unfold testT; split <;> simp
      unfold testsT at ih
      omega
  refine ⟨k3 + k2 + k1 + p.tests.length + p.cls.length + k0, ?_, fun m => ?_⟩
  · unfold restT
    simp only [List.length_append]
    omega
  · rw [show m + (k3 + k2 + k1 + p.tests.length + p.cls.length + k0) = m + k3 + k2 + k1 + p.tests.length + p.cls.length + k0 by omega, e0]
    simp only [List.nil_append] at ec et
    rw [show ({ p0V c p.tag with id := p.id } : PartV) = ⟨c, p.tag, p.id, [], [], 0⟩ from rfl, ec, et, e1, e2, e3]
    have ho := or_all p.states s0 s7
    simp only [ho]
    congr 1
    unfold restT
    simp only [List.length_append]
    push_cast
    omega
theorem marks_body (T : List TokV) (f0 : Int) (p : PartV) (hw : wrongB p = false) (b c : Int) (m : Nat) (h : Seg T b (restT p)) : ∃ K, K ≤ (restT p).length ∧ marksV T f0 (m + K) b (p0V c p.tag) = marksV T f0 m (b + (restT p).length) { p with comb := c } := by
  obtain ⟨K, h1, h2⟩ := marks_bodyK T f0 p hw b c h
  exact ⟨K, h1, h2 m⟩
end Go.Proofs.Ytconlneohilnmaa
namespace Go.Proofs.Ytconlneohilnmaa
open Go Go.RowKit Pl Sy
set_option linter.unusedVariables false
set_option linter.unusedSimpArgs false
theorem bodyT_eq (p : PartV) : bodyT p = tagT p ++ restT p := rfl
theorem rest_kind {p : PartV} {t : TokV} {L : List TokV} (h : restT p = t :: L) : t.kind ≠ 1 ∧ t.kind ≠ 20 ∧ (t.kind = 19 → t.text.data.toList ≠ [42]) := by
  have h0 : ∀ (M : List TokV), (∀ u ∈ M.head?, u.kind ≠ 1 ∧ u.kind ≠ 20 ∧ (u.kind = 19 → u.text.data.toList ≠ [42])) → M = t :: L → t.kind ≠ 1 ∧ t.kind ≠ 20 ∧ (t.kind = 19 → t.text.data.toList ≠ [42]) := fun M hM e => hM t (by rw [e]; rfl)
  have app : ∀ (A B : List TokV), (∀ u ∈ A.head?, u.kind ≠ 1 ∧ u.kind ≠ 20 ∧ (u.kind = 19 → u.text.data.toList ≠ [42])) → (∀ u ∈ B.head?, u.kind ≠ 1 ∧ u.kind ≠ 20 ∧ (u.kind = 19 → u.text.data.toList ≠ [42])) → ∀ u ∈ (A ++ B).head?, u.kind ≠ 1 ∧ u.kind ≠ 20 ∧ (u.kind = 19 → u.text.data.toList ≠ [42]) := fun A B hA hB => by
    cases A with
    | nil => exact hB
    | cons x A => exact hA
  have st : ∀ (n : Int) (b : Nat) (s : ByteArray), ∀ u ∈ (stateT n b s).head?, u.kind ≠ 1 ∧ u.kind ≠ 20 ∧ (u.kind = 19 → u.text.data.toList ≠ [42]) := fun n b s u hu => by
    rw [stateT_eq] at hu
    split at hu
    · simp at hu
    · simp at hu; subst hu
      exact ⟨by show (10 : Int) ≠ 1; decide, by show (10 : Int) ≠ 20; decide, fun e => absurd e (by show (10 : Int) ≠ 19; decide)⟩
  refine h0 (restT p) (app _ _ ?_ (app _ _ ?_ (app _ _ ?_ (app _ _ (st _ _ _) (app _ _ (st _ _ _) (st _ _ _)))))) h
  · intro u hu
    unfold idT at hu
    split at hu
    · simp at hu
    · simp at hu; subst hu
      exact ⟨by show (4 : Int) ≠ 1; decide, by show (4 : Int) ≠ 20; decide, fun e => absurd e (by show (4 : Int) ≠ 19; decide)⟩
  · intro u hu
    cases hc : p.cls with
    | nil => rw [hc] at hu; simp [clssT] at hu
    | cons s l =>
      rw [hc, clssT_cons] at hu
      simp at hu; subst hu
      exact ⟨by show (19 : Int) ≠ 1; decide, by show (19 : Int) ≠ 20; decide, fun _ => by decide⟩
  · intro u hu
    cases hc : p.tests with
    | nil => rw [hc] at hu; simp [testsT] at hu
    | cons s l =>
      rw [hc] at hu
      have e : ∃ M, testsT (s :: l) = tk 15 ⟨#[]⟩ :: M := by
        show ∃ M, (s :: l).flatMap testT = _
        rw [List.flatMap_cons]
        unfold testT
        split <;> exact ⟨_, rfl⟩
      obtain ⟨M, e⟩ := e
      rw [e] at hu
      simp at hu; subst hu
      exact ⟨by show (15 : Int) ≠ 1; decide, by show (15 : Int) ≠ 20; decide, fun e => absurd e (by show (15 : Int) ≠ 19; decide)⟩
theorem wrong_comb (p : PartV) (c : Int) : wrongB { p with comb := c } = wrongB p := rfl
theorem part_law (T : List TokV) (a c : Int) (p : PartV) (hw : wrongB p = false) (h : Seg T a (partT p)) (hn : kindI T (a + (partT p).length) = 0 ∨ kindI T (a + (partT p).length) = 20) : rprtV T a c = ({ p with comb := c }, a + (partT p).length, true) := by
  have hle := h.le
  unfold partT at h hn hle ⊢
  by_cases he : (bodyT p).length = 0
  · rw [if_pos he] at h hn hle ⊢
    have hb : restT p = [] := by
      rw [bodyT_eq, List.length_append] at he
      exact List.length_eq_zero_iff.1 (by omega)
    have ht : tagT p = [] := by
      rw [bodyT_eq, List.length_append] at he
      exact List.length_eq_zero_iff.1 (by omega)
    have htag : p.tag = ⟨⟨[]⟩⟩ := by
      unfold tagT at ht
      split at ht
      · rename_i e
        rw [bytesEq_eq, decide_eq_true_eq] at e
        exact bytes_nil e
      · cases ht
    have q := h.at
    obtain ⟨u1, u2⟩ := take_no (T := T) (a := a) (k := 1) (by rw [q.kind]; decide)
    obtain ⟨v1, v2⟩ := q.sign (s := ⟨⟨[42]⟩⟩) rfl rfl
    obtain ⟨K, hK, e⟩ := marks_body T a p hw (a + 1) c (T.length + 1) (by rw [hb]; exact h.tail)
    rw [hb] at hK e
    obtain rfl : K = 0 := by simpa using hK
    unfold rprtV prtV
    rw [if_neg (nt u1), u2, v2]
    rw [htag] at e
    simp only [List.length_nil, Nat.add_zero] at e
    rw [e]
    simp only [List.length_cons, List.length_nil] at hn ⊢
    rw [show a + 1 + ((0 : Nat) : Int) = a + ((0 + 1 : Nat) : Int) by omega, marks_end hn]
    rw [← htag, wrong_comb, hw]
    rw [show leI (a + ((0 + 1 : Nat) : Int)) a = false by rw [leI_f]; omega]
    simp only [Bool.not_false, Bool.and_self]
  · rw [if_neg he] at h hn hle ⊢
    have he2 := he
    rw [bodyT_eq] at h hn hle he2 ⊢
    have fin : ∀ b : Int, a ≤ b → b + (restT p).length = a + (tagT p ++ restT p).length → Seg T b (restT p) → marksV T a (T.length + 1) b (p0V c p.tag) = ({ p with comb := c }, a + (tagT p ++ restT p).length, true) := fun b hab hb hs => by
      have hsl := hs.le
      have hpos : a + (tagT p ++ restT p).length > a := by omega
      obtain ⟨K2, hK2, e⟩ : ∃ K, K ≤ T.length ∧ ∃ m, T.length + 1 = m + 1 + K ∧ marksV T a (m + 1 + K) b (p0V c p.tag) = marksV T a (m + 1) (b + (restT p).length) { p with comb := c } := by
        obtain ⟨K, hK, he⟩ := marks_bodyK T a p hw b c hs
        exact ⟨K, by omega, T.length - K, by omega, he _⟩
      obtain ⟨m, hm, e⟩ := e
      rw [hm, e, hb, marks_end hn, wrong_comb, hw]
      rw [show leI (a + ((tagT p ++ restT p).length : Int)) a = false by rw [leI_f]; omega]
      simp only [Bool.not_false, Bool.and_self]
    by_cases ht : bytesEq p.tag.data.toList [] = true
    · have e1 : tagT p = [] := by unfold tagT; rw [if_pos ht]
      have e2 : p.tag = ⟨⟨[]⟩⟩ := by rw [bytesEq_eq, decide_eq_true_eq] at ht; exact bytes_nil ht
      rw [e1, List.nil_append] at h he2
      obtain ⟨t, L, hL⟩ : ∃ t L, restT p = t :: L := by
        cases hr : restT p with
        | nil => rw [hr] at he2; simp at he2
        | cons t L => exact ⟨t, L, rfl⟩
      obtain ⟨f1, f2, f3⟩ := rest_kind hL
      have q : At T a t := by rw [hL] at h; exact h.at
      obtain ⟨u1, u2⟩ := take_no (T := T) (a := a) (k := 1) (by rw [q.kind]; exact f1)
      have v : signA T a ⟨⟨[42]⟩⟩ = a := by
        by_cases h19 : t.kind = 19
        · exact (q.sign_no (s := ⟨⟨[42]⟩⟩) (f3 h19)).2
        · exact (sign_no (by rw [q.kind]; exact h19)).2
      unfold rprtV prtV
      rw [if_neg (nt u1), u2, v]
      rw [← e2]
      exact fin a (Int.le_refl _) (by rw [e1, List.nil_append]) h
    · have e1 : tagT p = [tk 1 p.tag] := by unfold tagT; rw [if_neg ht]
      have q : At T a (tk 1 p.tag) := by rw [e1] at h; exact h.left.at
      obtain ⟨u1, u2, u3⟩ := q.take (k := 1) rfl
      unfold rprtV prtV
      rw [if_pos u1, u2, u3]
      have h2 := h.right
      rw [e1] at h2
      exact fin (a + 1) (by omega) (by rw [e1]; simp only [List.length_append, List.length_cons, List.length_nil]; push_cast; omega) h2
end Go.Proofs.Ytconlneohilnmaa
namespace Go.Proofs.Ytconlneohilnmaa
open Go Go.RowKit Pl Sy
set_option linter.unusedVariables false
set_option linter.unusedSimpArgs false
def NoComb (t : TokV) : Prop := t.kind ≠ 20 ∧ (t.kind = 19 → t.text.data.toList ≠ [62] ∧ t.text.data.toList ≠ [43] ∧ t.text.data.toList ≠ [126])
theorem sign_not {T : List TokV} {a : Int} {t : TokV} (s : ByteArray) (h : At T a t) (h2 : t.kind = 19 → t.text.data.toList ≠ s.data.toList) : signB T a s = false ∧ signA T a s = a := by
  by_cases hk : t.kind = 19
  · exact h.sign_no (h2 hk)
  · exact sign_no (by rw [h.kind]; exact hk)
theorem cmb_law {T : List TokV} {a c : Int} {t : TokV} (h1 : 1 ≤ c) (h4 : c ≤ 4) (h : Seg T a (combT c)) (hq : At T (a + (combT c).length) t) (ht : NoComb t) : cmbI T a = c ∧ cmbA T a = a + (combT c).length := by
  have h0 := h.le.1
  have hc : c = 1 ∨ c = 2 ∨ c = 3 ∨ c = 4 := by omega
  rcases hc with rfl | rfl | rfl | rfl
  · have e : combT 1 = [tk 20 ⟨#[]⟩] := rfl
    rw [e] at h hq ⊢
    simp only [List.length_cons, List.length_nil] at hq ⊢
    rw [show a + ((0 + 1 : Nat) : Int) = a + 1 by omega] at hq ⊢
    have s0 : skI T a = a + 1 := skI_one h.at rfl (by rw [hq.kind]; exact ht.1)
    obtain ⟨a1, a2⟩ := sign_not ⟨⟨[62]⟩⟩ hq (fun k => (ht.2 k).1)
    obtain ⟨b1, b2⟩ := sign_not ⟨⟨[43]⟩⟩ hq (fun k => (ht.2 k).2.1)
    obtain ⟨c1, c2⟩ := sign_not ⟨⟨[126]⟩⟩ hq (fun k => (ht.2 k).2.2)
    unfold cmbI cmbA cmB3 cmB2 cmB1
    rw [s0, a2, b2, c2, if_neg (nt a1), if_neg (nt b1), if_neg (nt c1), if_neg (nt a1), if_neg (nt b1), if_neg (nt c1), if_neg (by rw [leI_t]; omega)]
    exact ⟨rfl, rfl⟩
  all_goals
    have q0 := h.at
    have q1 := h.tail.at
    have q2 := h.tail.tail.at
    rw [show a + 1 + 1 = a + 2 by omega] at q2
  · have e : (combT 2).length = 3 := rfl
    rw [e] at hq ⊢
    have s0 : skI T a = a + 1 := skI_one q0 rfl (by rw [q1.kind]; decide)
    obtain ⟨a1, a2⟩ := q1.sign (s := ⟨⟨[62]⟩⟩) rfl rfl
    have s2 : skI T (a + 2) = a + 3 := by
      rw [show a + 3 = a + 2 + 1 by omega]
      exact skI_one q2 rfl (by rw [show a + 2 + 1 = a + ((3 : Nat) : Int) by omega, hq.kind]; exact ht.1)
    unfold cmbI cmbA cmB1
    rw [s0, a2, if_pos a1, if_pos a1, show a + 1 + 1 = a + 2 by omega, s2]
    exact ⟨rfl, by omega⟩
  · have e : (combT 3).length = 3 := rfl
    rw [e] at hq ⊢
    have s0 : skI T a = a + 1 := skI_one q0 rfl (by rw [q1.kind]; decide)
    obtain ⟨a1, a2⟩ := q1.sign_no (s := ⟨⟨[62]⟩⟩) (by decide)
    obtain ⟨b1, b2⟩ := q1.sign (s := ⟨⟨[43]⟩⟩) rfl rfl
    have s2 : skI T (a + 2) = a + 3 := by
      rw [show a + 3 = a + 2 + 1 by omega]
      exact skI_one q2 rfl (by rw [show a + 2 + 1 = a + ((3 : Nat) : Int) by omega, hq.kind]; exact ht.1)
    unfold cmbI cmbA cmB2 cmB1
    rw [s0, a2, b2, if_neg (nt a1), if_pos b1, if_neg (nt a1), if_pos b1, show a + 1 + 1 = a + 2 by omega, s2]
    exact ⟨rfl, by omega⟩
  · have e : (combT 4).length = 3 := rfl
    rw [e] at hq ⊢
    have s0 : skI T a = a + 1 := skI_one q0 rfl (by rw [q1.kind]; decide)
    obtain ⟨a1, a2⟩ := q1.sign_no (s := ⟨⟨[62]⟩⟩) (by decide)
    obtain ⟨b1, b2⟩ := q1.sign_no (s := ⟨⟨[43]⟩⟩) (by decide)
    obtain ⟨c1, c2⟩ := q1.sign (s := ⟨⟨[126]⟩⟩) rfl rfl
    have s2 : skI T (a + 2) = a + 3 := by
      rw [show a + 3 = a + 2 + 1 by omega]
      exact skI_one q2 rfl (by rw [show a + 2 + 1 = a + ((3 : Nat) : Int) by omega, hq.kind]; exact ht.1)
    unfold cmbI cmbA cmB3 cmB2 cmB1
    rw [s0, a2, b2, c2, if_neg (nt a1), if_neg (nt b1), if_pos c1, if_neg (nt a1), if_neg (nt b1), if_pos c1, show a + 1 + 1 = a + 2 by omega, s2]
    exact ⟨rfl, by omega⟩
end Go.Proofs.Ytconlneohilnmaa
namespace Go.Proofs.Ytconlneohilnmaa
open Go Go.RowKit Pl Sy
set_option linter.unusedVariables false
set_option linter.unusedSimpArgs false
theorem head_app {P : TokV → Prop} {A B : List TokV} (hA : ∀ u ∈ A.head?, P u) (hB : ∀ u ∈ B.head?, P u) : ∀ u ∈ (A ++ B).head?, P u := by
  cases A with
  | nil => exact hB
  | cons x A => exact hA
theorem noComb_of {t : TokV} (k : Int) (h : t.kind = k) (h1 : k ≠ 20) (h2 : k ≠ 19) : NoComb t := ⟨by rw [h]; exact h1, fun e => absurd (h.symm.trans e) h2⟩
theorem part_first (p : PartV) : ∃ t L, partT p = t :: L ∧ NoComb t := by
  have st : ∀ (n : Int) (b : Nat) (s : ByteArray), ∀ u ∈ (stateT n b s).head?, NoComb u := fun n b s u hu => by
    rw [stateT_eq] at hu
    split at hu
    · simp at hu
    · simp at hu; subst hu
      exact noComb_of 10 rfl (by decide) (by decide)
  have hb : ∀ u ∈ (bodyT p).head?, NoComb u := by
    rw [bodyT_eq]
    refine head_app ?_ (head_app ?_ (head_app ?_ (head_app ?_ (head_app (st _ _ _) (head_app (st _ _ _) (st _ _ _))))))
    · intro u hu
      unfold tagT at hu
      split at hu
      · simp at hu
      · simp at hu; subst hu
        exact noComb_of 1 rfl (by decide) (by decide)
    · intro u hu
      unfold idT at hu
      split at hu
      · simp at hu
      · simp at hu; subst hu
        exact noComb_of 4 rfl (by decide) (by decide)
    · intro u hu
      cases hc : p.cls with
      | nil => rw [hc] at hu; simp [clssT] at hu
      | cons s l =>
        rw [hc, clssT_cons] at hu
        simp at hu; subst hu
        exact ⟨by show (19 : Int) ≠ 20; decide, fun _ => ⟨by decide, by decide, by decide⟩⟩
    · intro u hu
      cases hc : p.tests with
      | nil => rw [hc] at hu; simp [testsT] at hu
      | cons s l =>
        rw [hc] at hu
        have e : ∃ M, testsT (s :: l) = tk 15 ⟨#[]⟩ :: M := by
          show ∃ M, (s :: l).flatMap testT = _
          rw [List.flatMap_cons]
          unfold testT
          split <;> exact ⟨_, rfl⟩
        obtain ⟨M, e⟩ := e
        rw [e] at hu
        simp at hu; subst hu
        exact noComb_of 15 rfl (by decide) (by decide)
  unfold partT
  split
  · exact ⟨_, _, rfl, by show (19 : Int) ≠ 20; decide, fun _ => ⟨by decide, by decide, by decide⟩⟩
  · rename_i hne
    cases hc : bodyT p with
    | nil => rw [hc] at hne; simp at hne
    | cons t L => exact ⟨t, L, rfl, hb t (by rw [hc]; rfl)⟩
theorem sels_law (T : List TokV) : ∀ (l : List PartV) (n : Nat) (a : Int) (acc : List PartV) (p : PartV), l.length < n → Seg T a (partsT l) → a + (partsT l).length = T.length → (∀ q ∈ l, wrongB q = false ∧ 1 ≤ q.comb ∧ q.comb ≤ 4) →
    (selsV T n a true acc p).ret = true ∧ (selsV T n a true acc p).r = leI ((acc ++ p :: l).length : Nat) 8 ∧ (selsV T n a true acc p).ps = acc ++ p :: l := by
  intro l
  induction l with
  | nil =>
    intro n a acc p hn h he _
    obtain ⟨n, rfl⟩ : ∃ m, n = m + 1 := ⟨n - 1, by simp at hn; omega⟩
    have e : eqI a T.length = true := by rw [eqI_t, ← he]; simp [partsT]
    unfold selsV
    rw [if_pos rfl, if_pos e]
    exact ⟨rfl, by simp, rfl⟩
  | cons q l ih =>
    intro n a acc p hn h he hw
    obtain ⟨n, rfl⟩ : ∃ m, n = m + 1 := ⟨n - 1, by simp at hn; omega⟩
    rw [partsT_cons] at h he
    simp only [List.length_append] at he
    obtain ⟨w1, w2, w3⟩ := hw q (by simp)
    obtain ⟨t, L, ht, hno⟩ := part_first q
    have hc := h.left.left
    have hp := h.left.right
    have hr := h.right
    simp only [List.length_append] at hr
    have hp0 := hp
    rw [ht] at hp0
    obtain ⟨c1, c2⟩ := cmb_law w2 w3 hc hp0.at hno
    have hlp : 1 ≤ (partT q).length := by rw [ht]; simp
    have hnext : kindI T (a + (combT q.comb).length + (partT q).length) = 0 ∨ kindI T (a + (combT q.comb).length + (partT q).length) = 20 := by
      cases l with
      | nil => exact .inl (kind_end (by simp only [partsT, List.flatMap_nil, List.length_nil] at he; push_cast at he ⊢; omega))
      | cons q2 l2 =>
        rw [partsT_cons] at hr
        obtain ⟨_, v2, v3⟩ := hw q2 (by simp)
        obtain ⟨M, eM⟩ : ∃ M, combT q2.comb = tk 20 ⟨#[]⟩ :: M := by
          unfold combT
          rw [if_neg (by omega)]
          split <;> exact ⟨_, rfl⟩
        have := hr.left.left
        rw [eM] at this
        have k := this.at.kind
        rw [show a + (((combT q.comb).length + (partT q).length : Nat) : Int) = a + (combT q.comb).length + (partT q).length by push_cast; omega] at k
        exact .inr k
    have hpl := part_law T (a + (combT q.comb).length) q.comb q w1 hp hnext
    have e1 : eqI a T.length = false := by rw [eqI_f]; push_cast at he; omega
    have e2 : eqI (cmbI T a) 0 = false := by rw [eqI_f, c1]; omega
    have e : selsV T (n + 1) a true acc p = selsV T n (a + (combT q.comb).length + (partT q).length) true (acc ++ [p]) q := by
      rw [selsV]
      rw [if_pos rfl, if_neg (nt e1), if_neg (nt e2), c1, c2, hpl]
    rw [e]
    have key := ih n (a + (combT q.comb).length + (partT q).length) (acc ++ [p]) q (by simp at hn; omega) (by
      rw [show a + (combT q.comb).length + (partT q).length = a + (((combT q.comb).length + (partT q).length : Nat) : Int) by push_cast; omega]; exact hr) (by push_cast at he ⊢; omega) (fun x hx => hw x (by simp [hx]))
    simpa using key
theorem partsT_ge : ∀ l : List PartV, l.length ≤ (partsT l).length
  | [] => by simp
  | p :: l => by
    have := partsT_ge l
    obtain ⟨t, L, ht, _⟩ := part_first p
    rw [partsT_cons, List.length_append, List.length_append, ht]
    simp only [List.length_cons]
    omega
theorem rsel_law (ps : List PartV) (h : rightB ps = true) : (rselV (partsT ps) 0).ret = true ∧ (rselV (partsT ps) 0).r = true ∧ (rselV (partsT ps) 0).ps = ps := by
  obtain ⟨⟨n0, n8⟩, hw, hc⟩ := right_of h
  cases ps with
  | nil => simp at n0
  | cons p l =>
    have hc0 : p.comb = 0 := (hc 0 (by simp)).1 rfl
    have hl : ∀ q ∈ l, wrongB q = false ∧ 1 ≤ q.comb ∧ q.comb ≤ 4 := fun q hq => by
      refine ⟨hw q (by simp [hq]), ?_⟩
      obtain ⟨k, hk, rfl⟩ := List.getElem_of_mem hq
      have := (hc (k + 1) (by simp only [List.length_cons]; omega)).2 (by omega)
      rw [List.getD_eq_getElem?_getD, List.getElem?_cons_succ, List.getElem?_eq_getElem hk] at this
      exact this
    have eT : partsT (p :: l) = partT p ++ partsT l := by rw [partsT_cons, hc0]; rfl
    have hs : Seg (partsT (p :: l)) 0 (partT p ++ partsT l) := ⟨[], [], by rw [eT]; simp, rfl⟩
    have hr := hs.right
    have hlen : ((partsT (p :: l)).length : Int) = (partT p).length + (partsT l).length := by rw [eT, List.length_append]; push_cast; rfl
    generalize hT : partsT (p :: l) = T at *
    have hnext : kindI T (0 + (partT p).length) = 0 ∨ kindI T (0 + (partT p).length) = 20 := by
      cases l with
      | nil => exact .inl (kind_end (by simp only [partsT, List.flatMap_nil, List.length_nil] at hlen; push_cast at hlen; omega))
      | cons q2 l2 =>
        rw [partsT_cons] at hr
        obtain ⟨_, v2, v3⟩ := hl q2 (by simp)
        obtain ⟨M, eM⟩ : ∃ M, combT q2.comb = tk 20 ⟨#[]⟩ :: M := by
          unfold combT
          rw [if_neg (by omega)]
          split <;> exact ⟨_, rfl⟩
        have := hr.left.left
        rw [eM] at this
        exact .inr this.at.kind
    have hp := part_law T 0 0 p (hw p (by simp)) hs.left hnext
    have e : ({ p with comb := 0 } : PartV) = p := by rw [← hc0]
    rw [e] at hp
    have hg := partsT_ge l
    obtain ⟨q1, q2, q3⟩ := sels_law T l (T.length + 1) (0 + (partT p).length) [] p (by omega) hr (by omega) hl
    unfold rselV
    rw [hp]
    refine ⟨q1, ?_, q3⟩
    rw [q2, leI_t]
    simp only [List.nil_append]
    omega
end Go.Proofs.Ytconlneohilnmaa
namespace Go.Proofs.Ytconlneohilnmaa
open Go Go.RowKit Pl Sy
set_option linter.unusedVariables false
set_option linter.unusedSimpArgs false
theorem kinds_get {l : List TokV} {k : Nat} (h : k < l.length) (h' : k < (kindsT l).length) : (kindsT l)[k] = (l.getD k tok0).kind := by
  have e : (kindsT l)[k]? = some (l.getD k tok0).kind := by
    unfold kindsT
    rw [List.getElem?_map, List.getD_eq_getElem?_getD, List.getElem?_eq_getElem h]; rfl
  rw [List.getElem?_eq_getElem h'] at e
  exact Option.some.inj e
theorem mt_plain {l : List TokV} {k : Nat} (h : k < l.length) (hc : clo (l.getD k tok0).kind = 0) : mt l k = k := by
  have hl : k < (kindsT l).length := by unfold kindsT; rw [List.length_map]; exact h
  unfold mt mtc
  rw [dif_pos ⟨by omega, by omega⟩]
  simp only [Int.toNat_natCast]
  rw [kinds_get h hl, if_pos hc]
  exact Int.toNat_natCast k
theorem runs_to {l : List TokV} (c : Int) : ∀ (n k : Nat), k + n < l.length → (∀ j, j < n → clo (l.getD (k + j) tok0).kind = 0 ∧ (l.getD (k + j) tok0).kind ≠ c) → (l.getD (k + n) tok0).kind = c → clo c = 0 → runs (kindsT l) k [c] = k + n
  | 0, k, h, _, hc, h0 => by
    have hl : k < (kindsT l).length := by unfold kindsT; rw [List.length_map]; exact h
    rw [Nat.add_zero] at hc
    rw [runs_step _ hl, kinds_get (by omega) hl, hc, if_neg (by simp [h0])]
    simp
  | n + 1, k, h, hj, hc, h0 => by
    have hk : k < l.length := by omega
    have hl : k < (kindsT l).length := by unfold kindsT; rw [List.length_map]; exact hk
    obtain ⟨q1, q2⟩ := hj 0 (by omega)
    rw [Nat.add_zero] at q1 q2
    rw [runs_step _ hl, kinds_get hk hl, if_neg (by rw [q1]; simp)]
    show (if (l.getD k tok0).kind = c then _ else _) = _
    rw [if_neg q2]
    rw [runs_to c n (k + 1) (by omega) (fun j hj' => by rw [show k + 1 + j = k + (j + 1) by omega]; exact hj (j + 1) (by omega)) (by rw [show k + 1 + n = k + (n + 1) by omega]; exact hc) h0]
    omega
def Hop (p : TokV → Bool) (X : List TokV) : Prop := ∀ pre post, tops p (pre ++ (X ++ post)) pre.length = tops p (pre ++ (X ++ post)) (pre.length + X.length)
theorem Hop.nil (p : TokV → Bool) : Hop p [] := fun pre post => rfl
theorem Hop.app {p : TokV → Bool} {X Y : List TokV} (h : Hop p X) (h' : Hop p Y) : Hop p (X ++ Y) := fun pre post => by
  have h1 := h pre (Y ++ post)
  have h2 := h' (pre ++ X) post
  rw [show pre ++ (X ++ (Y ++ post)) = pre ++ (X ++ Y ++ post) by simp] at h1
  rw [show pre ++ X ++ (Y ++ post) = pre ++ (X ++ Y ++ post) by simp, List.length_append] at h2
  rw [h1, h2, List.length_append]
  congr 1
  omega
theorem Hop.one {p : TokV → Bool} {t : TokV} (hc : clo t.kind = 0) (hp : p t = false) : Hop p [t] := fun pre post => by
  have e : (pre ++ ([t] ++ post)).getD pre.length tok0 = t := getD_pre pre t post
  have hlt : pre.length < (pre ++ ([t] ++ post)).length := by simp
  rw [tops_step, if_pos ⟨hlt, by unfold tokAt; rw [e]; exact hp⟩]
  unfold nxt
  rw [mt_plain hlt (by rw [e]; exact hc)]
  congr 1
  simp only [List.length_append, List.length_cons, List.length_nil]
  omega
theorem Hop.group {p : TokV → Bool} {t u : TokV} {X : List TokV} (hp : p t = false) (hc : clo t.kind = u.kind) (h0 : clo u.kind = 0) (hu : u.kind ≠ 0) (hX : ∀ x ∈ X, clo x.kind = 0 ∧ x.kind ≠ u.kind) : Hop p (t :: (X ++ [u])) := fun pre post => by
  generalize hl : pre ++ (t :: (X ++ [u]) ++ post) = l
  have e : l.getD pre.length tok0 = t := by rw [← hl]; exact getD_pre pre t _
  have hlen : l.length = pre.length + (X.length + 2) + post.length := by rw [← hl]; simp only [List.length_append, List.length_cons, List.length_nil]; omega
  have hlt : pre.length < l.length := by omega
  have hk : pre.length < (kindsT l).length := by unfold kindsT; rw [List.length_map]; exact hlt
  have eu : l.getD (pre.length + 1 + X.length) tok0 = u := by
    have := getD_pre (pre ++ t :: X) u post
    rw [show (pre ++ t :: X).length = pre.length + 1 + X.length by simp only [List.length_append, List.length_cons]; omega] at this
    rw [show pre ++ (t :: (X ++ [u]) ++ post) = pre ++ t :: X ++ u :: post by simp] at hl
    rw [← hl]
    exact this
  have ex : ∀ j, j < X.length → clo (l.getD (pre.length + 1 + j) tok0).kind = 0 ∧ (l.getD (pre.length + 1 + j) tok0).kind ≠ u.kind := fun j hj => by
    have e2 : l.getD (pre.length + 1 + j) tok0 = X[j] := by
      rw [← hl, List.getD_eq_getElem?_getD, List.getElem?_append_right (by omega), show pre.length + 1 + j - pre.length = j + 1 by omega]
      simp [List.getElem?_append, hj]
    rw [e2]
    exact hX _ (List.getElem_mem _)
  have em : mt l pre.length = pre.length + 1 + X.length := by
    unfold mt mtc
    rw [dif_pos ⟨by omega, by omega⟩]
    simp only [Int.toNat_natCast]
    rw [kinds_get hlt hk, e, hc, if_neg hu, runs_to u.kind X.length (pre.length + 1) (by omega) ex (by rw [eu]) h0]
    omega
  rw [tops_step, if_pos ⟨hlt, by unfold tokAt; rw [e]; exact hp⟩]
  unfold nxt
  rw [em]
  congr 1
  simp only [List.length_append, List.length_cons, List.length_nil]
  omega
end Go.Proofs.Ytconlneohilnmaa
namespace Go.Proofs.Ytconlneohilnmaa
open Go Go.RowKit Pl Sy
set_option linter.unusedVariables false
set_option linter.unusedSimpArgs false
theorem hop_tk (k : Int) (s : ByteArray) (h : clo k = 0) (h2 : k ≠ 12) : Hop comB [tk k s] := Hop.one h (by unfold comB; rw [eqI_f]; exact h2)
theorem hop_flat {α : Type} (f : α → List TokV) (h : ∀ x, Hop comB (f x)) : ∀ l : List α, Hop comB (l.flatMap f)
  | [] => Hop.nil _
  | x :: l => by rw [List.flatMap_cons]; exact (h x).app (hop_flat f h l)
theorem hop_test (t : TestV) : Hop comB (testT t) := by
  have hi : ∀ x ∈ ([tk 1 t.name, tk 19 ⟨#[61]⟩, tk 5 t.value] : List TokV), clo x.kind = 0 ∧ x.kind ≠ (tk 16 ⟨#[]⟩).kind := fun x hx => by
    simp only [List.mem_cons, List.not_mem_nil, or_false] at hx
    rcases hx with rfl | rfl | rfl
    · exact ⟨by show clo 1 = 0; decide, by show (1 : Int) ≠ 16; decide⟩
    · exact ⟨by show clo 19 = 0; decide, by show (19 : Int) ≠ 16; decide⟩
    · exact ⟨by show clo 5 = 0; decide, by show (5 : Int) ≠ 16; decide⟩
  unfold testT
  split
  · exact Hop.group (t := tk 15 ⟨#[]⟩) (u := tk 16 ⟨#[]⟩) (X := [tk 1 t.name, tk 19 ⟨#[61]⟩, tk 5 t.value]) (by decide) (by decide) (by decide) (by decide) hi
  · exact Hop.group (t := tk 15 ⟨#[]⟩) (u := tk 16 ⟨#[]⟩) (X := [tk 1 t.name]) (by decide) (by decide) (by decide) (by decide) (fun x hx => hi x (by simp at hx; simp [hx]))
theorem hop_state (n : Int) (b : Nat) (s : ByteArray) : Hop comB (stateT n b s) := by
  rw [stateT_eq]
  split
  · exact Hop.nil _
  · exact Hop.app (X := [tk 10 ⟨#[]⟩]) (Y := [tk 1 s]) (hop_tk 10 _ (by decide) (by decide)) (hop_tk 1 s (by decide) (by decide))
theorem hop_part (p : PartV) : Hop comB (partT p) := by
  unfold partT
  split
  · exact hop_tk 19 _ (by decide) (by decide)
  · rw [bodyT_eq]
    unfold restT
    refine Hop.app ?_ (Hop.app ?_ (Hop.app ?_ (Hop.app ?_ ((hop_state _ _ _).app ((hop_state _ _ _).app (hop_state _ _ _))))))
    · unfold tagT; split
      · exact Hop.nil _
      · exact hop_tk 1 _ (by decide) (by decide)
    · unfold idT; split
      · exact Hop.nil _
      · exact hop_tk 4 _ (by decide) (by decide)
    · exact hop_flat (fun s => [tk 19 ⟨#[46]⟩, tk 1 s]) (fun s => Hop.app (X := [tk 19 ⟨#[46]⟩]) (Y := [tk 1 s]) (hop_tk 19 _ (by decide) (by decide)) (hop_tk 1 s (by decide) (by decide))) p.cls
    · exact hop_flat testT hop_test p.tests
theorem hop_comb (c : Int) : Hop comB (combT c) := by
  unfold combT
  split
  · exact Hop.nil _
  · split
    · exact hop_tk 20 _ (by decide) (by decide)
    · exact Hop.app (X := [tk 20 ⟨#[]⟩]) (Y := [tk 19 (signS c), tk 20 ⟨#[]⟩]) (hop_tk 20 _ (by decide) (by decide)) (Hop.app (X := [tk 19 (signS c)]) (Y := [tk 20 ⟨#[]⟩]) (hop_tk 19 _ (by decide) (by decide)) (hop_tk 20 _ (by decide) (by decide)))
theorem hop_parts : ∀ ps : List PartV, Hop comB (partsT ps)
  | [] => Hop.nil _
  | p :: ps => by
    rw [partsT_cons]
    exact Hop.app (X := combT p.comb ++ partT p) (Hop.app (X := combT p.comb) (hop_comb p.comb) (hop_part p)) (hop_parts ps)
end Go.Proofs.Ytconlneohilnmaa
