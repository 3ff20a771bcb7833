/-
  Layer 8's law QueryTurns: contracts whose results are read alone; what query.Parse answers.
-/
import Derived.Test.YtfcijfngcplodaaTurnsT
namespace Go.Proofs.Ytfcijfngcplodaa
open Go Go.RowKit Sy Pl
set_option linter.unusedVariables false
set_option linter.unusedSimpArgs false
namespace Sy
/-- a reader in a block of the run's own -/
theorem Conv.rd {M : Mem} {b e n : Nat} {R : Option Rw} {c : Nat → Nat → AV} {k : Int} (hb : M.get b = some ⟨[.view n 3 c, .lit (.int .i64 k)], e, R⟩) (hf : ∀ i j, Free (c i j)) (hk : k = n) : Conv M [.ptr b 0] [rdA n c] :=
  Conv.cons (fun w0 ρ w u hW hr => by
    subst hk
    simp only [rel] at hr ⊢
    obtain ⟨g, tot, hg, rfl⟩ := hr
    obtain ⟨q2, cur, q3, q4, q5⟩ := hW.holds hb hg
    have hlt : g < w.heap.size := (Array.getElem?_eq_some_iff.1 q3).1
    refine ⟨g, 0, rfl, fun j hj => ?_⟩
    have hfv : Free (.view n 3 c) := hf
    have : j = 0 ∨ j = 1 := by omega
    rcases this with rfl | rfl
    · obtain ⟨x, r5, r6⟩ := q5.1 0 _ rfl
      refine ⟨x, ?_, rel.free (rho0_still hW) hfv r6⟩
      simp only [rho0, if_pos hlt]
      rw [cell_at q3]; exact r5
    · obtain ⟨x, r5, r6⟩ := q5.1 1 _ rfl
      refine ⟨x, ?_, rel.free (v := .lit (.int .i64 (n : Int))) (rho0_still hW) trivial r6⟩
      simp only [rho0, if_pos hlt]
      rw [cell_at q3]; exact r5) (Conv.nil _)
/-- a contract whose result is new, and is read alone -/
noncomputable def atMW {X : Type} (f : FuncId) (get : List AV → Mem → Option X) (args1 : X → List AV) (v0 : X → AV) (C : X → Prop) (h : ∀ x, C x → ∀ w us, rels (rho0 w) (args1 x) us → Calls Try.prog f us.toArray w fun e w' => ∃ (u : Value) (st : Nat → Nat → Option Value), e = .returned u ∧ (∀ g o v, st g o = some v → w.heap.size ≤ g ∧ w'.cell? ⟨g, o, none⟩ = some v) ∧ (∀ ρ : Rho, (∀ g o v, st g o = some v → ρ.still g o = some v) → rel ρ (v0 x) u) ∧ Below w.heap.size w w') : Con Try.prog where
  f := f
  run := fun args M => match get args M with | some x => some (v0 x, M) | none => none
  ob := fun args M => match get args M with | some x => some (isSo (Conv M args (args1 x) ∧ C x)) | none => none
  ok := fun args M v M' hr hob => by
    cases hg : get args M with
    | none => rw [hg] at hr; cases hr
    | some x =>
      rw [hg] at hr hob
      simp at hr
      obtain ⟨rfl, rfl⟩ := hr
      have h1 := hob _ rfl
      rw [isSo_t] at h1
      obtain ⟨hc, hC⟩ := h1
      refine ⟨Grow.refl _, fun w0 ρ us w hrel hW => ?_⟩
      refine (h x hC w us (hc w0 ρ w us hW hrel)).mono ?_
      rintro e w' ⟨u, st, rfl, hst, hv, hb⟩
      obtain ⟨q1, q2⟩ := hW.grown hb st hst
      refine ⟨_, u, v0 x, M, rfl, q1, hv _ fun g o v hs => ?_, q2, rfl, rfl⟩
      simp only [more]
      cases hq : ρ.still g o with
      | none => exact hs
      | some y => have := hW.still_lt hq; have := (hst g o v hs).1; omega
end Sy
/-- how many nodes are read; with which error -/
def cntV (f o n : Int) : Nat := if rightV 4 0 f 0 0 0 o n 0 = true then 1 else 0
def errV (f o n : Int) : Int := if rightV 4 0 f 0 0 0 o n 0 = true then 0 else 21
namespace Sy
abbrev nodesV (f o n : Int) : AV := .view (cntV f o n) 9 (fun i j => [int 4, int 0, int f, int 0, int 0, int 0, int o, int n, int 0].getD j (.lit undef))
abbrev resV (f o n : Int) : AV := .tup [.agg [.lit (.string ⟨#[]⟩), nodesV f o n], int (errV f o n)]
def PRes (f o n : Int) (v : AV) (M : Mem) : Prop :=
  (rightV 4 0 f 0 0 0 o n 0 = false ∧ v = .tup [.agg [.lit (.string ⟨#[]⟩), .lit (.slice none 0 0)], int 21]) ∨
  (rightV 4 0 f 0 0 0 o n 0 = true ∧ ∃ b e R, v = .tup [.agg [.lit (.string ⟨#[]⟩), .sl b 0 1 (some 1) 9], int 0] ∧ M.get b = some ⟨[int 4, int 0, int f, int 0, int 0, int 0, int o, int n, int 0], e, R⟩)
theorem parse_back {args : List AV} {f o n : Int} (h : CallTo Try.prog 7 args M0 (PRes f o n)) {w : World} {us : List Value} (hr : rels (rho0 w) args us) :
    Calls Try.prog 7 us.toArray w fun e w' => ∃ (u : Value) (st : Nat → Nat → Option Value), e = .returned u ∧ (∀ g o v, st g o = some v → w.heap.size ≤ g ∧ w'.cell? ⟨g, o, none⟩ = some v) ∧ (∀ ρ : Rho, (∀ g o v, st g o = some v → ρ.still g o = some v) → rel ρ (resV f o n) u) ∧ Below w.heap.size w w' := by
  refine (h w (rho0 w) us w hr (WR.start w)).mono ?_
  rintro e w' ⟨ρ', u, v, M', rfl, hE, hv, hW', hG⟩
  have hB : Below w.heap.size w w' := by
    have := hW'.keep
    rw [hE.mine] at this
    exact Keep.below this
  refine ⟨u, fun g o => if w.heap.size ≤ g then w'.cell? ⟨g, o, none⟩ else none, rfl, fun g o v hs => ?_, fun ρ hρ => ?_, hB⟩
  · simp only at hs
    split at hs
    · rename_i hh; exact ⟨hh, hs⟩
    · cases hs
  · rcases hG with ⟨hF, rfl⟩ | ⟨hT, b, el, R, rfl, hb⟩
    · simp only [rel, rels] at hv ⊢
      obtain ⟨l, rfl, u1, l1, rfl, ⟨l2, rfl, u2, l3, rfl, rfl, u3, l4, rfl, rfl, rfl⟩, u4, l5, rfl, rfl, rfl⟩ := hv
      refine ⟨_, rfl, _, _, rfl, ⟨_, rfl, _, _, rfl, rfl, _, _, rfl, ⟨none, 0, ?_, ?_, ?_, fun _ => rfl, ?_⟩, rfl⟩, _, _, rfl, ?_, rfl⟩
      · simp [cntV, hF]
      · simp [cntV, hF]
      · decide
      · simp [cntV, hF]
      · simp [errV, hF]
    · simp only [rel, rels] at hv ⊢
      obtain ⟨l, rfl, u1, l1, rfl, ⟨l2, rfl, u2, l3, rfl, rfl, u3, l4, rfl, ⟨g, tot, cap, hg, rfl, p1, p2, p3, p4⟩, rfl⟩, u4, l5, rfl, rfl, rfl⟩ := hv
      obtain ⟨q2, cur, q3, q4, q5⟩ := hW'.holds hb hg
      have hlt : g < w'.heap.size := (Array.getElem?_eq_some_iff.1 q3).1
      have hge : w.heap.size ≤ g := by
        rcases q2 with q2 | q2
        · exact q2
        · rw [hE.mine] at q2; cases q2
      have hc1 : cntV f o n = 1 := by simp [cntV, hT]
      refine ⟨_, rfl, _, _, rfl, ⟨_, rfl, _, _, rfl, rfl, _, _, rfl, ⟨some ⟨g, 0, none⟩, cap, ?_, ?_, p2, (fun h => by cases h), fun _ => ⟨g, 0, rfl, fun i j hi hj => ?_⟩⟩, rfl⟩, _, _, rfl, ?_, rfl⟩
      · rw [hc1]
      · rw [hc1]; exact p1
      · have hi0 : i = 0 := by omega
        subst hi0
        have key : ∀ (j : Nat) (y : Int), ([int 4, int 0, int f, int 0, int 0, int 0, int o, int n, int 0] : List AV)[j]? = some (int y) → w'.cell? ⟨g, 0 + 0 * 9 + j, none⟩ = some (.int .i64 y) := fun j y hy => by
          obtain ⟨x, r5, r6⟩ := q5.1 j _ hy
          simp only [rel] at r6
          subst r6
          rw [cell_at q3, Nat.zero_mul, Nat.add_zero, Nat.zero_add]
          exact r5
        have hs : ∀ (j : Nat) (y : Int), ([int 4, int 0, int f, int 0, int 0, int 0, int o, int n, int 0] : List AV)[j]? = some (int y) → ρ.still g (0 + 0 * 9 + j) = some (.int .i64 y) := fun j y hy => hρ _ _ _ (by simp only [if_pos hge]; exact key j y hy)
        have : j = 0 ∨ j = 1 ∨ j = 2 ∨ j = 3 ∨ j = 4 ∨ j = 5 ∨ j = 6 ∨ j = 7 ∨ j = 8 := by omega
        rcases this with rfl | rfl | rfl | rfl | rfl | rfl | rfl | rfl | rfl <;> exact ⟨_, hs _ _ rfl, by first | exact rfl | simp only [List.getD_cons_succ, List.getD_cons_zero, rel], rfl⟩
      · simp [errV, hT]
theorem pres_bad {f o n : Int} {v : AV} {M : Mem} (h : rightV 4 0 f 0 0 0 o n 0 = false) (e : pack v M = .tup [.tup [.agg [.lit (.string ⟨#[]⟩), .lit (.slice none 0 0)], int 21], .agg []]) : PRes f o n v M := by
  unfold pack at e
  simp only [AV.tup.injEq, List.cons.injEq] at e
  exact .inl ⟨h, e.1⟩
theorem pres_good {f o n : Int} {v : AV} {M : Mem} (b : Nat) (h : rightV 4 0 f 0 0 0 o n 0 = true) (e : pack v M = .tup [.tup [.agg [.lit (.string ⟨#[]⟩), .sl b 0 1 (some 1) 9], int 0], .agg [int 4, int 0, int f, int 0, int 0, int 0, int o, int n, int 0]]) : PRes f o n v M := by
  unfold pack at e
  simp only [AV.tup.injEq, List.cons.injEq, AV.agg.injEq, and_true] at e
  obtain ⟨rfl, e⟩ := e
  unfold cellsOf at e
  simp only at e
  cases hb : M.get b with
  | none => rw [hb] at e; cases e
  | some B =>
    rw [hb] at e
    simp only at e
    refine .inr ⟨h, b, B.elem, B.rows, rfl, ?_⟩
    rw [hb, ← e]
theorem nT {b : Bool} (h : (!b) = true) : b = false := by simpa using h
theorem nF {b : Bool} (h : (!b) = false) : b = true := by simpa using h
abbrev xBad : AV := .tup [.tup [.agg [.lit (.string ⟨#[]⟩), .lit (.slice none 0 0)], int 21], .agg []]
abbrev xGood (b : Nat) (f o n : Int) : AV := .tup [.tup [.agg [.lit (.string ⟨#[]⟩), .sl b 0 1 (some 1) 9], int 0], .agg [int 4, int 0, int f, int 0, int 0, int 0, int o, int n, int 0]]
theorem pres_of {f o n : Int} {v : AV} {M : Mem} (h : (rightV 4 0 f 0 0 0 o n 0 = false ∧ pack v M = xBad) ∨ (rightV 4 0 f 0 0 0 o n 0 = true ∧ ∃ b, pack v M = xGood b f o n)) : PRes f o n v M := by
  rcases h with ⟨h1, h2⟩ | ⟨h1, b, h2⟩
  · exact pres_bad h1 h2
  · exact pres_good b h1 h2
end Sy
/-- of such a comparison with a value -/
theorem errV_zero {f o n : Int} (hf : 1 ≤ f ∧ f ≤ 4) (ho : 1 ≤ o ∧ o ≤ 5) : errV f o n = 0 ↔ (-1073741824 ≤ n ∧ n ≤ 1073741824) := by
  have key : rightV 4 0 f 0 0 0 o n 0 = true ↔ (-1073741824 ≤ n ∧ n ≤ 1073741824) := by
    have h5 : ¬ f = 5 := by omega
    have h6 : ¬ f = 6 := by omega
    have ho0 : ¬ o = 0 := by omega
    have hh : n = hold n ↔ (-1073741824 ≤ n ∧ n ≤ 1073741824) := by
      unfold hold
      repeat' split
      all_goals omega
    unfold rightV fitsV valOk
    simp only [decide_eq_true_eq, h5, h6, ho0, false_and, and_false, not_false_eq_true, true_and, and_true, false_or, or_false, ne_eq, not_true_eq_false, ← hh]
    constructor
    · intro h; exact h.2.2.2.2.1
    · intro h; exact ⟨by omega, by omega, by omega, by omega, h, .inl trivial⟩
  unfold errV
  split
  · rename_i h; simp [key.1 h]
  · rename_i h
    constructor
    · intro e; cases e
    · intro e; exact absurd (key.2 e) h
end Go.Proofs.Ytfcijfngcplodaa
