/-
  Calls inside of regions that draw, reckoned, where contracts that owe may stand inside of them.
-/
import Derived.Test.YtmlhipckgmbpfaaGreatSyUse
namespace Go.Proofs.YtmlhipckgmbpfaaGreat.Sy
open Go Go.RowKit
set_option linter.unusedVariables false

/-- the one result of a run without questions -/
noncomputable def strip {β : Type} (t : Tr β) : Option β := Tr.rec (motive := fun _ => Option β) (fun _ => none) (fun r => some r) (fun _ _ _ _ _ => none) (fun _ _ ih => ih) (fun _ => none) t
/-- what such a run owes -/
noncomputable def andO (b : Bool) (o : Option Bool) : Option Bool := Option.rec (motive := fun _ => Option Bool) (some b) (fun c => some (b && c)) o
noncomputable def owes {β : Type} (t : Tr β) : Option Bool := Tr.rec (motive := fun _ => Option Bool) (fun _ => none) (fun _ => none) (fun _ _ _ _ _ => none) (fun b _ ih => andO b ih) (fun _ => none) t
theorem owed_and {b : Bool} {o : Option Bool} (h : owed (andO b o)) : b = true ∧ owed o := by
  cases o with
  | none => exact ⟨h b rfl, fun c e => by cases e⟩
  | some c =>
    have := h (b && c) rfl
    simp only [Bool.and_eq_true] at this
    exact ⟨this.1, fun d e => by cases e; exact this.2⟩
theorem strip_ok {β : Type} (r : β) : ∀ t : Tr β, strip t = some r → owed (owes t) → t.Ok fun x => x = r
  | .leaf x, h, _ => Option.some.inj h
  | .fork b s t, h, _ => by cases h
  | .need b t, h, ho => by
    obtain ⟨h1, h2⟩ := owed_and (o := owes t) ho
    exact ⟨h1, strip_ok r t h h2⟩
  | .bad n, h, _ => by cases h
  | .ask b, h, _ => by cases h
noncomputable def inlTree (P : Program) (dd : FuncId → List AV → D) (call : CallT) (lp : FuncId → Nat → Option Summ) (n m : Nat) (f : FuncId) (args : List AV) (M : Mem) : Tr (AV × Mem) := callK (β := AV × Mem) P call lp n m f args M (dd f args) (fun v M' _ => .leaf (v, M'))
noncomputable def inlRun2 (t : Tr (AV × Mem)) (M : Mem) : Option (AV × Mem) := match strip t with
  | some r => match Nat.ble M.top r.2.top with
    | true => some (r.1, ⟨r.2.top, M.stamp + r.2.stamp + 1, r.2.bs⟩)
    | false => none
  | none => none
noncomputable def tableY {P : Program} (dd : FuncId → List AV → D) (l : List (Con P)) (lp : FuncId → Nat → Option Summ) (n m : Nat) : Nat → CallT
  | 0 => table l
  | j + 1 => ⟨fun f args M => match tableRun l f args M with
      | some r => some r
      | none => inlRun2 (inlTree P dd (tableY dd l lp n m j) lp n m f args M) M, fun f args M => match tableRun l f args M with
      | some _ => tableOb l f args M
      | none => owes (inlTree P dd (tableY dd l lp n m j) lp n m f args M), fun f args M => (tableRun l f args M).isSome⟩
theorem tableY_ok {P : Program} (dd : FuncId → List AV → D) (hP : Plainly P) (hm : P.follows .mixedOrders = true) (l : List (Con P)) {lp : FuncId → Nat → Option Summ} (hlp : AllLoops P lp) (n m : Nat) : ∀ j, CallOk P (tableY dd l lp n m j)
  | 0 => table_ok l
  | j + 1 => fun f args M v M' h hob => by
    simp only [tableY] at h hob
    cases ht : tableRun l f args M with
    | some r =>
      rw [ht] at h hob
      simp only [Option.some.injEq] at h
      subst h
      exact table_ok l f args M v M' ht hob
    | none =>
      rw [ht] at h hob
      simp only [inlRun2] at h
      simp only at hob
      split at h
      · rename_i r hr
        split at h
        · rename_i hle
          simp only [Option.some.injEq, Prod.mk.injEq] at h
          obtain ⟨rfl, rfl⟩ := h
          refine ⟨⟨by simpa [Nat.ble_eq] using hle, by simp only; omega, fun e => by simp only at e; omega⟩, fun w0 ρ us w h1 h2 => ?_⟩
          refine (callK_ok (β := AV × Mem) hP hm (tableY_ok dd hP hm l hlp n m j) hlp n m f args M (dd f args) (fun v M' _ => .leaf (v, M')) (fun x => x = r) (strip_ok r _ hr hob) w0 ρ us w h1 h2).mono ?_
          rintro e w' ⟨ρ', u, v, M', q1, q2, q3, q4, _, q5⟩
          have q6 : (v, M') = r := q5
          subst q6
          exact ⟨ρ', u, v, _, q1, q2, q3, q4.restamp _, rfl, rfl⟩
        · cases h
      · cases h
noncomputable abbrev reckY (dd : FuncId → List AV → D) (l : List (Con Tryz.prog)) (lp : List (Lp Tryz.prog)) (n m j : Nat) (f : FuncId) (args : List AV) (M : Mem) (d : D) : Tr (AV × D) := callK Tryz.prog (tableY dd l (lpOf lp) n m j) (lpOf lp) n m f args M d (fun v _ d' => .leaf (v, d'))
/-- a call, walked: also calls inside of regions that draw, so deep -/
theorem toY (dd : FuncId → List AV → D) (l : List (Con Tryz.prog)) (lp : List (Lp Tryz.prog)) (n m j : Nat) {f : FuncId} {args : List AV} {M : Mem} (d : D) (t : Tr AV) {G : AV → Prop}
    (h : callK Tryz.prog (tableY dd l (lpOf lp) n m j) (lpOf lp) n m f args M d (fun v _ _ => .leaf v) = t) (ht : t.Ok G) : CallTo Tryz.prog f args M fun v _ => G v := fun w0 ρ us w h1 h2 =>
  (callK_ok plain mixed (tableY_ok dd plain mixed l (lps_ok lp) n m j) (lps_ok lp) n m f args M d (fun v _ _ => .leaf v) G (h ▸ ht) w0 ρ us w h1 h2).mono fun e w' ⟨ρ', u, v, M', q1, q2, q3, q4, _, q5⟩ => ⟨ρ', u, v, M', q1, q2, q3, q4, q5⟩
end Go.Proofs.YtmlhipckgmbpfaaGreat.Sy
