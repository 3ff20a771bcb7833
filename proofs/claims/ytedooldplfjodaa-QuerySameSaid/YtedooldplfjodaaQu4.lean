/-
  Queries: what nodes stand for, and what they say: plain.
-/
import Derived.Test.YtedooldplfjodaaQu2
namespace Go.Proofs.Ytedooldplfjodaa
open Go Go.RowKit Pl Sy
set_option linter.unusedVariables false
set_option linter.unusedSimpArgs false

def tN (a : Int) : Int := if a = 0 then 1 else if a = 1 then 0 else 2
def tA (a b : Int) : Int := if a = 0 ∨ b = 0 then 0 else if a = 1 ∧ b = 1 then 1 else 2
def tO (a b : Int) : Int := if a = 1 ∨ b = 1 then 1 else if a = 0 ∧ b = 0 then 0 else 2
/-- how many nodes so many stand for -/
def sU : List QNodeV → Nat → Option Nat
  | [], m => if m = 0 then some 0 else none
  | _ :: _, 0 => some 0
  | n :: l, m + 1 => if hasI n.kind n.count < 0 then none else (sU l (m + (hasI n.kind n.count).toNat)).map (· + 1)
theorem sU_zero : ∀ l, sU l 0 = some 0
  | [] => rfl
  | _ :: _ => rfl
theorem sU_le : ∀ (l : List QNodeV) (m k : Nat), sU l m = some k → m ≤ k ∧ k ≤ l.length
  | [], m, k, h => by
    unfold sU at h
    split at h
    · simp at h; omega
    · cases h
  | n :: l, 0, k, h => by
    unfold sU at h
    simp at h; omega
  | n :: l, m + 1, k, h => by
    unfold sU at h
    split at h
    · cases h
    · rw [Option.map_eq_some_iff] at h
      obtain ⟨k', h1, h2⟩ := h
      have := sU_le l _ _ h1
      simp only [List.length_cons]
      omega
theorem spanL_eq (N : Int) : ∀ (l : List QNodeV) (left : Int), (l.length : Int) ≤ N → 0 ≤ left → spanL N l left = sU l left.toNat
  | [], left, h, h0 => by
    unfold spanL sU
    by_cases e : left ≤ 0
    · rw [if_pos e, if_pos (by omega)]
    · rw [if_neg e, if_neg (by omega)]
  | n :: l, left, h, h0 => by
    simp only [List.length_cons] at h
    unfold spanL
    by_cases e : left ≤ 0
    · rw [if_pos e, show left.toNat = 0 by omega, sU_zero]
    · rw [if_neg e]
      obtain ⟨m, hm⟩ : ∃ m, left.toNat = m + 1 := ⟨left.toNat - 1, by omega⟩
      rw [hm]
      unfold sU
      by_cases e1 : hasI n.kind n.count < 0
      · rw [if_pos e1, if_pos e1]
      · rw [if_neg e1, if_neg e1]
        by_cases e2 : N < hasI n.kind n.count
        · rw [if_pos e2, spanL_eq N l _ (by omega) (by omega)]
          have f1 : sU l (left + N - 1).toNat = none := by
            cases hs : sU l (left + N - 1).toNat with
            | none => rfl
            | some k => have := sU_le _ _ _ hs; omega
          have f2 : sU l (m + (hasI n.kind n.count).toNat) = none := by
            cases hs : sU l (m + (hasI n.kind n.count).toNat) with
            | none => rfl
            | some k => have := sU_le _ _ _ hs; omega
          rw [f1, f2]
        · rw [if_neg e2, spanL_eq N l _ (by omega) (by omega), show (left + hasI n.kind n.count - 1).toNat = m + (hasI n.kind n.count).toNat by omega]
theorem sU_add : ∀ (l : List QNodeV) (a b : Nat), sU l (a + b) = (sU l a).bind fun k => (sU (l.drop k) b).map (k + ·)
  | [], a, b => by
    unfold sU
    by_cases ha : a = 0
    · subst ha
      by_cases hb : b = 0
      · subst hb; rfl
      · simp [hb]
    · simp [ha]
  | n :: l, 0, b => by
    rw [sU_zero, Nat.zero_add]
    simp
  | n :: l, a + 1, b => by
    rw [show a + 1 + b = (a + b) + 1 by omega]
    rw [sU, sU]
    by_cases e1 : hasI n.kind n.count < 0
    · rw [if_pos e1, if_pos e1]; rfl
    · rw [if_neg e1, if_neg e1, show a + b + (hasI n.kind n.count).toNat = (a + (hasI n.kind n.count).toNat) + b by omega, sU_add l _ b]
      cases hs : sU l (a + (hasI n.kind n.count).toNat) with
      | none => rfl
      | some k =>
        simp only [Option.bind_some, Option.map_some, List.drop_succ_cons]
        cases hb : sU (l.drop k) b with
        | none => rfl
        | some k' => first | (simp; done) | (simp; omega)
/-- the place behind so many -/
def posI (xs : List QNodeV) (i : Int) (m : Nat) : Int := match sU (xs.drop i.toNat) m with
  | some k => i + k
  | none => 0
theorem spanI_eq (xs : List QNodeV) (i : Int) : spanI xs i = if i < 0 then 0 else posI xs i 1 := by
  unfold spanI posI
  by_cases h : i < 0
  · rw [if_pos h, if_pos h]
  · rw [if_neg h, if_neg h, spanL_eq _ _ _ (by simp only [List.length_drop]; omega) (by omega)]
    rfl
theorem posI_zero (xs : List QNodeV) (i : Int) : posI xs i 0 = i := by unfold posI; rw [sU_zero]; simp
theorem posI_pos {xs : List QNodeV} {i : Int} {m : Nat} (hi : 0 ≤ i) (hm : 1 ≤ m) (h : posI xs i m ≠ 0) : ∃ k, sU (xs.drop i.toNat) m = some k ∧ posI xs i m = i + k ∧ m ≤ k ∧ i + k ≤ xs.length := by
  unfold posI at h ⊢
  cases hs : sU (xs.drop i.toNat) m with
  | none => rw [hs] at h; exact absurd rfl h
  | some k =>
    have := sU_le _ _ _ hs
    simp only [List.length_drop] at this
    exact ⟨k, rfl, rfl, by omega, by omega⟩
theorem posI_succ (xs : List QNodeV) (i : Int) (m : Nat) (hi : 0 ≤ i) : posI xs i (m + 1) = if posI xs i 1 = 0 then 0 else posI xs (posI xs i 1) m := by
  unfold posI
  rw [show sU (xs.drop i.toNat) (m + 1) = (sU (xs.drop i.toNat) 1).bind fun k => (sU ((xs.drop i.toNat).drop k) m).map (k + ·) by rw [show m + 1 = 1 + m by omega]; exact sU_add _ 1 m]
  cases hs : sU (xs.drop i.toNat) 1 with
  | none => rfl
  | some k =>
    have := sU_le _ _ _ hs
    simp only [Option.bind_some, List.drop_drop]
    rw [if_neg (by omega), show (i + (k : Int)).toNat = i.toNat + k by omega]
    cases hb : sU (xs.drop (i.toNat + k)) m with
    | none => rfl
    | some k' => simp only [Option.map_some]; omega
theorem drop_at (xs : List QNodeV) (i : Nat) (h : i < xs.length) (z : QNodeV) : xs.drop i = xs.getD i z :: xs.drop (i + 1) := by
  rw [List.getD_eq_getElem?_getD, List.getElem?_eq_getElem h]
  exact List.drop_eq_getElem_cons h
theorem posI_one (xs : List QNodeV) (i : Int) (h0 : 0 ≤ i) (h1 : i < xs.length) : posI xs i 1 = if hasI (xs.getD i.toNat QNodeV.zero).kind (xs.getD i.toNat QNodeV.zero).count < 0 then 0 else posI xs (i + 1) (hasI (xs.getD i.toNat QNodeV.zero).kind (xs.getD i.toNat QNodeV.zero).count).toNat := by
  unfold posI
  rw [drop_at xs i.toNat (by omega) QNodeV.zero]
  rw [sU]
  by_cases e : hasI (xs.getD i.toNat QNodeV.zero).kind (xs.getD i.toNat QNodeV.zero).count < 0
  · rw [if_pos e, if_pos e]
  · rw [if_neg e, if_neg e, show (i + 1).toNat = i.toNat + 1 by omega, Nat.zero_add]
    cases sU (xs.drop (i.toNat + 1)) (hasI (xs.getD i.toNat QNodeV.zero).kind (xs.getD i.toNat QNodeV.zero).count).toNat with
    | none => rfl
    | some k => simp only [Option.map_some]; omega
theorem posI_out (xs : List QNodeV) (i : Int) (h1 : (xs.length : Int) ≤ i) : posI xs i 1 = 0 := by
  unfold posI
  rw [List.drop_eq_nil_of_le (by omega)]
  rfl

/-! ### What nodes say -/
def evs (g : List QNodeV → Option (Int × List QNodeV)) (j : Int → Int → Int) : Nat → Int → List QNodeV → Option (Int × List QNodeV)
  | 0, acc, l => some (acc, l)
  | c + 1, acc, l => match g l with
    | some (t, r) => evs g j c (j acc t) r
    | none => none
def ev (φ : QNodeV → Int) : Nat → List QNodeV → Option (Int × List QNodeV)
  | 0, _ => none
  | _ + 1, [] => none
  | f + 1, n :: l => if n.kind = 1 then evs (ev φ f) tA n.count.toNat 1 l else if n.kind = 2 then evs (ev φ f) tO n.count.toNat 0 l else if n.kind = 3 then (match ev φ f l with | some (t, r) => some (tN t, r) | none => none) else some (φ n, l)
def okN (n : QNodeV) : Prop := n.kind = 4 ∨ (n.kind = 3 ∧ n.count = 1) ∨ ((n.kind = 1 ∨ n.kind = 2) ∧ 2 ≤ n.count)
theorem okN.has {n : QNodeV} (h : okN n) : hasI n.kind n.count = if n.kind = 4 then 0 else n.count := by
  unfold okN at h
  unfold hasI
  repeat' split
  all_goals omega
theorem evs_ex (φ : QNodeV → Int) (f : Nat) (ih : ∀ (l : List QNodeV) (k : Nat), (∀ n ∈ l, okN n) → sU l 1 = some k → k ≤ f → ∃ t, ev φ f l = some (t, l.drop k)) (j : Int → Int → Int) : ∀ (c : Nat) (acc : Int) (l : List QNodeV) (k : Nat), (∀ n ∈ l, okN n) → sU l c = some k → k ≤ f → ∃ t, evs (ev φ f) j c acc l = some (t, l.drop k)
  | 0, acc, l, k, hl, hk, hf => by
    rw [sU_zero] at hk
    simp at hk; subst hk
    exact ⟨acc, rfl⟩
  | c + 1, acc, l, k, hl, hk, hf => by
    rw [show c + 1 = 1 + c by omega, sU_add] at hk
    rw [Option.bind_eq_some_iff] at hk
    obtain ⟨k1, h1, h2⟩ := hk
    rw [Option.map_eq_some_iff] at h2
    obtain ⟨k2, h2, h3⟩ := h2
    obtain ⟨t, ht⟩ := ih l k1 hl h1 (by omega)
    obtain ⟨u, hu⟩ := evs_ex φ f ih j c (j acc t) (l.drop k1) k2 (fun n hn => hl n (List.mem_of_mem_drop hn)) h2 (by omega)
    refine ⟨u, ?_⟩
    unfold evs
    rw [ht]
    simp only
    rw [hu, List.drop_drop, show k1 + k2 = k by omega]
theorem ev_ex (φ : QNodeV → Int) : ∀ (f : Nat) (l : List QNodeV) (k : Nat), (∀ n ∈ l, okN n) → sU l 1 = some k → k ≤ f → ∃ t, ev φ f l = some (t, l.drop k)
  | 0, l, k, hl, hk, hf => by have := sU_le _ _ _ hk; omega
  | f + 1, [], k, hl, hk, hf => by have := sU_le _ _ _ hk; simp at this; omega
  | f + 1, n :: l, k, hl, hk, hf => by
    have hn := hl n (List.mem_cons_self ..)
    have hl' : ∀ x ∈ l, okN x := fun x hx => hl x (List.mem_cons_of_mem _ hx)
    have hh := hn.has
    rw [sU] at hk
    unfold okN at hn
    by_cases e : hasI n.kind n.count < 0
    · rw [if_pos e] at hk
      cases hk
    · rw [if_neg e, Option.map_eq_some_iff] at hk
      obtain ⟨k', hk, rfl⟩ := hk
      simp only [List.drop_succ_cons]
      rw [Nat.zero_add, hh] at hk
      unfold ev
      by_cases h1 : n.kind = 1
      · rw [if_pos h1]
        rw [if_neg (by omega)] at hk
        exact evs_ex φ f (ev_ex φ f) _ _ _ _ _ hl' hk (by omega)
      · rw [if_neg h1]
        by_cases h2 : n.kind = 2
        · rw [if_pos h2]
          rw [if_neg (by omega)] at hk
          exact evs_ex φ f (ev_ex φ f) _ _ _ _ _ hl' hk (by omega)
        · rw [if_neg h2]
          by_cases h3 : n.kind = 3
          · rw [if_pos h3]
            rw [if_neg (by omega), show n.count.toNat = 1 by omega] at hk
            obtain ⟨t, ht⟩ := ev_ex φ f l k' hl' hk (by omega)
            exact ⟨tN t, by rw [ht]⟩
          · rw [if_neg h3]
            rw [if_pos (by omega)] at hk
            rw [show (0 : Int).toNat = 0 from rfl, sU_zero] at hk
            simp at hk; subst hk
            exact ⟨φ n, rfl⟩
/-- what the nodes at the head of a list say -/
def E (φ : QNodeV → Int) (f : Nat) (l : List QNodeV) : Int := ((ev φ f l).getD (0, [])).1
def ES (φ : QNodeV → Int) (f : Nat) (j : Int → Int → Int) (c : Nat) (acc : Int) (l : List QNodeV) : Int := ((evs (ev φ f) j c acc l).getD (0, [])).1
theorem ES_zero (φ : QNodeV → Int) (f : Nat) (j : Int → Int → Int) (acc : Int) (l : List QNodeV) : ES φ f j 0 acc l = acc := rfl
theorem ES_succ (φ : QNodeV → Int) (f : Nat) (j : Int → Int → Int) (c : Nat) (acc : Int) (l : List QNodeV) (k : Nat) (hl : ∀ n ∈ l, okN n) (hk : sU l 1 = some k) (hf : k ≤ f) : ES φ f j (c + 1) acc l = ES φ f j c (j acc (E φ f l)) (l.drop k) := by
  obtain ⟨t, ht⟩ := ev_ex φ f l k hl hk hf
  unfold ES E
  rw [evs, ht]
  rfl
theorem E_cons (φ : QNodeV → Int) (f : Nat) (n : QNodeV) (l : List QNodeV) : E φ (f + 1) (n :: l) = if n.kind = 1 then ES φ f tA n.count.toNat 1 l else if n.kind = 2 then ES φ f tO n.count.toNat 0 l else if n.kind = 3 then (match ev φ f l with | some (t, r) => tN t | none => 0) else φ n := by
  unfold E ES
  rw [ev]
  split
  · rfl
  · split
    · rfl
    · split
      · cases ev φ f l with
        | none => rfl
        | some x => rfl
      · rfl
theorem E_not (φ : QNodeV → Int) (f : Nat) (n : QNodeV) (l : List QNodeV) (k : Nat) (h3 : n.kind = 3) (hl : ∀ n ∈ l, okN n) (hk : sU l 1 = some k) (hf : k ≤ f) : E φ (f + 1) (n :: l) = tN (E φ f l) := by
  obtain ⟨t, ht⟩ := ev_ex φ f l k hl hk hf
  rw [E_cons, if_neg (by omega), if_neg (by omega), if_pos h3]
  unfold E
  rw [ht]; rfl
/-! Values are truths -/
def Tru (t : Int) : Prop := t = 0 ∨ t = 1 ∨ t = 2
theorem tN_tru (a : Int) : Tru (tN a) := by unfold tN Tru; repeat' split <;> omega
theorem tA_tru (a b : Int) : Tru (tA a b) := by unfold tA Tru; repeat' split <;> omega
theorem tO_tru (a b : Int) : Tru (tO a b) := by unfold tO Tru; repeat' split <;> omega
theorem tA_one {a : Int} (h : Tru a) : tA 1 a = a := by unfold tA; unfold Tru at h; repeat' split <;> omega
theorem tO_zero {a : Int} (h : Tru a) : tO 0 a = a := by unfold tO; unfold Tru at h; repeat' split <;> omega
/-! Two readings, side by side: a relation that all joins keep -/
theorem evs_rel {R : Int → Int → Prop} {φ ψ : QNodeV → Int} {f : Nat} (j : Int → Int → Int) (hj : ∀ a b c d, R a b → R c d → R (j a c) (j b d))
    (ih : ∀ l t r u s, ev φ f l = some (t, r) → ev ψ f l = some (u, s) → R t u ∧ r = s) : ∀ (c : Nat) (a b : Int) (l : List QNodeV) t r u s, R a b → evs (ev φ f) j c a l = some (t, r) → evs (ev ψ f) j c b l = some (u, s) → R t u ∧ r = s
  | 0, a, b, l, t, r, u, s, hab, h1, h2 => by
    simp [evs] at h1 h2
    obtain ⟨rfl, rfl⟩ := h1
    obtain ⟨rfl, rfl⟩ := h2
    exact ⟨hab, rfl⟩
  | c + 1, a, b, l, t, r, u, s, hab, h1, h2 => by
    unfold evs at h1 h2
    cases e1 : ev φ f l with
    | none => rw [e1] at h1; cases h1
    | some x =>
      cases e2 : ev ψ f l with
      | none => rw [e2] at h2; cases h2
      | some y =>
        obtain ⟨x1, x2⟩ := x
        obtain ⟨y1, y2⟩ := y
        rw [e1] at h1
        rw [e2] at h2
        obtain ⟨q1, rfl⟩ := ih l x1 x2 y1 y2 e1 e2
        exact evs_rel j hj ih c _ _ x2 t r u s (hj _ _ _ _ hab q1) h1 h2
theorem ev_rel {R : Int → Int → Prop} {φ ψ : QNodeV → Int} (hA : ∀ a b c d, R a b → R c d → R (tA a c) (tA b d)) (hO : ∀ a b c d, R a b → R c d → R (tO a c) (tO b d)) (hN : ∀ a b, R a b → R (tN a) (tN b)) (h1 : R 1 1) (h0 : R 0 0) (P : QNodeV → Prop) (hφ : ∀ n, P n → R (φ n) (ψ n)) (hP : ∀ n, P n) :
    ∀ (f : Nat) (l : List QNodeV) t r u s, ev φ f l = some (t, r) → ev ψ f l = some (u, s) → R t u ∧ r = s
  | 0, l, t, r, u, s, e1, e2 => by simp [ev] at e1
  | f + 1, [], t, r, u, s, e1, e2 => by simp [ev] at e1
  | f + 1, n :: l, t, r, u, s, e1, e2 => by
    have ih := ev_rel hA hO hN h1 h0 P hφ hP f
    unfold ev at e1 e2
    split at e1
    · rename_i hk; rw [if_pos hk] at e2; exact evs_rel tA hA ih _ _ _ l t r u s h1 e1 e2
    · rename_i hk1
      rw [if_neg hk1] at e2
      split at e1
      · rename_i hk; rw [if_pos hk] at e2; exact evs_rel tO hO ih _ _ _ l t r u s h0 e1 e2
      · rename_i hk2
        rw [if_neg hk2] at e2
        split at e1
        · rename_i hk
          rw [if_pos hk] at e2
          cases q1 : ev φ f l with
          | none => rw [q1] at e1; cases e1
          | some x =>
            cases q2 : ev ψ f l with
            | none => rw [q2] at e2; cases e2
            | some y =>
              obtain ⟨x1, x2⟩ := x
              obtain ⟨y1, y2⟩ := y
              rw [q1] at e1
              rw [q2] at e2
              simp at e1 e2
              obtain ⟨rfl, rfl⟩ := e1
              obtain ⟨rfl, rfl⟩ := e2
              obtain ⟨z1, rfl⟩ := ih l x1 x2 y1 y2 q1 q2
              exact ⟨hN _ _ z1, rfl⟩
        · rename_i hk
          rw [if_neg hk] at e2
          simp at e1 e2
          obtain ⟨rfl, rfl⟩ := e1
          obtain ⟨rfl, rfl⟩ := e2
          exact ⟨hφ n (hP n), rfl⟩
theorem ev_tru {φ : QNodeV → Int} (hφ : ∀ n, Tru (φ n)) {f : Nat} {l : List QNodeV} {t : Int} {r : List QNodeV} (h : ev φ f l = some (t, r)) : Tru t :=
  (ev_rel (R := fun a _ => Tru a) (ψ := φ) (fun _ _ _ _ _ _ => tA_tru _ _) (fun _ _ _ _ _ _ => tO_tru _ _) (fun _ _ _ => tN_tru _) (.inr (.inl rfl)) (.inl rfl) (fun _ => True) (fun n _ => hφ n) (fun _ => trivial) f l t r t r h h).1
theorem E_tru {φ : QNodeV → Int} (hφ : ∀ n, Tru (φ n)) (f : Nat) (l : List QNodeV) : Tru (E φ f l) := by
  unfold E
  cases h : ev φ f l with
  | none => exact .inl rfl
  | some x => exact ev_tru hφ h
end Go.Proofs.Ytedooldplfjodaa
