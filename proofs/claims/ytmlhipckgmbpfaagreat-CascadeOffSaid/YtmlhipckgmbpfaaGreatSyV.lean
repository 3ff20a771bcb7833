/-
  The symbolic interpreter: contracts of the walks at slices that are read alone, and back.
-/
import Derived.Test.YtmlhipckgmbpfaaGreatSyUse
import Derived.Test.YtmlhipckgmbpfaaGreatSyT
import Derived.Test.YtmlhipckgmbpfaaGreatBase
namespace Go.Proofs.YtmlhipckgmbpfaaGreat
open Go Go.RowKit
set_option linter.unusedVariables false
namespace Sy

theorem rows_of {α : Type} {cells : α → List Value} {s : Nat} {d : α} {ρ : Rho} {w : World} {xs : List α} {u : Value} (hst : ∀ g o x, ρ.still g o = some x → w.cell? ⟨g, o, none⟩ = some x) (hr : rel ρ (viewOf cells d s xs) u) (hc : ∀ x, (cells x).length = s) (hs : 0 < s) (hsm : xs.length ≤ 17592186044416) :
    ∃ a cap, u = .slice a xs.length cap ∧ Rows cells s w a cap xs := by
  simp only [viewOf, rel] at hr
  obtain ⟨a, cap, rfl, h2, h3, h4, h5⟩ := hr
  refine ⟨a, cap, rfl, h2, by simpa [maxLen] using h3, hsm, h4, fun hne => ?_⟩
  have hpos : 0 < xs.length := List.length_pos_iff.2 hne
  obtain ⟨g, o, rfl, h7⟩ := h5 hpos
  have lt : g < w.heap.size := by
    obtain ⟨x, h8, _⟩ := h7 0 0 hpos hs
    have := hst _ _ _ h8
    rcases Nat.lt_or_ge g w.heap.size with hh | hh
    · exact hh
    · simp only [World.cell?] at this; rw [Array.getElem?_eq_none hh] at this; cases this
  refine ⟨g, o, rfl, lt, fun k hk j u hu => ?_⟩
  have hj : j < s := by
    rcases Nat.lt_or_ge j s with h | h
    · exact h
    · rw [List.getElem?_eq_none (by rw [hc]; exact h)] at hu; cases hu
  obtain ⟨x, h8, h9, _⟩ := h7 k j hk hj
  have hg : xs.getD k d = xs[k] := by rw [List.getD_eq_getElem?_getD, List.getElem?_eq_getElem hk]; rfl
  rw [hg, List.getD_eq_getElem?_getD, hu] at h9
  simp only [Option.getD_some] at h9
  subst h9
  exact hst _ _ _ h8

/-- a walk's contract, of a slice and of plain values: a plain value -/
theorem of_walk {α : Type} {cells : α → List Value} {s : Nat} {d : α} {P : Program} {f : FuncId} (xs : List α) (rest : List Value) (u : Value) (hc : ∀ x, (cells x).length = s) (hs : 0 < s) (hsm : xs.length ≤ 17592186044416)
    (h : ∀ w a cap, Rows cells s w a cap xs → Calls P f (Value.slice a xs.length cap :: rest).toArray w fun e w' => e = .returned u ∧ Below w.heap.size w w') (M : Mem) : CallTo P f (viewOf cells d s xs :: rest.map .lit) M fun v M' => v = .lit u ∧ M' = M := fun w0 ρ us w hr hW => by
  simp only [rels] at hr
  obtain ⟨x, xs', rfl, h1, h2⟩ := hr
  have e : xs' = rest := toVals_eq (by
    clear h2 hW h h1
    induction rest with
    | nil => rfl
    | cons x xs ih => simp [toVals, toVal, ih]) h2
  subst e
  obtain ⟨a, cap, rfl, hR⟩ := rows_of hW.still h1 hc hs hsm
  refine (h w a cap hR).mono ?_
  rintro e w' ⟨rfl, hb⟩
  obtain ⟨q1, q2⟩ := hW.grown hb (fun _ _ => none) (fun _ _ _ h => by cases h)
  exact ⟨_, u, .lit u, M, rfl, q1, by simp [rel], q2, rfl, rfl⟩
/-- new rows, seen as rows that nobody writes -/
theorem rel_new {α : Type} {cells : α → List Value} {s : Nat} (d : α) {w0 : World} {ρ : Rho} {M : Mem} {w w' : World} {a : Option Addr} {cap : Nat} {ys : List α} (hW : WR w0 ρ M w) (hR : Rows cells s w' a cap ys) (hn : ∀ ad, a = some ad → w.heap.size ≤ ad.block) (hc : ∀ x, (cells x).length = s) (ho : ∀ x, ∀ u ∈ cells x, u.oneCell' = true) :
    rel (more ρ fun g o => if w.heap.size ≤ g then w'.cell? ⟨g, o, none⟩ else none) (viewOf cells d s ys) (.slice a ys.length cap) := by
  simp only [viewOf, rel]
  refine ⟨a, cap, rfl, hR.le, hR.max, hR.nil, fun hpos => ?_⟩
  obtain ⟨b, off, rfl, hb, hcell⟩ := hR.base (fun e => by rw [e] at hpos; simp at hpos)
  have hbl := hn _ rfl
  refine ⟨b, off, rfl, fun i j hi hj => ?_⟩
  have hg : ys.getD i d = ys[i] := by rw [List.getD_eq_getElem?_getD, List.getElem?_eq_getElem hi]; rfl
  have hj' : j < (cells ys[i]).length := by rw [hc]; exact hj
  have hu : (cells ys[i])[j]? = some (cells ys[i])[j] := List.getElem?_eq_getElem hj'
  refine ⟨(cells ys[i])[j], ?_, ?_, ho _ _ (List.getElem_mem _)⟩
  · simp only [more]
    rw [if_pos hbl, hcell i hi j _ hu]
    cases hs : ρ.still b (off + i * s + j) with
    | none => rfl
    | some y => have := hW.still_lt hs; simp only at hbl; omega
  · rw [hg, List.getD_eq_getElem?_getD, hu]
    simp only [Option.getD_some]
/-- a walk's contract, of a slice and of plain values: a new slice -/
theorem of_walkV {α : Type} {cells : α → List Value} {s : Nat} {d : α} {P : Program} {f : FuncId} (xs ys : List α) (rest : List Value) (hc : ∀ x, (cells x).length = s) (ho : ∀ x, ∀ u ∈ cells x, u.oneCell' = true) (hs : 0 < s) (hsm : xs.length ≤ 17592186044416)
    (h : ∀ w a cap, Rows cells s w a cap xs → Calls P f (Value.slice a xs.length cap :: rest).toArray w fun e w' => ∃ a' cap', e = .returned (.slice a' ys.length cap') ∧ Rows cells s w' a' cap' ys ∧ (∀ ad, a' = some ad → w.heap.size ≤ ad.block) ∧ Below w.heap.size w w') (M : Mem) :
    CallTo P f (viewOf cells d s xs :: rest.map .lit) M fun v M' => v = viewOf cells d s ys ∧ M' = M := fun w0 ρ us w hr hW => by
  simp only [rels] at hr
  obtain ⟨x, xs', rfl, h1, h2⟩ := hr
  have e : xs' = rest := toVals_eq (by
    clear h2 hW h h1
    induction rest with
    | nil => rfl
    | cons x xs ih => simp [toVals, toVal, ih]) h2
  subst e
  obtain ⟨a, cap, rfl, hR⟩ := rows_of hW.still h1 hc hs hsm
  refine (h w a cap hR).mono ?_
  rintro e w' ⟨a', cap', rfl, hR', hn, hb⟩
  obtain ⟨q1, q2⟩ := hW.grown hb (fun g o => if w.heap.size ≤ g then w'.cell? ⟨g, o, none⟩ else none) (fun g o v hv => by
    split at hv
    · rename_i hh; exact ⟨hh, hv⟩
    · cases hv)
  exact ⟨_, _, _, M, rfl, q1, rel_new d hW hR' hn hc ho, q2, rfl, rfl⟩
/-- and back -/
theorem CallTo.back {P : Program} {f : FuncId} {args : List AV} {v0 : AV} (h : CallTo P f args ⟨0, 0, []⟩ fun v _ => v = v0) {w : World} {us : List Value} (hr : rels (rho0 w) args us) :
    Calls P f us.toArray w fun e w' => ∃ u ρ', e = .returned u ∧ rel ρ' v0 u ∧ (∀ g o x, ρ'.still g o = some x → w'.cell? ⟨g, o, none⟩ = some x) ∧ Below w.heap.size w w' := by
  refine (h w (rho0 w) us w hr (WR.start w)).mono ?_
  rintro e w' ⟨ρ', u, v, M', rfl, hE, hv, hW', rfl⟩
  refine ⟨u, ρ', rfl, hv, hW'.still, ?_⟩
  have := hW'.keep
  rw [hE.mine] at this
  exact Keep.below this

/-- what stands for a value stands for another one, too -/
def Sub (v v0 : AV) : Prop := ∀ ρ u, rel ρ v u → rel ρ v0 u
theorem Sub.refl (v : AV) : Sub v v := fun _ _ h => h
theorem Sub.of_eq {v v0 : AV} (h : v = v0) : Sub v v0 := h ▸ Sub.refl v
theorem Sub.nil (s : Nat) (cell : Nat → Nat → AV) : Sub (.lit (.slice none 0 0)) (.view 0 s cell) := fun ρ u h => by
  simp only [rel] at h ⊢
  exact ⟨none, 0, h, Nat.le_refl _, Nat.zero_le _, fun _ => rfl, fun h => absurd h (by omega)⟩
theorem Sub.view {n n' s : Nat} {cell cell' : Nat → Nat → AV} (hn : n = n') (h : ∀ i j, i < n → j < s → cell i j = cell' i j) : Sub (.view n s cell) (.view n' s cell') := fun ρ u hr => by
  subst hn; exact rel_view_congr h hr
def Subs : List AV → List AV → Prop
  | [], [] => True
  | a :: l, b :: m => Sub a b ∧ Subs l m
  | _, _ => False
theorem Subs.rels {ρ : Rho} : ∀ {l m : List AV} {us : List Value}, Subs l m → rels ρ l us → rels ρ m us
  | [], [], us, _, h => h
  | a :: l, b :: m, us, hs, h => by
    simp only [Sy.rels] at h ⊢
    obtain ⟨u, us', rfl, h1, h2⟩ := h
    exact ⟨u, us', rfl, hs.1 _ _ h1, Subs.rels hs.2 h2⟩
  | [], _ :: _, _, hs, _ => hs.elim
  | _ :: _, [], _, hs, _ => hs.elim
theorem Sub.tup {l m : List AV} (h : Subs l m) : Sub (.tup l) (.tup m) := fun ρ u hr => by
  simp only [rel] at hr ⊢
  obtain ⟨us, h1, h2⟩ := hr
  exact ⟨us, h1, Subs.rels h h2⟩
theorem Sub.agg {l m : List AV} (h : Subs l m) : Sub (.agg l) (.agg m) := fun ρ u hr => by
  simp only [rel] at hr ⊢
  obtain ⟨us, h1, h2⟩ := hr
  exact ⟨us, h1, Subs.rels h h2⟩
theorem CallTo.as {P : Program} {f : FuncId} {args : List AV} {M : Mem} {v0 : AV} (h : CallTo P f args M fun v _ => Sub v v0) : CallTo P f args M fun v _ => v = v0 := fun w0 ρ us w hr hW =>
  (h w0 ρ us w hr hW).mono fun e w' ⟨ρ', u, v, M', q1, q2, q3, q4, q5⟩ => ⟨ρ', u, v0, M', q1, q2, q5 ρ' u q3, q4, rfl⟩

/-! ### Loops that go from place to place -/
def hop (g : Nat → Bool) (nx : Nat → Nat) (m : Nat) : Nat → Nat → Nat
  | 0, k => k
  | f + 1, k => if k < m ∧ g k = false then hop g nx m f (nx k) else k
/-- from a place on, the first that fits, or the end -/
def hops (g : Nat → Bool) (nx : Nat → Nat) (m k : Nat) : Nat := hop g nx m (m - k) k
theorem hop_more {g : Nat → Bool} {nx : Nat → Nat} {m : Nat} (hx : ∀ k, k < m → k < nx k) : ∀ (f f' k : Nat), m - k ≤ f → m - k ≤ f' → hop g nx m f k = hop g nx m f' k := by
  intro f
  induction f with
  | zero =>
    intro f' k h1 h2
    cases f' with
    | zero => rfl
    | succ f' => simp only [hop]; rw [if_neg (by omega)]
  | succ f ih =>
    intro f' k h1 h2
    cases f' with
    | zero => simp only [hop]; rw [if_neg (by omega)]
    | succ f' =>
      simp only [hop]
      split
      · rename_i h
        have := hx k h.1
        exact ih f' (nx k) (by omega) (by omega)
      · rfl
theorem hops_step {g : Nat → Bool} {nx : Nat → Nat} {m : Nat} (hx : ∀ k, k < m → k < nx k) (k : Nat) : hops g nx m k = if k < m ∧ g k = false then hops g nx m (nx k) else k := by
  unfold hops
  by_cases h : k < m
  · rw [show m - k = (m - k - 1) + 1 by omega]
    simp only [hop]
    split
    · have := hx k h
      exact hop_more hx _ _ _ (by omega) (by omega)
    · rfl
  · rw [show m - k = 0 by omega, if_neg (by omega)]; rfl
theorem hops_end (g : Nat → Bool) (nx : Nat → Nat) {m k : Nat} (h : m ≤ k) : hops g nx m k = k := by
  unfold hops; rw [show m - k = 0 by omega]; rfl
theorem hops_le {g : Nat → Bool} {nx : Nat → Nat} {m : Nat} (hx : ∀ k, k < m → k < nx k) (hm : ∀ k, k < m → nx k ≤ m) : ∀ (f k : Nat), m - k ≤ f → k ≤ m → k ≤ hops g nx m k ∧ hops g nx m k ≤ m := by
  intro f
  induction f with
  | zero => intro k h1 h2; rw [hops_end g nx (by omega)]; omega
  | succ f ih =>
    intro k h1 h2
    rw [hops_step hx]
    split
    · rename_i h
      have h3 := hx k h.1
      have h4 := hm k h.1
      have := ih (nx k) (by omega) h4
      omega
    · omega
theorem hops_at {g : Nat → Bool} {nx : Nat → Nat} {m : Nat} (hx : ∀ k, k < m → k < nx k) : ∀ (f k : Nat), m - k ≤ f → hops g nx m k < m → g (hops g nx m k) = true := by
  intro f
  induction f with
  | zero => intro k h1 h2; rw [hops_end g nx (by omega)] at h2; omega
  | succ f ih =>
    intro k h1 h2
    rw [hops_step hx] at h2 ⊢
    split at h2
    · rename_i h
      rw [if_pos h]
      have h3 := hx k h.1
      exact ih (nx k) (by omega) h2
    · rename_i h
      rw [if_neg h]
      cases hg : g k with
      | true => rfl
      | false => exact absurd ⟨h2, hg⟩ h
theorem hopL {P : Program} {body : Code} (m : Nat) (g : Nat → Bool) (nx : Nat → Nat) (hx : ∀ k, k < m → k < nx k) (hm : ∀ k, k < m → nx k ≤ m) (F E : Nat → Fr) (M : Nat → Mem) (ex1 : Ex)
    (step : ∀ (k n : Nat) (G : Ex → Fr → Mem → Prop), k ≤ m → (k < m → g k = false → LoopTo P body n (F (nx k)) (M (nx k)) G) → (k < m → g k = true → G ex1 (E k) (M k)) → (k = m → G (.exit 0) (F m) (M m)) → LoopTo P body (n + 1) (F k) (M k) G) :
    ∀ k, k ≤ m → LoopTo P body (m - k + 1) (F k) (M k) fun ex F' M' => M' = M (hops g nx m k) ∧ ((hops g nx m k < m ∧ ex = ex1 ∧ F' = E (hops g nx m k)) ∨ (hops g nx m k = m ∧ ex = .exit 0 ∧ F' = F m)) := by
  have key : ∀ (f k : Nat), m - k ≤ f → k ≤ m → ∀ n, m - k ≤ n → LoopTo P body (n + 1) (F k) (M k) fun ex F' M' => M' = M (hops g nx m k) ∧ ((hops g nx m k < m ∧ ex = ex1 ∧ F' = E (hops g nx m k)) ∨ (hops g nx m k = m ∧ ex = .exit 0 ∧ F' = F m)) := by
    intro f
    induction f with
    | zero =>
      intro k h1 h2 n hn
      have : k = m := by omega
      subst this
      exact step k n _ (Nat.le_refl _) (fun h => absurd h (by omega)) (fun h => absurd h (by omega)) (fun _ => by
        rw [hops_end g nx (Nat.le_refl k)]
        exact ⟨rfl, .inr ⟨rfl, rfl, rfl⟩⟩)
    | succ f ih =>
      intro k h1 h2 n hn
      refine step k n _ h2 (fun h3 h4 => ?_) (fun h3 h4 => ?_) (fun h3 => ?_)
      · have h5 := hx k h3
        have h6 := hm k h3
        rw [hops_step hx, if_pos ⟨h3, h4⟩]
        match n, (show 1 ≤ n by omega) with
        | n + 1, _ => exact ih (nx k) (by omega) h6 n (by omega)
      · rw [hops_step hx, if_neg (by rw [h4]; simp)]
        exact ⟨rfl, .inl ⟨h3, rfl, rfl⟩⟩
      · subst h3
        rw [hops_end g nx (Nat.le_refl k)]
        exact ⟨rfl, .inr ⟨rfl, rfl, rfl⟩⟩
  exact fun k hk => key (m - k) k (Nat.le_refl _) hk (m - k) (Nat.le_refl _)
/-- the same, where the last step may lead beyond the end -/
theorem hopM {P : Program} {body : Code} (m : Nat) (g : Nat → Bool) (nx : Nat → Nat) (hx : ∀ k, k < m → k < nx k) (F E : Nat → Fr) (M : Nat → Mem) (ex1 ex2 : Ex)
    (step : ∀ (k n : Nat) (G : Ex → Fr → Mem → Prop), (k < m → g k = false → LoopTo P body n (F (nx k)) (M (nx k)) G) → (k < m → g k = true → G ex1 (E k) (M k)) → (m ≤ k → G ex2 (F k) (M k)) → LoopTo P body (n + 1) (F k) (M k) G) :
    ∀ k, LoopTo P body (m - k + 1) (F k) (M k) fun ex F' M' => M' = M (hops g nx m k) ∧ ((hops g nx m k < m ∧ ex = ex1 ∧ F' = E (hops g nx m k)) ∨ (m ≤ hops g nx m k ∧ ex = ex2 ∧ F' = F (hops g nx m k))) := by
  have key : ∀ (f k : Nat), m - k ≤ f → ∀ n, m - k ≤ n → LoopTo P body (n + 1) (F k) (M k) fun ex F' M' => M' = M (hops g nx m k) ∧ ((hops g nx m k < m ∧ ex = ex1 ∧ F' = E (hops g nx m k)) ∨ (m ≤ hops g nx m k ∧ ex = ex2 ∧ F' = F (hops g nx m k))) := by
    intro f
    induction f with
    | zero =>
      intro k h1 n hn
      have hk : m ≤ k := by omega
      exact step k n _ (fun h => absurd h (by omega)) (fun h => absurd h (by omega)) (fun _ => by
        rw [hops_end g nx hk]
        exact ⟨rfl, .inr ⟨hk, rfl, rfl⟩⟩)
    | succ f ih =>
      intro k h1 n hn
      refine step k n _ (fun h3 h4 => ?_) (fun h3 h4 => ?_) (fun h3 => ?_)
      · have h5 := hx k h3
        rw [hops_step hx, if_pos ⟨h3, h4⟩]
        match n, (show 1 ≤ n by omega) with
        | n + 1, _ => exact ih (nx k) (by omega) n (by omega)
      · rw [hops_step hx, if_neg (by rw [h4]; simp)]
        exact ⟨rfl, .inl ⟨h3, rfl, rfl⟩⟩
      · rw [hops_end g nx h3]
        exact ⟨rfl, .inr ⟨h3, rfl, rfl⟩⟩
  exact fun k => key (m - k) k (Nat.le_refl _) (m - k) (Nat.le_refl _)
theorem hops_clip {g : Nat → Bool} {nx : Nat → Nat} {m : Nat} (hx : ∀ k, k < m → k < nx k) : ∀ (f k : Nat), m - k ≤ f → k ≤ m → hops g (fun k => min (nx k) m) m k = min (hops g nx m k) m := by
  have hx' : ∀ k, k < m → k < (fun k => min (nx k) m) k := fun k h => by have := hx k h; simp only; omega
  intro f
  induction f with
  | zero => intro k h1 h2; rw [hops_end _ _ (by omega), hops_end _ _ (by omega)]; omega
  | succ f ih =>
    intro k h1 h2
    rw [hops_step hx', hops_step hx]
    split
    · rename_i h
      have h3 := hx k h.1
      rcases Nat.lt_or_ge m (nx k) with h4 | h4
      · rw [show min (nx k) m = m by omega, hops_end _ _ (Nat.le_refl m), hops_end g nx (k := nx k) (by omega)]
        omega
      · rw [show min (nx k) m = nx k by omega]
        exact ih (nx k) (by omega) h4
    · omega
end Sy
end Go.Proofs.YtmlhipckgmbpfaaGreat
