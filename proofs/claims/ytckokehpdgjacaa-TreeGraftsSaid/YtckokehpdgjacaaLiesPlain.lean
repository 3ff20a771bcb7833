/-
  Plain law: in a tree what stands beneath a node is what lies between it and its end; its kids follow each other from end to end.
-/
import Derived.Test.YtckokehpdgjacaaTreePlain2
namespace Go.Proofs.Ytckokehpdgjacaa
namespace Pl
set_option linter.unusedVariables false

/-- each node but the first stands beneath the node ahead of it, or beneath one that stands above that one -/
def Treeish (p : Nat → Int) (n : Nat) : Prop := ∀ k, k + 1 < n → ∃ q : Nat, up p (k + 1) = q ∧ (q = k ∨ q ∈ ups p k)

theorem chk_all {R : Nat → Bool} {D : Nat → Nat} : ∀ (l : List Nat), chk R D l = 0 → ∀ k ∈ l, R k = true
  | i :: r, h, k, hk => by
    unfold chk at h
    split at h
    · rename_i hR
      split at h
      · cases h
      · rcases List.mem_cons.1 hk with rfl | hk
        · exact hR
        · exact chk_all r h k hk
    · cases h

theorem treeish_of {p : Nat → Int} {tg : Nat → Bool} {R : Nat → Bool} {n : Nat} (h : checkN (fun k => R k && standsN p tg k) (dep p) n = 0) : Treeish p n := by
  intro k hk
  unfold checkN at h
  rw [if_neg (by omega)] at h
  split at h
  · cases h
  · have h1 := chk_all _ h (k + 1) (List.mem_range'_1.2 (by omega))
    have h2 : standsN p tg (k + 1) = true := by
      simp only [Bool.and_eq_true] at h1; exact h1.2
    unfold standsN at h2
    rw [if_neg (by omega)] at h2
    simp only [Bool.and_eq_true, decide_eq_true_eq] at h2
    obtain ⟨⟨h3, _⟩, h4⟩ := h2
    obtain ⟨q, hq⟩ := Int.eq_ofNat_of_zero_le h3
    refine ⟨q, hq, ?_⟩
    rw [show ((k + 1 : Nat) : Int) - 1 = (k : Int) by omega, hq] at h4
    unfold inFrom at h4
    rw [from_nat] at h4
    simpa using h4

theorem ups_up {p : Nat → Int} {k q : Nat} (h : up p k = q) : ups p k = q :: ups p q := by
  rw [ups_eq, h, if_pos (by omega)]; rfl

theorem up_path {p : Nat → Int} {n : Nat} (ht : Treeish p n) {k m : Nat} (hk : k + 1 < n) (hm : m ∈ ups p (k + 1)) : m = k ∨ m ∈ ups p k := by
  obtain ⟨q, hq, h⟩ := ht k hk
  rw [ups_up hq] at hm
  rcases List.mem_cons.1 hm with rfl | hm
  · exact h
  · rcases h with rfl | h
    · exact Or.inr hm
    · exact Or.inr (ups_trans p k q m h hm)

theorem out_step {p : Nat → Int} {n : Nat} (ht : Treeish p n) {i : Nat} : ∀ (d k : Nat), k + d < n → i < k → i ∉ ups p k → i ∉ ups p (k + d)
  | 0, k, _, _, h => h
  | d + 1, k, hn, hk, h => by
    have ih := out_step ht (i := i) d k (by omega) hk h
    intro h2
    rcases up_path ht (k := k + d) (by omega) h2 with h3 | h3
    · omega
    · exact ih h3

theorem endK_spec (p : Nat → Int) (n : Nat) (i : Int) : ∀ (f k : Nat), n - k ≤ f → k ≤ n → (∀ m, k ≤ m → m < endK p n i k → under p m i = true) ∧ (endK p n i k < n → under p (endK p n i k) i = false)
  | 0, k, hf, hk => by rw [endK_stop p n i k (by omega)]; exact ⟨fun m h1 h2 => by omega, fun h => by omega⟩
  | f + 1, k, hf, hk => by
    by_cases h : k < n
    · rw [endK_step p n i k h]
      split
      · rename_i hu
        obtain ⟨h1, h2⟩ := endK_spec p n i f (k + 1) (by omega) (by omega)
        refine ⟨fun m hm1 hm2 => ?_, h2⟩
        by_cases e : m = k
        · rw [e]; exact hu
        · exact h1 m (by omega) hm2
      · rename_i hu
        exact ⟨fun m h1 h2 => by omega, fun _ => by simpa using hu⟩
    · rw [endK_stop p n i k (by omega)]; exact ⟨fun m h1 h2 => by omega, fun h => by omega⟩

/-- where what stands beneath a node ends -/
def E (p : Nat → Int) (n i : Nat) : Nat := endK p n i (i + 1)
theorem E_bd (p : Nat → Int) {n i : Nat} (hi : i < n) : i < E p n i ∧ E p n i ≤ n := by
  have := endK_le p n i (n - (i + 1)) (i + 1) (Nat.le_refl _) (by omega)
  unfold E; omega
theorem endI_E (p : Nat → Int) {n i : Nat} (hi : i < n) : endI p n i = (E p n i : Int) := by
  unfold endI; rw [if_pos (by omega)]; rfl

theorem lies {p : Nat → Int} {n : Nat} (ht : Treeish p n) {i : Nat} (hi : i < n) {k : Nat} (hk : k < n) : i ∈ ups p k ↔ (i < k ∧ k < E p n i) := by
  obtain ⟨h1, h2⟩ := endK_spec p n i (n - (i + 1)) (i + 1) (Nat.le_refl _) (by omega)
  have hb := E_bd p hi
  constructor
  · intro h
    have hlt := ups_lt p k i h
    refine ⟨hlt, ?_⟩
    rcases Nat.lt_or_ge k (E p n i) with h3 | h3
    · exact h3
    · have h4 := h2 (show E p n i < n by omega)
      have h5 : i ∉ ups p (E p n i) := fun h6 => by
        have := (under_mem p (E p n i) i).2 h6
        rw [show E p n i = endK p n i (i + 1) from rfl] at this
        rw [h4] at this; cases this
      have := out_step ht (k - E p n i) (E p n i) (by omega) hb.1 h5
      rw [show E p n i + (k - E p n i) = k by omega] at this
      exact absurd h this
  · rintro ⟨h3, h4⟩
    exact (under_mem p k i).1 (h1 k (by omega) h4)

theorem lies_b {p : Nat → Int} {n : Nat} (ht : Treeish p n) {i : Nat} (hi : i < n) {k : Nat} (hk : k < n) : under p k i = (decide (i < k) && decide (k < E p n i)) := by
  rw [Bool.eq_iff_iff, under_mem, lies ht hi hk]; simp

/-- do kids follow each other, from 'at' to the end? -/
def chain (p : Nat → Int) (n : Nat) (e : Nat) : List Nat → Nat → Prop
  | [], x => x = e
  | c :: r, x => c = x ∧ chain p n e r (E p n c)

def kidsFrom (p : Nat → Int) (n i x : Nat) : List Nat := (List.range' x (n - x)).filter fun m => decide (up p m = i)

theorem kidsFrom_step (p : Nat → Int) (n i x : Nat) (h : x < n) : kidsFrom p n i x = if up p x = i then x :: kidsFrom p n i (x + 1) else kidsFrom p n i (x + 1) := by
  unfold kidsFrom
  rw [show n - x = (n - (x + 1)) + 1 by omega, List.range'_succ, List.filter_cons]
  by_cases h : up p x = i <;> simp [h]

theorem kidsFrom_skip (p : Nat → Int) (n i : Nat) : ∀ (d x : Nat), x + d ≤ n → (∀ m, x ≤ m → m < x + d → ¬ up p m = i) → kidsFrom p n i x = kidsFrom p n i (x + d)
  | 0, x, _, _ => rfl
  | d + 1, x, hn, h => by
    rw [kidsFrom_step p n i x (by omega), if_neg (h x (Nat.le_refl _) (by omega)), kidsFrom_skip p n i d (x + 1) (by omega) (fun m h1 h2 => h m (by omega) (by omega))]
    rw [show x + 1 + d = x + (d + 1) by omega]

theorem kidsFrom_end (p : Nat → Int) (n i : Nat) : kidsFrom p n i n = [] := by unfold kidsFrom; simp

theorem mem_ups_of_up {p : Nat → Int} {m i : Nat} (h : up p m = i) : i ∈ ups p m := by rw [ups_up h]; exact List.mem_cons_self

theorem chain_all {p : Nat → Int} {n : Nat} (ht : Treeish p n) {i : Nat} (hi : i < n) : ∀ (f x : Nat), n - x ≤ f → i < x → x ≤ E p n i → (x < E p n i → up p x = i) → chain p n (E p n i) (kidsFrom p n i x) x := by
  intro f
  induction f with
  | zero =>
    intro x hf hx hxe hup
    have hb := E_bd p hi
    have e : x = n := by omega
    have e2 : E p n i = n := by omega
    rw [e, kidsFrom_end]
    exact e2.symm
  | succ f ih =>
    intro x hf hx hxe hup
    have hb := E_bd p hi
    by_cases hend : x < E p n i
    · have hu := hup hend
      have hxn : x < n := by omega
      have hbx := E_bd p hxn
      rw [kidsFrom_step p n i x hxn, if_pos hu]
      refine ⟨rfl, ?_⟩
      have hi_x : i ∈ ups p x := mem_ups_of_up hu
      have hle : E p n x ≤ E p n i := by
        by_cases h1 : E p n x = x + 1
        · omega
        · have h2 : x ∈ ups p (E p n x - 1) := (lies ht hxn (by omega)).2 (by omega)
          have h3 := (lies ht hi (k := E p n x - 1) (by omega)).1 (ups_trans p _ x i h2 hi_x)
          omega
      have hskip : kidsFrom p n i (x + 1) = kidsFrom p n i (E p n x) := by
        have := kidsFrom_skip p n i (E p n x - (x + 1)) (x + 1) (by omega) (fun m h1 h2 h3 => by
          have h4 : x ∈ ups p m := (lies ht hxn (k := m) (by omega)).2 (by omega)
          rw [ups_up h3] at h4
          rcases List.mem_cons.1 h4 with h5 | h5
          · omega
          · have := ups_lt p i x h5; omega)
        rw [show x + 1 + (E p n x - (x + 1)) = E p n x by omega] at this
        exact this
      rw [hskip]
      refine ih (E p n x) (by omega) (by omega) hle (fun hlt => ?_)
      -- the node at x's end
      have hyn : E p n x < n := by omega
      obtain ⟨y, hy⟩ : ∃ y, E p n x = y + 1 := ⟨E p n x - 1, by omega⟩
      have hiy : i ∈ ups p (y + 1) := (lies ht hi (k := y + 1) (by omega)).2 (by omega)
      have hxy : x ∉ ups p (y + 1) := fun h => by have := (lies ht hxn (k := y + 1) (by omega)).1 h; omega
      obtain ⟨q, hq, hqp⟩ := ht y (by omega)
      rw [hy, hq]
      rw [ups_up hq] at hiy hxy
      simp only [List.mem_cons, not_or] at hiy hxy
      rcases hiy with h1 | h1
      · rw [h1]
      · exfalso
        have hiq := ups_lt p q i h1
        -- x lies on the way up of y, or is y
        have hxq : x = y ∨ x ∈ ups p y := by
          by_cases h2 : x = y
          · exact Or.inl h2
          · exact Or.inr ((lies ht hxn (k := y) (by omega)).2 (by omega))
        have hqx : q ∈ ups p x := by
          rcases hqp with h3 | h3
          · rcases hxq with h4 | h4
            · exact absurd (h4.trans h3.symm) hxy.1
            · exact absurd (h3 ▸ h4) hxy.2
          · rcases hxq with h4 | h4
            · rw [h4]; exact h3
            · rcases Nat.lt_trichotomy q x with h5 | h5 | h5
              · exact ups_chain p y x q h4 h3 h5
              · exact absurd h5.symm hxy.1
              · exact absurd (ups_chain p y q x h3 h4 h5) hxy.2
        rw [ups_up hu] at hqx
        rcases List.mem_cons.1 hqx with h6 | h6
        · omega
        · have := ups_lt p i q h6; omega
    · have e : x = E p n i := by omega
      have hnone : kidsFrom p n i x = [] := by
        have := kidsFrom_skip p n i (n - x) x (by omega) (fun m h1 h2 h3 => by
          have := (lies ht hi (k := m) (by omega)).1 (mem_ups_of_up h3)
          omega)
        rw [this, show x + (n - x) = n by omega, kidsFrom_end]
      rw [hnone]
      exact e

theorem kids_from (p : Nat → Int) {n i : Nat} (hi : i < n) : kidsI p n i = kidsFrom p n i (i + 1) := by
  unfold kidsI kidsTo
  rw [if_pos (by omega)]
  have h0 : (List.range n).filter (fun m => decide (up p m = i)) = kidsFrom p n i 0 := by
    unfold kidsFrom; rw [Nat.sub_zero, List.range_eq_range']
  rw [h0, kidsFrom_skip p n i (i + 1) 0 (by omega) (fun m h1 h2 h3 => by have := up_lt p m; omega)]
  rw [Nat.zero_add]

theorem chain_kids {p : Nat → Int} {n : Nat} (ht : Treeish p n) {i : Nat} (hi : i < n) : chain p n (E p n i) (kidsI p n i) (i + 1) := by
  rw [kids_from p hi]
  have hb := E_bd p hi
  refine chain_all ht hi (n - (i + 1)) (i + 1) (Nat.le_refl _) (by omega) (by omega) (fun h => ?_)
  have h1 : i ∈ ups p (i + 1) := (lies ht hi (k := i + 1) (by omega)).2 (by omega)
  obtain ⟨q, hq, _⟩ := ht i (by omega)
  rw [hq]
  rw [ups_up hq] at h1
  rcases List.mem_cons.1 h1 with h2 | h2
  · rw [h2]
  · have := ups_lt p q i h2
    have := up_lt p (i + 1)
    omega

end Pl
end Go.Proofs.Ytckokehpdgjacaa
