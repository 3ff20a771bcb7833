/-
  Plain laws of trees, the second part: ways up listed downwards, where a node may stand.
-/
import Derived.Test.YtckokehpdgjacaaTreePlain
namespace Go.Proofs.Ytckokehpdgjacaa
namespace Pl
set_option linter.unusedVariables false

theorem filt_step : ∀ (U : List Nat) (m : Nat), U.Pairwise (· > ·) → U.filter (fun k => decide (k < m + 1)) = if m ∈ U then m :: U.filter (fun k => decide (k < m)) else U.filter (fun k => decide (k < m))
  | [], m, _ => by simp
  | k :: U, m, hp => by
    obtain ⟨h1, h2⟩ := List.pairwise_cons.1 hp
    have ih := filt_step U m h2
    by_cases e : k = m
    · subst e
      have hnot : k ∉ U := fun h => by have := h1 k h; omega
      rw [if_neg hnot] at ih
      simp only [List.filter_cons, List.mem_cons, true_or, if_true]
      rw [if_pos (by simp), if_neg (by simp), ih]
    · by_cases hlt : k < m
      · have hnot : m ∉ k :: U := by
          intro h
          rcases List.mem_cons.1 h with h | h
          · omega
          · have := h1 m h; omega
        have hnot' : m ∉ U := fun h => hnot (List.mem_cons_of_mem _ h)
        rw [if_neg hnot, List.filter_cons, List.filter_cons, if_pos (by simp; omega), if_pos (by simpa using hlt), ih, if_neg hnot']
      · have m1 : (k :: U).filter (fun k => decide (k < m + 1)) = U.filter (fun k => decide (k < m + 1)) := List.filter_cons_of_neg (by simp; omega)
        have m2 : (k :: U).filter (fun k => decide (k < m)) = U.filter (fun k => decide (k < m)) := List.filter_cons_of_neg (by simpa using hlt)
        rw [m1, m2, ih]
        by_cases hm : m ∈ U
        · rw [if_pos hm, if_pos (List.mem_cons_of_mem _ hm)]
        · rw [if_neg hm, if_neg (by intro h; rcases List.mem_cons.1 h with h | h; omega; exact hm h)]

theorem under_mem (p : Nat → Int) (i m : Nat) : under p i (m : Int) = true ↔ m ∈ ups p i := by
  rw [under_iff]
  exact ⟨fun ⟨k, hk, e⟩ => by have : k = m := by omega
                              rw [← this]; exact hk, fun h => ⟨m, h, rfl⟩⟩

theorem below_step (p : Nat → Int) (i m : Nat) : (ups p i).filter (fun k => decide (k < m + 1)) = if under p i m then m :: (ups p i).filter (fun k => decide (k < m)) else (ups p i).filter (fun k => decide (k < m)) := by
  rw [filt_step _ m (ups_sorted p i)]
  by_cases h : m ∈ ups p i
  · rw [if_pos h, if_pos ((under_mem p i m).2 h)]
  · rw [if_neg h, if_neg (fun h' => h ((under_mem p i m).1 h'))]
theorem below_all (p : Nat → Int) (i : Nat) : (ups p i).filter (fun k => decide (k < i)) = ups p i :=
  List.filter_eq_self.2 (fun k hk => by simpa using ups_lt p i k hk)
theorem below_none (p : Nat → Int) (i : Nat) : (ups p i).filter (fun k => decide (k < 0)) = [] := by simp

/-- how deep a node lies, as a number -/
def dep (p : Nat → Int) (i : Nat) : Nat := 1 + (ups p i).length
theorem dep_up (p : Nat → Int) (i : Nat) (h : 0 ≤ up p i) : dep p i = dep p (up p i).toNat + 1 := by
  unfold dep; rw [ups_eq, if_pos h]; simp; omega
theorem dep_root (p : Nat → Int) (i : Nat) (h : up p i < 0) : dep p i = 1 := by
  unfold dep; rw [ups_eq, if_neg (by omega)]; rfl
theorem dep_le (p : Nat → Int) (i : Nat) : dep p i ≤ i + 1 := by unfold dep; have := ups_len p i; omega
theorem dep_under (p : Nat → Int) : ∀ (i k : Nat), k ∈ ups p i → dep p k < dep p i := by
  intro i
  induction i using Nat.strongRecOn with
  | _ i ih =>
    intro k hk
    have hl := up_lt p i
    rw [ups_eq] at hk
    by_cases h : 0 ≤ up p i
    · rw [if_pos h] at hk
      have hd := dep_up p i h
      rcases List.mem_cons.1 hk with rfl | hk
      · omega
      · have := ih _ (by omega) k hk; omega
    · rw [if_neg h] at hk; cases hk

/-- may a node's parent be q, the node ahead of it being at x of a way up? -/
def inFrom (p : Nat → Int) (x : Int) (q : Nat) : Bool := (from_ p x).contains q

theorem inFrom_none (p : Nat → Int) (x : Int) (q : Nat) (h : x < 0) : inFrom p x q = false := by unfold inFrom; rw [from_none p h]; rfl
theorem inFrom_step (p : Nat → Int) (x : Int) (q : Nat) (h : (q : Int) < x) : inFrom p x q = inFrom p (up p x.toNat) q := by
  obtain ⟨k, rfl⟩ := Int.eq_ofNat_of_zero_le (show 0 ≤ x by omega)
  unfold inFrom
  show (from_ p (k : Int)).contains q = (from_ p (up p k)).contains q
  rw [from_nat, ups_from]
  have : (q == k) = false := by simp; omega
  rw [List.contains_cons, this, Bool.false_or]
theorem inFrom_stop (p : Nat → Int) (x : Int) (q : Nat) (h : x ≤ q) : inFrom p x q = decide (x = q) := by
  by_cases hx : x < 0
  · rw [inFrom_none p x q hx]; symm; simp; omega
  · obtain ⟨k, rfl⟩ := Int.eq_ofNat_of_zero_le (show 0 ≤ x by omega)
    unfold inFrom
    rw [from_nat, Bool.eq_iff_iff]
    simp only [List.contains_eq_mem, List.mem_cons, decide_eq_true_eq]
    constructor
    · rintro (h1 | h1)
      · omega
      · have := ups_lt p k q h1; omega
    · intro h1; left; omega
theorem inFrom_shallow (p : Nat → Int) (x : Int) (q : Nat) (h : (q : Int) < x) (hd : dep p x.toNat ≤ dep p q) : inFrom p x q = false := by
  obtain ⟨k, rfl⟩ := Int.eq_ofNat_of_zero_le (show 0 ≤ x by omega)
  unfold inFrom
  rw [from_nat]
  simp only [List.contains_eq_mem, decide_eq_false_iff_not, List.mem_cons]
  rintro (h1 | h1)
  · omega
  · have := dep_under p k q h1
    have e : (k : Int).toNat = k := rfl
    rw [e] at hd; omega
theorem inFrom_under (p : Nat → Int) (k q : Nat) : inFrom p (k : Int) q = (decide ((q : Int) = k) || under p k q) := by
  unfold inFrom
  rw [from_nat, Bool.eq_iff_iff]
  simp only [List.contains_eq_mem, List.mem_cons, decide_eq_true_eq, Bool.or_eq_true]
  rw [under_mem]
  constructor
  · rintro (h | h)
    · left; omega
    · right; exact h
  · rintro (h | h)
    · left; omega
    · right; exact h

/-- may node i stand where it says it does? 'tg': is a node an element? -/
def standsN (p : Nat → Int) (tg : Nat → Bool) (i : Nat) : Bool :=
  if i = 0 then decide (p 0 = -1) && tg 0 else decide (0 ≤ up p i) && tg (up p i).toNat && inFrom p ((i : Int) - 1) (up p i).toNat

/-- the answer of a check from node i on -/
def chk (R : Nat → Bool) (D : Nat → Nat) : List Nat → Int
  | [] => 0
  | i :: r => if R i then (if 64 < D i then 31 else chk R D r) else 34
theorem chk_step (R : Nat → Bool) (D : Nat → Nat) (n k : Nat) (hk : k < n) : chk R D (List.range' k (n - k)) = if R k then (if 64 < D k then 31 else chk R D (List.range' (k + 1) (n - (k + 1)))) else 34 := by
  rw [show n - k = (n - (k + 1)) + 1 by omega, List.range'_succ]; rfl
def checkN (R : Nat → Bool) (D : Nat → Nat) (n : Nat) : Int := if n = 0 then 34 else if 1024 < n then 32 else chk R D (List.range' 0 n)

end Pl
end Go.Proofs.Ytckokehpdgjacaa
