/-
  Plain laws of trees as lists of parents: p i is the parent that is told of node i.
-/
namespace Go.Proofs.YtmlhipckgmbpfaaGreat
namespace Pl
set_option linter.unusedVariables false

/-- a node's parent; -1: it has none -/
def up (p : Nat → Int) (i : Nat) : Int := if 0 ≤ p i ∧ p i < i then p i else -1

theorem up_ge (p : Nat → Int) (i : Nat) : -1 ≤ up p i := by unfold up; split <;> omega
theorem up_lt (p : Nat → Int) (i : Nat) : up p i < i := by unfold up; split <;> omega

def upsF (p : Nat → Int) : Nat → Nat → List Nat
  | 0, _ => []
  | f + 1, i => if 0 ≤ up p i then (up p i).toNat :: upsF p f (up p i).toNat else []

theorem upsF_enough (p : Nat → Int) : ∀ (i f g : Nat), i ≤ f → i ≤ g → upsF p f i = upsF p g i := by
  intro i
  induction i using Nat.strongRecOn with
  | _ i ih =>
    intro f g hf hg
    match f, g with
    | 0, 0 => rfl
    | 0, g + 1 =>
      obtain rfl : i = 0 := by omega
      have := up_lt p 0
      simp only [upsF]; rw [if_neg (by omega)]
    | f + 1, 0 =>
      obtain rfl : i = 0 := by omega
      have := up_lt p 0
      simp only [upsF]; rw [if_neg (by omega)]
    | f + 1, g + 1 =>
      have := up_lt p i
      simp only [upsF]
      by_cases h : 0 ≤ up p i
      · rw [if_pos h, if_pos h, ih _ (by omega) f g (by omega) (by omega)]
      · rw [if_neg h, if_neg h]

/-- all that a node stands beneath, the nearest first -/
def ups (p : Nat → Int) (i : Nat) : List Nat := upsF p i i

theorem ups_eq (p : Nat → Int) (i : Nat) : ups p i = if 0 ≤ up p i then (up p i).toNat :: ups p (up p i).toNat else [] := by
  have := up_lt p i
  unfold ups
  match i with
  | 0 => simp only [upsF]; rw [if_neg (by omega)]
  | i + 1 =>
    simp only [upsF]
    by_cases h : 0 ≤ up p (i + 1)
    · rw [if_pos h, if_pos h, upsF_enough p _ i _ (by omega) (Nat.le_refl _)]
    · rw [if_neg h, if_neg h]

/-- a way up that stands at x (-1: at its end) -/
def from_ (p : Nat → Int) (x : Int) : List Nat := if 0 ≤ x then x.toNat :: ups p x.toNat else []

theorem ups_from (p : Nat → Int) (i : Nat) : ups p i = from_ p (up p i) := ups_eq p i
theorem from_nat (p : Nat → Int) (k : Nat) : from_ p (k : Int) = k :: ups p k := by unfold from_; rw [if_pos (by omega)]; rfl
theorem from_none (p : Nat → Int) {x : Int} (h : x < 0) : from_ p x = [] := by unfold from_; rw [if_neg (by omega)]

theorem ups_lt (p : Nat → Int) : ∀ (i : Nat), ∀ k ∈ ups p i, k < i := by
  intro i
  induction i using Nat.strongRecOn with
  | _ i ih =>
    intro k hk
    have := up_lt p i
    rw [ups_eq] at hk
    by_cases h : 0 ≤ up p i
    · rw [if_pos h] at hk
      rcases List.mem_cons.1 hk with rfl | hk
      · omega
      · have := ih _ (by omega) k hk; omega
    · rw [if_neg h] at hk; cases hk

theorem ups_sorted (p : Nat → Int) : ∀ (i : Nat), (ups p i).Pairwise (· > ·) := by
  intro i
  induction i using Nat.strongRecOn with
  | _ i ih =>
    have := up_lt p i
    rw [ups_eq]
    by_cases h : 0 ≤ up p i
    · rw [if_pos h]
      exact List.pairwise_cons.2 ⟨fun k hk => ups_lt p _ k hk, ih _ (by omega)⟩
    · rw [if_neg h]; exact List.Pairwise.nil

theorem ups_len (p : Nat → Int) : ∀ (i : Nat), (ups p i).length ≤ i := by
  intro i
  induction i using Nat.strongRecOn with
  | _ i ih =>
    have := up_lt p i
    rw [ups_eq]
    by_cases h : 0 ≤ up p i
    · rw [if_pos h]
      have := ih _ (show (up p i).toNat < i by omega)
      simp only [List.length_cons]; omega
    · rw [if_neg h]; simp

theorem ups_trans (p : Nat → Int) : ∀ (i j k : Nat), j ∈ ups p i → k ∈ ups p j → k ∈ ups p i := by
  intro i
  induction i using Nat.strongRecOn with
  | _ i ih =>
    intro j k hj hk
    have := up_lt p i
    rw [ups_eq] at hj ⊢
    by_cases h : 0 ≤ up p i
    · rw [if_pos h] at hj ⊢
      rcases List.mem_cons.1 hj with rfl | hj
      · exact List.mem_cons_of_mem _ hk
      · exact List.mem_cons_of_mem _ (ih _ (by omega) j k hj hk)
    · rw [if_neg h] at hj; cases hj

/-- of two that a node stands beneath the lower stands beneath the higher -/
theorem ups_chain (p : Nat → Int) : ∀ (i j k : Nat), j ∈ ups p i → k ∈ ups p i → k < j → k ∈ ups p j := by
  intro i
  induction i using Nat.strongRecOn with
  | _ i ih =>
    intro j k hj hk hkj
    have := up_lt p i
    rw [ups_eq] at hj hk
    by_cases h : 0 ≤ up p i
    · rw [if_pos h] at hj hk
      rcases List.mem_cons.1 hj with rfl | hj
      · rcases List.mem_cons.1 hk with rfl | hk
        · omega
        · exact hk
      · rcases List.mem_cons.1 hk with rfl | hk
        · have := ups_lt p _ _ hj; omega
        · exact ih _ (by omega) j k hj hk hkj
    · rw [if_neg h] at hj; cases hj

/-- does a node stand beneath another one? -/
def under (p : Nat → Int) (i : Nat) (j : Int) : Bool := (ups p i).any fun k => (k : Int) == j
def underF (p : Nat → Int) (x : Int) (j : Int) : Bool := (from_ p x).any fun k => (k : Int) == j

theorem under_from (p : Nat → Int) (i : Nat) (j : Int) : under p i j = underF p (up p i) j := by unfold under underF; rw [ups_from]
theorem underF_none (p : Nat → Int) {x : Int} (j : Int) (h : x < 0) : underF p x j = false := by unfold underF; rw [from_none p h]; rfl
theorem underF_hit (p : Nat → Int) {x : Int} (j : Int) (h : 0 ≤ x) (he : x = j) : underF p x j = true := by
  obtain ⟨k, rfl⟩ := Int.eq_ofNat_of_zero_le h
  unfold underF; rw [from_nat]; simp [he]
theorem underF_miss (p : Nat → Int) {x : Int} (j : Int) (h : 0 ≤ x) (he : ¬ x = j) : underF p x j = underF p (up p x.toNat) j := by
  obtain ⟨k, rfl⟩ := Int.eq_ofNat_of_zero_le h
  show (from_ p (k : Int)).any _ = _
  rw [from_nat]
  have : ((k : Int) == j) = false := by simpa using he
  simp only [List.any_cons, this, Bool.false_or]
  exact under_from p k j

theorem under_iff (p : Nat → Int) (i : Nat) (j : Int) : under p i j = true ↔ ∃ k ∈ ups p i, (k : Int) = j := by simp [under]

/-- the first of those that a node stands beneath which fits; -1: none -/
def firstUp (p : Nat → Int) (f : Nat → Bool) (i : Nat) : Int := match (ups p i).find? f with | some k => (k : Int) | none => -1

/-- the same where i may be no node of n -/
def upsI (p : Nat → Int) (n : Nat) (i : Int) : List Nat := if 0 ≤ i ∧ i < n then ups p i.toNat else []
def firstUpI (p : Nat → Int) (n : Nat) (f : Nat → Bool) (i : Int) : Int := match (upsI p n i).find? f with | some k => (k : Int) | none => -1

theorem upsI_lt (p : Nat → Int) (n : Nat) (i : Int) : ∀ k ∈ upsI p n i, k < n := by
  intro k hk
  unfold upsI at hk
  split at hk
  · have := ups_lt p _ k hk; omega
  · cases hk
theorem upsI_len (p : Nat → Int) (n : Nat) (i : Int) : (upsI p n i).length ≤ n := by
  unfold upsI; split
  · have := ups_len p i.toNat; omega
  · simp

theorem find_first (g : Nat → Bool) : ∀ (U : List Nat) (kb : Nat), U.Pairwise (· > ·) → kb ∈ U → g kb = true → ∃ ka, U.find? g = some ka ∧ ka ∈ U ∧ kb ≤ ka
  | [], _, _, h, _ => by cases h
  | k :: U, kb, hp, h, hg => by
    obtain ⟨h1, h2⟩ := List.pairwise_cons.1 hp
    by_cases hk : g k = true
    · refine ⟨k, by simp [hk], by simp, ?_⟩
      rcases List.mem_cons.1 h with rfl | h
      · omega
      · have := h1 kb h; omega
    · rcases List.mem_cons.1 h with rfl | h
      · exact absurd hg hk
      · obtain ⟨ka, e1, e2, e3⟩ := find_first g U kb h2 h hg
        exact ⟨ka, by simp [hk, e1], by simp [e2], e3⟩

theorem firstUpI_congr (p : Nat → Int) (n : Nat) (f g : Nat → Bool) (i : Int) (h : ∀ k ∈ upsI p n i, f k = g k) : firstUpI p n f i = firstUpI p n g i := by
  unfold firstUpI
  have : ∀ (U : List Nat), (∀ k ∈ U, f k = g k) → U.find? f = U.find? g := by
    intro U
    induction U with
    | nil => intro _; rfl
    | cons k U ih =>
      intro hU
      simp only [List.find?_cons, hU k (by simp), ih (fun m hm => hU m (by simp [hm]))]
  rw [this _ h]
theorem firstUpI_mem (p : Nat → Int) (n : Nat) (f : Nat → Bool) (i : Int) (h : 0 ≤ firstUpI p n f i) : ∃ k ∈ upsI p n i, firstUpI p n f i = k := by
  unfold firstUpI at *
  cases hU : (upsI p n i).find? f with
  | none => rw [hU] at h; simp at h
  | some k => exact ⟨k, List.mem_of_find?_eq_some hU, rfl⟩
theorem upsI_notunder (p : Nat → Int) (n : Nat) (i k : Int) (h : ¬ (k < n ∧ under p i.toNat k = true)) : ∀ m ∈ upsI p n i, (m : Int) ≠ k := by
  intro m hm e
  subst e
  have hlt := upsI_lt p n i m hm
  refine h ⟨by omega, ?_⟩
  unfold upsI at hm
  split at hm
  · exact (under_iff p _ _).2 ⟨m, hm, rfl⟩
  · cases hm

/-- the first that fits more stands at or beneath the first that fits less -/
theorem firstUpI_more (p : Nat → Int) (n : Nat) (f g : Nat → Bool) (hfg : ∀ k, f k = true → g k = true) (i : Int) (hb : 0 ≤ firstUpI p n f i) :
    0 ≤ firstUpI p n g i ∧ firstUpI p n g i < n ∧ (firstUpI p n g i = firstUpI p n f i ∨ under p (firstUpI p n g i).toNat (firstUpI p n f i) = true) := by
  unfold firstUpI at *
  cases hU : (upsI p n i).find? f with
  | none => rw [hU] at hb; simp at hb
  | some kb =>
    have hm := List.mem_of_find?_eq_some hU
    have hg := hfg kb (List.find?_some hU)
    by_cases hin : 0 ≤ i ∧ i < n
    · have e : upsI p n i = ups p i.toNat := by unfold upsI; rw [if_pos hin]
      obtain ⟨ka, e1, e2, e3⟩ := find_first g (upsI p n i) kb (by rw [e]; exact ups_sorted p _) hm hg
      have hlt := upsI_lt p n i ka e2
      simp only [e1]
      refine ⟨by omega, by omega, ?_⟩
      by_cases h : ka = kb
      · exact Or.inl (by rw [h])
      · refine Or.inr ?_
        rw [e] at hm e2
        have := ups_chain p _ ka kb e2 hm (by omega)
        exact (under_iff p _ _).2 ⟨kb, by simpa using this, rfl⟩
    · have e : upsI p n i = [] := by unfold upsI; rw [if_neg hin]
      rw [e] at hm; cases hm

/-- the greatest below i that is beneath and fits -/
def downTo (p : Nat → Int) (f : Nat → Bool) (i : Nat) : Nat → Int
  | 0 => -1
  | n + 1 => if under p i n && f n then (n : Int) else downTo p f i n

theorem find_desc (f : Nat → Bool) : ∀ (l : List Nat) (n : Nat), l.Pairwise (· > ·) → (∀ k ∈ l, k < n + 1) →
    (match l.find? f with | some k => (k : Int) | none => -1) = if l.contains n && f n then (n : Int) else (match (l.filter (fun k => decide (k < n))).find? f with | some k => (k : Int) | none => -1)
  | [], n, _, _ => by simp
  | k :: l, n, hp, hl => by
    have hk := hl k (by simp)
    obtain ⟨h1, h2⟩ := List.pairwise_cons.1 hp
    by_cases e : k = n
    · subst e
      have hall : ∀ m ∈ l, m < k := fun m hm => h1 m hm
      by_cases hf : f k = true
      · simp [hf]
      · have hff : f k = false := by simpa using hf
        have : (l.filter (fun m => decide (m < k))) = l := List.filter_eq_self.2 (fun m hm => by simpa using hall m hm)
        simp [hff, this]
    · have hlt : k < n := by omega
      have hn : n ∉ k :: l := by
        intro h
        rcases List.mem_cons.1 h with rfl | h
        · omega
        · have := h1 n h; omega
      have hc : (k :: l).contains n = false := by simpa using hn
      have : ((k :: l).filter (fun m => decide (m < n))) = k :: l := List.filter_eq_self.2 (fun m hm => by
        rcases List.mem_cons.1 hm with rfl | hm
        · simpa using hlt
        · have := h1 m hm; simp; omega)
      rw [hc, this]
      simp

theorem downTo_eq (p : Nat → Int) (f : Nat → Bool) (i : Nat) : ∀ n, downTo p f i n = (match ((ups p i).filter (fun k => decide (k < n))).find? f with | some k => (k : Int) | none => -1)
  | 0 => by
    have : (ups p i).filter (fun k => decide (k < 0)) = [] := by simp
    rw [this]; rfl
  | n + 1 => by
    have hs : ((ups p i).filter (fun k => decide (k < n + 1))).Pairwise (· > ·) := (ups_sorted p i).filter _
    rw [find_desc f _ n hs (fun k hk => by simpa using (List.mem_filter.1 hk).2)]
    have e1 : ((ups p i).filter (fun k => decide (k < n + 1))).contains n = under p i n := by
      rw [Bool.eq_iff_iff, under_iff]
      simp only [List.contains_eq_mem, List.mem_filter, decide_eq_true_eq]
      constructor
      · rintro ⟨h, _⟩; exact ⟨n, h, rfl⟩
      · rintro ⟨k, h, e⟩
        have : k = n := by omega
        subst this; exact ⟨h, by omega⟩
    have e2 : ((ups p i).filter (fun k => decide (k < n + 1))).filter (fun k => decide (k < n)) = (ups p i).filter (fun k => decide (k < n)) := by
      rw [List.filter_filter]; congr 1; funext k; rw [Bool.eq_iff_iff]; simp; omega
    rw [e1, e2, downTo, downTo_eq p f i n]

/-- the nearest that fits, looked for upwards and looked for downwards, is the same -/
theorem downTo_firstUp (p : Nat → Int) (f : Nat → Bool) (i : Nat) : downTo p f i i = firstUp p f i := by
  rw [downTo_eq, List.filter_eq_self.2 (fun k hk => by simpa using ups_lt p i k hk)]
  rfl

/-- a node's depth -/
def depthI (p : Nat → Int) (n : Nat) (i : Int) : Int := if 0 ≤ i ∧ i < n then 1 + ((ups p i.toNat).length : Int) else 0

theorem depth_root (p : Nat → Int) (n : Nat) (i : Int) (h : 0 ≤ i ∧ i < n) (hu : up p i.toNat < 0) : depthI p n i = 1 := by
  unfold depthI; rw [if_pos h, ups_eq, if_neg (by omega)]; rfl
theorem depth_up (p : Nat → Int) (n : Nat) (i : Int) (h : 0 ≤ i ∧ i < n) (hu : 0 ≤ up p i.toNat) : depthI p n i = 1 + depthI p n (up p i.toNat) := by
  have := up_lt p i.toNat
  unfold depthI; rw [if_pos h, if_pos (by omega), ups_eq, if_pos hu]; simp; omega
theorem depthI_bd (p : Nat → Int) (n : Nat) (i : Int) : 0 ≤ depthI p n i ∧ depthI p n i ≤ n := by
  unfold depthI; split
  · have := ups_len p i.toNat; omega
  · omega
theorem depth_ups (p : Nat → Int) (n : Nat) (i : Int) (h : 0 ≤ i ∧ i < n) : depthI p n i = 1 + ((upsI p n i).length : Int) := by
  unfold depthI upsI; rw [if_pos h, if_pos h]

/-- those whose parent a node is -/
def kidsTo (p : Nat → Int) (i : Int) (k : Nat) : List Nat := (List.range k).filter fun m => decide (up p m = i)
def kidsI (p : Nat → Int) (n : Nat) (i : Int) : List Nat := if 0 ≤ i ∧ i < n then kidsTo p i n else []

theorem kids_step (p : Nat → Int) (i : Int) (k : Nat) : kidsTo p i (k + 1) = if up p k = i then kidsTo p i k ++ [k] else kidsTo p i k := by
  unfold kidsTo; rw [List.range_succ, List.filter_append]
  by_cases h : up p k = i <;> simp [h]
theorem kids_none (p : Nat → Int) (i : Int) : ∀ (k : Nat), (k : Int) ≤ i + 1 → 0 ≤ i → kidsTo p i k = []
  | 0, _, _ => rfl
  | k + 1, h, h0 => by
    have := up_lt p k
    rw [kids_step, if_neg (by omega), kids_none p i k (by omega) h0]
theorem kids_out (p : Nat → Int) (n : Nat) (i : Int) (h : ¬ (0 ≤ i ∧ i < n)) (h0 : 0 ≤ i) : kidsTo p i n = [] := by
  unfold kidsTo
  rw [List.filter_eq_nil_iff]
  intro k hk
  have := List.mem_range.1 hk
  have := up_lt p k
  simp; omega
theorem kids_len (p : Nat → Int) (i : Int) (k : Nat) : (kidsTo p i k).length ≤ k := by
  unfold kidsTo; exact Nat.le_trans (List.length_filter_le _ _) (by simp)
theorem up_kid (p : Nat → Int) (i : Int) (k : Nat) (h0 : 0 ≤ i) (hk : i < k) : (up p k = i) ↔ (p k = i) := by
  unfold up; split <;> omega

/-- behind all that stand beneath i, from k on -/
def endK (p : Nat → Int) (n : Nat) (i : Int) (k : Nat) : Nat := k + ((List.range' k (n - k)).takeWhile fun m => under p m i).length
theorem endK_step (p : Nat → Int) (n : Nat) (i : Int) (k : Nat) (hk : k < n) : endK p n i k = if under p k i then endK p n i (k + 1) else k := by
  unfold endK
  rw [show n - k = (n - (k + 1)) + 1 by omega, List.range'_succ, List.takeWhile_cons]
  by_cases h : under p k i = true
  · rw [if_pos h, if_pos h]; simp; omega
  · rw [if_neg h, if_neg h]; rfl
theorem endK_stop (p : Nat → Int) (n : Nat) (i : Int) (k : Nat) (hk : n ≤ k) : endK p n i k = k := by
  unfold endK; rw [show n - k = 0 by omega]; rfl
def endI (p : Nat → Int) (n : Nat) (i : Int) : Int := if 0 ≤ i ∧ i < n then (endK p n i (i.toNat + 1) : Int) else 0
theorem endK_le (p : Nat → Int) (n : Nat) (i : Int) : ∀ (f k : Nat), n - k ≤ f → k ≤ n → endK p n i k ≤ n ∧ k ≤ endK p n i k
  | 0, k, hf, hk => by rw [endK_stop p n i k (by omega)]; omega
  | f + 1, k, hf, hk => by
    by_cases h : k < n
    · rw [endK_step p n i k h]
      split
      · have := endK_le p n i f (k + 1) (by omega) (by omega); omega
      · omega
    · rw [endK_stop p n i k (by omega)]; omega

end Pl
end Go.Proofs.YtmlhipckgmbpfaaGreat
