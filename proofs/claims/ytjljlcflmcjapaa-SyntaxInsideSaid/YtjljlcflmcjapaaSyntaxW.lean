/-
  Layer 6's laws SyntaxMatches and SyntaxInside, walked.
-/
import Derived.Test.YtjljlcflmcjapaaMatchR
import Derived.Test.YtjljlcflmcjapaaKnown06
namespace Go.Proofs.Ytjljlcflmcjapaa
open Go.RowKit Pl
set_option linter.unusedVariables false

/-- where the search comes by, something is open -/
theorem runs_at (K : List Int) : ∀ (m k j : Nat) (c : Int) (st : List Int), j - k ≤ m → k ≤ j → j ≤ runs K k (c :: st) → j < K.length → ∃ d s, runs K k (c :: st) = runs K j (d :: s) := by
  intro m
  induction m with
  | zero =>
    intro k j c st h1 h2 _ _
    obtain rfl : k = j := by omega
    exact ⟨c, st, rfl⟩
  | succ m ih =>
    intro k j c st h1 h2 h3 h4
    by_cases hkj : k = j
    · subst hkj; exact ⟨c, st, rfl⟩
    · have hk : k < K.length := by omega
      rw [runs_step (c :: st) hk] at h3 ⊢
      by_cases hc : clo K[k] ≠ 0
      · rw [if_pos hc] at h3 ⊢
        exact ih (k + 1) j _ _ (by omega) (by omega) h3 h4
      · rw [if_neg hc] at h3 ⊢
        by_cases he : K[k] = c
        · simp only [he, if_true] at h3 ⊢
          cases st with
          | nil => simp only at h3; omega
          | cons x y => exact ih (k + 1) j x y (by omega) (by omega) h3 h4
        · simp only [he, if_false] at h3 ⊢
          exact ih (k + 1) j c st (by omega) (by omega) h3 h4

theorem inside {K : List Int} {i j : Nat} (hij : i < j) (hj : j < K.length) (hi0 : clo (K[i]'(by omega)) ≠ 0) (hj0 : clo K[j] ≠ 0) (h : j ≤ runs K (i + 1) [clo (K[i]'(by omega))]) :
    j < runs K (j + 1) [clo K[j]] ∧ (runs K (j + 1) [clo K[j]] < runs K (i + 1) [clo (K[i]'(by omega))] ∨ (runs K (j + 1) [clo K[j]] = K.length ∧ runs K (i + 1) [clo (K[i]'(by omega))] = K.length)) := by
  have hb := runs_le K _ (j + 1) [clo K[j]] (Nat.le_refl _)
  refine ⟨by omega, ?_⟩
  obtain ⟨d, s, hds⟩ := runs_at K _ (i + 1) j _ _ (Nat.le_refl _) hij h hj
  rw [hds, runs_step (d :: s) hj, if_pos hj0, runs_under K _ (j + 1) (clo K[j]) d s (Nat.le_refl _)]
  by_cases hlt : runs K (j + 1) [clo K[j]] < K.length
  · rw [if_pos hlt]
    have := (runs_le K _ (runs K (j + 1) [clo K[j]] + 1) (d :: s) (Nat.le_refl _)).2 (by omega)
    exact Or.inl (by omega)
  · rw [if_neg hlt]
    exact Or.inr ⟨by omega, rfl⟩

set_option maxHeartbeats 1000000 in
theorem matches_walk {w : World} {a : Option Addr} {cap : Nat} {l : List TokV} (hl : RToks w a cap l) (hg : l.length ≤ 17592186044416) (i : Int) :
    Calls Try.prog 9 #[.slice a l.length cap, .int .i64 i] w fun e w' => e = .returned (.bool true) ∧ Below w.heap.size w w' := by
  have HL := Lib.hid hl; clear hl
  have hw0 : Below w.heap.size w w := Below.refl _ _
  by_cases hf : l.length ≤ 300
  · have hd : decide (l.length ≤ 300) = true := by simpa using hf

    have HM1 := Lib.hid (fun W (h : Below w.heap.size w W) => match_p (HL.out.grow h) i)
    have HM2 := Lib.hid (fun W (h : Below w.heap.size w W) => match_r (HL.out.grow h) i)
    generalize mtc (kindsT l) i = M at *
    go_enter Try.func9, Try.ntmps9
    go_wp2_with (first
      | (go_at_call 25; refine (few06 _ _ _ _ hg).mono ?_; rintro e w' ⟨rfl, rfl⟩)
      | (go_at_call 27; refine (HM1.out _ hw0).mono ?_; rintro e w1 ⟨rfl, h1⟩; have hw1 := bseq hw0 h1)
      | (go_at_call 28; refine (HM2.out _ hw1).mono ?_; rintro e w2 ⟨rfl, h2⟩; have hw2 := bseq hw1 h2)
      | (go_at_call 26; refine (known06 _).mono ?_; rintro e w3 ⟨rfl, h3⟩; have hw3 := bseq hw2 h3))
    go_ret
    exact ⟨rfl, hw3⟩
  · have hd : decide (l.length ≤ 300) = false := by simpa using hf
    go_enter Try.func9, Try.ntmps9
    go_wp2_with (first
      | (go_at_call 25; refine (few06 _ _ _ _ hg).mono ?_; rintro e w' ⟨rfl, rfl⟩)
      | (go_at_call 26; refine (known06 _).mono ?_; rintro e w3 ⟨rfl, h3⟩; have hw3 := bseq hw0 h3))
    go_ret
    exact ⟨rfl, hw3⟩

set_option maxRecDepth 10000 in
set_option maxHeartbeats 2000000 in
theorem inside_walk {w : World} {a : Option Addr} {cap : Nat} {l : List TokV} (hl : RToks w a cap l) (hg : l.length ≤ 17592186044416) (i j : Int) :
    Calls Try.prog 10 #[.slice a l.length cap, .int .i64 i, .int .i64 j] w fun e w' => e = .returned (.bool true) ∧ Below w.heap.size w w' := by
  have HL := Lib.hid hl
  have hw0 : Below w.heap.size w w := Below.refl _ _
  by_cases hf : l.length ≤ 300
  · have hd : decide (l.length ≤ 300) = true := by simpa using hf
    by_cases hi : i < 0
    · have d1 : decide (i < 0) = true := by simpa using hi
      clear hl
      go_enter Try.func10, Try.ntmps10
      go_wp2_with (first
        | (go_at_call 25; refine (few06 _ _ _ _ hg).mono ?_; rintro e w' ⟨rfl, rfl⟩)
        | (go_at_call 26; refine (known06 _).mono ?_; rintro e w3 ⟨rfl, h3⟩; have hw3 := bseq hw0 h3))
      go_ret
      exact ⟨rfl, hw3⟩
    have d1 : decide (i < 0) = false := by simpa using hi
    by_cases hij : j ≤ i
    · have d2 : decide (j ≤ i) = true := by simpa using hij
      clear hl
      go_enter Try.func10, Try.ntmps10
      go_wp2_with (first
        | (go_at_call 25; refine (few06 _ _ _ _ hg).mono ?_; rintro e w' ⟨rfl, rfl⟩)
        | (go_at_call 26; refine (known06 _).mono ?_; rintro e w3 ⟨rfl, h3⟩; have hw3 := bseq hw0 h3))
      go_ret
      exact ⟨rfl, hw3⟩
    have d2 : decide (j ≤ i) = false := by simpa using hij
    by_cases hjn : (l.length : Int) ≤ j
    · have d3 : decide ((l.length : Int) ≤ j) = true := by simpa using hjn
      clear hl
      go_enter Try.func10, Try.ntmps10
      go_wp2_with (first
        | (go_at_call 25; refine (few06 _ _ _ _ hg).mono ?_; rintro e w' ⟨rfl, rfl⟩)
        | (go_at_call 26; refine (known06 _).mono ?_; rintro e w3 ⟨rfl, h3⟩; have hw3 := bseq hw0 h3))
      go_ret
      exact ⟨rfl, hw3⟩
    have d3 : decide ((l.length : Int) ≤ j) = false := by simpa using hjn
    obtain ⟨m, rfl⟩ := Int.eq_ofNat_of_zero_le (show 0 ≤ i by omega)
    obtain ⟨n, rfl⟩ := Int.eq_ofNat_of_zero_le (show 0 ≤ j by omega)
    have hmn : m < n := by omega
    have hn : n < l.length := by omega
    have hm : m < l.length := by omega
    obtain ⟨b, off, rfl, hb, hc⟩ := hl.at (fun e => by rw [e] at hn; simp at hn)
    obtain ⟨c0, _, _⟩ := hc m hm
    obtain ⟨c1, _, _⟩ := hc n hn
    have HC0 := Lib.hid (fun w => closing_r l[m].kind w)
    have HC1 := Lib.hid (fun w => closing_r l[n].kind w)
    have p1 : (0 : Int) ≤ (m : Int) := by omega
    have p2 : (m : Int) < (l.length : Int) := by omega
    have p3 : (0 : Int) ≤ (n : Int) := by omega
    have p4 : (n : Int) < (l.length : Int) := by omega
    have n2 : decide (n ≤ m) = false := by simp; omega
    have n3 : decide (l.length ≤ n) = false := by simp; omega
    clear hi hij hjn hl hc
    by_cases h0 : clo l[m].kind = 0
    · have z0 : (clo l[m].kind == 0) = true := by rw [h0]; rfl
      clear h0
      generalize l[m].kind = km at *
      generalize clo km = cm at *
      go_enter Try.func10, Try.ntmps10
      go_wp2_with (first
        | (go_at_call 25; refine (few06 _ _ _ _ hg).mono ?_; rintro e w' ⟨rfl, rfl⟩)
        | (go_at_call 29; refine (HC0.out _).mono ?_; rintro e w' ⟨rfl, rfl⟩; clear HC0)
        | (go_at_call 26; refine (known06 _).mono ?_; rintro e w3 ⟨rfl, h3⟩; have hw3 := bseq hw0 h3))
      go_ret
      exact ⟨rfl, hw3⟩
    have z0 : (clo l[m].kind == 0) = false := by simpa using h0
    by_cases h1 : clo l[n].kind = 0
    · have z1 : (clo l[n].kind == 0) = true := by rw [h1]; rfl
      clear h0 h1
      generalize l[m].kind = km at *
      generalize clo km = cm at *
      generalize l[n].kind = kn at *
      generalize clo kn = cn at *
      go_enter Try.func10, Try.ntmps10
      go_wp2_with (first
        | (go_at_call 25; refine (few06 _ _ _ _ hg).mono ?_; rintro e w' ⟨rfl, rfl⟩)
        | (go_at_call 29; refine (HC0.out _).mono ?_; rintro e w' ⟨rfl, rfl⟩; clear HC0)
        | (go_at_call 29; refine (HC1.out _).mono ?_; rintro e w' ⟨rfl, rfl⟩)
        | (go_at_call 26; refine (known06 _).mono ?_; rintro e w3 ⟨rfl, h3⟩; have hw3 := bseq hw0 h3))
      go_ret
      exact ⟨rfl, hw3⟩
    have z1 : (clo l[n].kind == 0) = false := by simpa using h1
    have hKn : n < (kindsT l).length := by rw [kindsT_len]; exact hn
    have hKm : m < (kindsT l).length := by rw [kindsT_len]; exact hm
    have em : (kindsT l)[m]'hKm = l[m].kind := kindsT_get hm
    have en : (kindsT l)[n]'hKn = l[n].kind := kindsT_get hn
    have HI := Lib.hid (inside hmn hKn (by rw [em]; exact h0) (by rw [en]; exact h1))
    rw [em, en, kindsT_len] at HI
    have HM1 := Lib.hid (fun W (h : Below w.heap.size w W) => by have := match_p (HL.out.grow h) (m : Int); rw [mt_some hm h0] at this; exact this)
    have HM2 := Lib.hid (fun W (h : Below w.heap.size w W) => by have := match_p (HL.out.grow h) (n : Int); rw [mt_some hn h1] at this; exact this)
    generalize runs (kindsT l) (m + 1) [clo l[m].kind] = A at *
    generalize runs (kindsT l) (n + 1) [clo l[n].kind] = B at *
    clear h0 h1 em en
    generalize l[m].kind = km at *
    generalize clo km = cm at *
    generalize l[n].kind = kn at *
    generalize clo kn = cn at *
    have hne : Hid (m ≠ n) := Nat.ne_of_lt hmn
    by_cases hA : A < n
    · have d4 : decide ((A : Int) < (n : Int)) = true := by simpa using hA
      have n4 : decide (A < n) = true := by simpa using hA
      go_enter Try.func10, Try.ntmps10
      go_wp2_with (first
        | (go_at_call 25; refine (few06 _ _ _ _ hg).mono ?_; rintro e w' ⟨rfl, rfl⟩)
        | (go_at_call 29; refine (HC0.out _).mono ?_; rintro e w' ⟨rfl, rfl⟩; clear HC0)
        | (go_at_call 29; refine (HC1.out _).mono ?_; rintro e w' ⟨rfl, rfl⟩)
        | (go_at_call 27; refine (HM1.out _ hw0).mono ?_; rintro e w1 ⟨rfl, h1⟩; have hw1 := bseq hw0 h1; clear HM1)
        | (go_at_call 27; refine (HM2.out _ hw1).mono ?_; rintro e w2 ⟨rfl, h2⟩; have hw2 := bseq hw1 h2)
        | (go_at_call 26; refine (known06 _).mono ?_; rintro e w3 ⟨rfl, h3⟩; have hw3 := bseq hw2 h3))
      go_ret
      exact ⟨rfl, hw3⟩
    have d4 : decide ((A : Int) < (n : Int)) = false := by simp; omega
    have n4 : decide (A < n) = false := by simp; omega
    obtain ⟨hBn, hAB⟩ := HI.out (by omega)
    have d5 : decide ((n : Int) < (B : Int)) = true := by simpa using hBn
    have n5 : decide (n < B) = true := by simpa using hBn
    have e1 : Hid (B < A ∨ B = l.length ∧ A = l.length) := hAB
    clear hA hBn hAB HI
    by_cases hBA : B < A
    · have d6 : decide ((B : Int) < (A : Int)) = true := by simpa using hBA
      have n6 : decide (B < A) = true := by simpa using hBA
      clear e1
      go_enter Try.func10, Try.ntmps10
      go_wp2_with (first
        | (go_at_call 25; refine (few06 _ _ _ _ hg).mono ?_; rintro e w' ⟨rfl, rfl⟩)
        | (go_at_call 29; refine (HC0.out _).mono ?_; rintro e w' ⟨rfl, rfl⟩; clear HC0)
        | (go_at_call 29; refine (HC1.out _).mono ?_; rintro e w' ⟨rfl, rfl⟩)
        | (go_at_call 27; refine (HM1.out _ hw0).mono ?_; rintro e w1 ⟨rfl, h1⟩; have hw1 := bseq hw0 h1; clear HM1)
        | (go_at_call 27; refine (HM2.out _ hw1).mono ?_; rintro e w2 ⟨rfl, h2⟩; have hw2 := bseq hw1 h2)
        | (go_at_call 26; refine (known06 _).mono ?_; rintro e w3 ⟨rfl, h3⟩; have hw3 := bseq hw2 h3))
      go_ret
      exact ⟨rfl, hw3⟩
    · obtain ⟨rfl, rfl⟩ : B = l.length ∧ A = l.length := by rcases e1.out with h | h; exact absurd h hBA; exact h
      have d6 : decide ((l.length : Int) < (l.length : Int)) = false := by simp
      have n6 : decide (l.length < l.length) = false := by simp
      have n7 : ((l.length : Int) == (l.length : Int)) = true := by simp
      clear e1
      go_enter Try.func10, Try.ntmps10
      go_wp2_with (first
        | (go_at_call 25; refine (few06 _ _ _ _ hg).mono ?_; rintro e w' ⟨rfl, rfl⟩)
        | (go_at_call 29; refine (HC0.out _).mono ?_; rintro e w' ⟨rfl, rfl⟩; clear HC0)
        | (go_at_call 29; refine (HC1.out _).mono ?_; rintro e w' ⟨rfl, rfl⟩)
        | (go_at_call 27; refine (HM1.out _ hw0).mono ?_; rintro e w1 ⟨rfl, h1⟩; have hw1 := bseq hw0 h1; clear HM1)
        | (go_at_call 27; refine (HM2.out _ hw1).mono ?_; rintro e w2 ⟨rfl, h2⟩; have hw2 := bseq hw1 h2)
        | (go_at_call 26; refine (known06 _).mono ?_; rintro e w3 ⟨rfl, h3⟩; have hw3 := bseq hw2 h3))
      go_ret
      exact ⟨rfl, hw3⟩
  · have hd : decide (l.length ≤ 300) = false := by simpa using hf
    clear hl
    go_enter Try.func10, Try.ntmps10
    go_wp2_with (first
      | (go_at_call 25; refine (few06 _ _ _ _ hg).mono ?_; rintro e w' ⟨rfl, rfl⟩)
      | (go_at_call 26; refine (known06 _).mono ?_; rintro e w3 ⟨rfl, h3⟩; have hw3 := bseq hw0 h3))
    go_ret
    exact ⟨rfl, hw3⟩

end Go.Proofs.Ytjljlcflmcjapaa
