/-
  What the document says of parts is what the program finds: plain laws.
-/
import Derived.Test.YtmlhipckgmbpfaaGreatMtRefB
namespace Go.Proofs.YtmlhipckgmbpfaaGreat
open Go Go.RowKit Pl Sy
set_option linter.unusedVariables false
set_option linter.unusedSimpArgs false

theorem mem_aheadF (p : Nat → Int) (t : Nat → Bool) (q : Int) : ∀ (m k : Nat), k ∈ aheadF p t q m ↔ k < m ∧ t k = true ∧ up p k = q
  | 0, k => by simp [aheadF]
  | m + 1, k => by
    have ih := mem_aheadF p t q m k
    have hu := up_lt p k
    simp only [aheadF]
    split
    · split
      · rename_i h1 h2
        rw [List.mem_cons, ih]
        constructor
        · rintro (rfl | ⟨a, b, c⟩)
          · exact ⟨by omega, h2⟩
          · exact ⟨by omega, b, c⟩
        · rintro ⟨a, b, c⟩
          by_cases e : k = m
          · exact .inl e
          · exact .inr ⟨by omega, b, c⟩
      · rename_i h1 h2
        rw [ih]
        constructor
        · rintro ⟨a, b, c⟩; exact ⟨by omega, b, c⟩
        · rintro ⟨a, b, c⟩
          by_cases e : k = m
          · subst e; exact absurd ⟨b, c⟩ h2
          · exact ⟨by omega, b, c⟩
    · rename_i h1
      simp only [List.not_mem_nil, false_iff]
      rintro ⟨a, b, c⟩
      omega
theorem mem_aheadV (p : Nat → Int) (t : Nat → Bool) (i k : Nat) : k ∈ aheadV p t i ↔ k < i ∧ t k = true ∧ 0 ≤ up p i ∧ up p k = up p i := by
  unfold aheadV
  split
  · rename_i h
    rw [mem_aheadF]
    constructor
    · rintro ⟨a, b, c⟩; exact ⟨a, b, h, c⟩
    · rintro ⟨a, b, c, d⟩; exact ⟨a, b, d⟩
  · rename_i h
    simp only [List.not_mem_nil, false_iff]
    rintro ⟨a, b, c, d⟩
    exact h c
/-- the nearest sibling ahead is the last one that fits -/
theorem mem_take1 (p : Nat → Int) (t : Nat → Bool) (q : Int) : ∀ (m k : Nat), k ∈ (aheadF p t q m).take 1 ↔ (k < m ∧ t k = true ∧ up p k = q) ∧ ∀ j, k < j → j < m → ¬ (t j = true ∧ up p j = q)
  | 0, k => by simp [aheadF]
  | m + 1, k => by
    have ih := mem_take1 p t q m k
    have hu := up_lt p k
    simp only [aheadF]
    split
    · split
      · rename_i h1 h2
        simp only [List.take_succ_cons, List.take_zero, List.mem_singleton]
        constructor
        · rintro rfl
          exact ⟨⟨by omega, h2⟩, fun j a b => by omega⟩
        · rintro ⟨⟨a, b, c⟩, d⟩
          by_cases e : k = m
          · exact e
          · exact absurd h2 (d m (by omega) (by omega))
      · rename_i h1 h2
        rw [ih]
        constructor
        · rintro ⟨⟨a, b, c⟩, d⟩
          refine ⟨⟨by omega, b, c⟩, fun j x y => ?_⟩
          by_cases e : j = m
          · subst e; exact h2
          · exact d j x (by omega)
        · rintro ⟨⟨a, b, c⟩, d⟩
          by_cases e : k = m
          · subst e; exact absurd ⟨b, c⟩ h2
          · exact ⟨⟨by omega, b, c⟩, fun j x y => d j x (by omega)⟩
    · rename_i h1
      simp only [List.take_nil, List.not_mem_nil, false_iff]
      rintro ⟨⟨a, b, c⟩, d⟩
      omega
theorem anyN_iff (g : Nat → Bool) (n : Nat) : anyN g n = true ↔ ∃ k, k < n ∧ g k = true := by
  unfold anyN
  rw [List.any_eq_true]
  constructor
  · rintro ⟨k, h1, h2⟩; exact ⟨k, List.mem_range.1 h1, h2⟩
  · rintro ⟨k, h1, h2⟩; exact ⟨k, List.mem_range.2 h1, h2⟩
theorem firstB_r (ns : List NodeW) (i : Int) (h0 : 0 ≤ i) : rfirstB ns i = firstB ns i := by
  obtain ⟨κ, rfl⟩ := Int.eq_ofNat_of_zero_le h0
  unfold rfirstB firstB
  rw [Bool.eq_iff_iff, Bool.not_eq_true', ← Bool.not_eq_true, anyN_iff, List.isEmpty_iff, List.eq_nil_iff_forall_not_mem]
  simp only [mem_aheadV, sibI_iff, Int.toNat_natCast]
  constructor
  · intro h k ⟨a, b, c, d⟩
    exact h ⟨k, a, by omega, b, c, d⟩
  · rintro h ⟨k, a, a', b, c, d⟩
    exact h k ⟨a, b, c, d⟩
theorem hops_lt (g : Nat → Bool) (m : Nat) : ∀ (f k : Nat), m - k ≤ f → k ≤ m → (hops g (fun j => j + 1) m k < m ↔ ∃ j, k ≤ j ∧ j < m ∧ g j = true) := by
  intro f
  induction f with
  | zero =>
    intro k h1 h2
    rw [hops_end g _ (by omega)]
    constructor
    · intro h; omega
    · rintro ⟨j, a, b, c⟩; omega
  | succ f ih =>
    intro k h1 h2
    rw [hops_step (fun k _ => Nat.lt_succ_self k)]
    split
    · rename_i h
      rw [ih (k + 1) (by omega) (by omega)]
      constructor
      · rintro ⟨j, a, b, c⟩; exact ⟨j, by omega, b, c⟩
      · rintro ⟨j, a, b, c⟩
        refine ⟨j, ?_, b, c⟩
        rcases Nat.lt_or_ge k j with e | e
        · exact e
        · have : j = k := by omega
          subst this
          rw [h.2] at c; cases c
    · rename_i h
      constructor
      · intro h3
        refine ⟨k, Nat.le_refl _, h3, ?_⟩
        cases hg : g k with
        | true => rfl
        | false => exact absurd ⟨h3, hg⟩ h
      · rintro ⟨j, a, b, c⟩; omega
theorem lastB_r (ns : List NodeW) (i : Int) (h0 : 0 ≤ i) (h1 : i < ns.length) (he : elN ns i.toNat = true) : rlastB ns i = lastB ns i := by
  obtain ⟨κ, rfl⟩ := Int.eq_ofNat_of_zero_le h0
  have e1 : ((κ : Int) + 1).toNat = κ + 1 := by omega
  unfold rlastB lastB laterB
  congr 1
  rw [Bool.eq_iff_iff, anyN_iff, Bool.and_eq_true, leI_t, decide_eq_true_eq, e1, hops_lt _ _ _ _ (Nat.le_refl _) (by omega)]
  simp only [rlaN, Bool.and_eq_true, sibI_iff, sibB, decide_eq_true_eq, Int.toNat_natCast] at he ⊢
  constructor
  · rintro ⟨k, a, b, c, d, e, f⟩
    have e2 : ((κ : Int) + 1 + k).toNat = κ + 1 + k := by omega
    rw [e2] at b e f
    exact ⟨by omega, κ + 1 + k, by omega, by omega, b, f.symm⟩
  · rintro ⟨a, j, b, c, d, e⟩
    refine ⟨j - (κ + 1), by omega, ?_⟩
    have e2 : ((κ : Int) + 1 + (j - (κ + 1) : Nat)).toNat = j := by omega
    rw [e2]
    exact ⟨d, by omega, he, by omega, e.symm⟩
theorem landB_has (n : Int) (hn : n ≤ 9223372036854775807) : landB (if n < 0 then 0 else n) 1 = hasI n 1 ∧ landB (if n < 0 then 0 else n) 2 = hasI n 2 ∧ landB (if n < 0 then 0 else n) 4 = hasI n 4 :=
  ⟨(show _ = bitI n 1 from rfl).trans (has_1 n hn), (show _ = bitI n 2 from rfl).trans (has_2 n hn), (show _ = bitI n 4 from rfl).trans (has_4 n hn)⟩
theorem all_not {α : Type} (g : α → Bool) (l : List α) : l.all g = !leI 0 (idxF (fun x => !g x) l 0) := by
  rw [leI_eq, show decide (0 ≤ idxF (fun x => !g x) l 0) = l.any fun x => !g x from idxF_any _ l 0]
  induction l with
  | nil => rfl
  | cons x l ih => rw [List.all_cons, List.any_cons, ih, Bool.not_or, Bool.not_not]
theorem partB_r (ns : List NodeW) (i : Int) (p : PartV) (hn : p.states ≤ 9223372036854775807) : rpartB ns i p = partB ns i p := by
  unfold rpartB partB
  cases hz : isN ns i with
  | false => rfl
  | true =>
    have hz2 := hz
    unfold isN at hz2
    simp only [Bool.and_eq_true, Bool.not_eq_true', leI_t, leI_f] at hz2
    obtain ⟨a, b, c⟩ := hz2
    obtain ⟨b1, b2, b3⟩ := landB_has p.states hn
    have e1 : allCls (nodeN ns i) p = !leI 0 (idxF (offB (nodeN ns i)) p.cls 0) := all_not _ _
    have e2 : allTst (nodeN ns i) p = !leI 0 (idxF (failB (nodeN ns i)) p.tests 0) := all_not _ _
    rw [e1, e2, firstB_r ns i a, lastB_r ns i a (by omega) c]
    unfold statesB
    rw [b1, b2, b3]
    simp only [Bool.not_and, Bool.not_not]
theorem idxF_spec {α : Type} (g : α → Bool) : ∀ (xs : List α) (n : Nat), (idxF g xs n = -1 ∧ ∀ x ∈ xs, g x = false) ∨ ∃ pre x post, xs = pre ++ x :: post ∧ idxF g xs n = (n + pre.length : Nat) ∧ g x = true ∧ ∀ y ∈ pre, g y = false
  | [], n => .inl ⟨rfl, fun x h => by simp at h⟩
  | x :: xs, n => by
    cases hg : g x with
    | true =>
      refine .inr ⟨[], x, xs, rfl, ?_, hg, fun y h => by simp at h⟩
      show (if g x then _ else _) = _
      rw [if_pos hg]; simp
    | false =>
      have e : idxF g (x :: xs) n = idxF g xs (n + 1) := by
        show (if g x then _ else _) = _
        rw [if_neg (by rw [hg]; simp)]
      rcases idxF_spec g xs (n + 1) with ⟨a, b⟩ | ⟨pre, y, post, a, b, c, d⟩
      · refine .inl ⟨by rw [e, a], fun z hz => ?_⟩
        rcases List.mem_cons.1 hz with rfl | hz
        · exact hg
        · exact b z hz
      · refine .inr ⟨x :: pre, y, post, by rw [a]; rfl, by rw [e, b]; simp; omega, c, fun z hz => ?_⟩
        rcases List.mem_cons.1 hz with rfl | hz
        · exact hg
        · exact d z hz
theorem idxN_spec (g : Nat → Bool) (n : Nat) : (idxN g n = -1 ∧ ∀ k, k < n → g k = false) ∨ ∃ k : Nat, k < n ∧ idxN g n = k ∧ g k = true ∧ ∀ j, j < k → g j = false := by
  unfold idxN
  rcases idxF_spec g (List.range n) 0 with ⟨a, b⟩ | ⟨pre, x, post, a, b, c, d⟩
  · exact .inl ⟨a, fun k hk => b k (List.mem_range.2 hk)⟩
  · have hl : n = pre.length + 1 + post.length := by
      have := congrArg List.length a
      simp at this; omega
    have hx : x = pre.length := by
      have h1 : (List.range n)[pre.length]? = some x := by rw [a]; simp
      rw [List.getElem?_range (by omega)] at h1
      exact (Option.some.inj h1).symm
    refine .inr ⟨pre.length, by omega, by rw [b]; simp, by rw [← hx]; exact c, fun j hj => d j ?_⟩
    have h1 : (List.range n)[j]? = some j := by rw [List.getElem?_range (by omega)]
    rw [a, List.getElem?_append_left hj] at h1
    exact List.mem_of_getElem? h1
theorem nearI_iff (ns : List NodeW) (i k : Nat) : nearI ns i = k ↔ k ∈ (aheadV (parN ns) (elN ns) i).take 1 := by
  have e : ∀ j : Nat, sibI ns (j : Nat) (i : Nat) = true ↔ j < i ∧ elN ns j = true ∧ 0 ≤ up (parN ns) i ∧ up (parN ns) j = up (parN ns) i := fun j => by
    rw [sibI_iff]
    simp only [Int.toNat_natCast]
    constructor
    · rintro ⟨a, b⟩; exact ⟨by omega, b⟩
    · rintro ⟨a, b⟩; exact ⟨by omega, b⟩
  have hr : ∀ j : Nat, j < i → rneN ns i j = sibI ns ((i - 1 - j : Nat) : Nat) (i : Nat) := fun j hj => by
    unfold rneN
    rw [show ((i : Int) - 1 - (j : Int)) = ((i - 1 - j : Nat) : Int) by omega]
  unfold nearI aheadV
  rw [Int.toNat_natCast]
  rcases idxN_spec (rneN ns i) i with ⟨a, b⟩ | ⟨m, a, b, c, d⟩
  · rw [a, if_neg (by rw [leI_t]; omega)]
    constructor
    · intro h; omega
    · intro h
      exfalso
      split at h
      · rename_i h0
        rw [mem_take1] at h
        obtain ⟨⟨h1, h2, h3⟩, _⟩ := h
        have := b (i - 1 - k) (by omega)
        rw [hr _ (by omega), show i - 1 - (i - 1 - k) = k by omega] at this
        rw [(e k).2 ⟨h1, h2, h0, h3⟩] at this
        cases this
      · simp at h
  · rw [b, if_pos (by rw [leI_t]; omega)]
    rw [hr m a, e] at c
    obtain ⟨c1, c2, c3, c4⟩ := c
    rw [if_pos c3, mem_take1]
    constructor
    · intro h
      have hk : k = i - 1 - m := by omega
      subst hk
      refine ⟨⟨c1, c2, c4⟩, fun j h1 h2 h3 => ?_⟩
      have := d (i - 1 - j) (by omega)
      rw [hr _ (by omega), show i - 1 - (i - 1 - j) = j by omega, (e j).2 ⟨h2, h3.1, c3, h3.2⟩] at this
      cases this
    · rintro ⟨⟨h1, h2, h3⟩, h4⟩
      rcases Nat.lt_trichotomy k (i - 1 - m) with h5 | h5 | h5
      · exact absurd ⟨c2, c4⟩ (h4 _ h5 (by omega))
      · omega
      · exfalso
        have := d (i - 1 - k) (by omega)
        rw [hr _ (by omega), show i - 1 - (i - 1 - k) = k by omega, (e k).2 ⟨h1, h2, c3, h3⟩] at this
        cases this
theorem seenB_r (ns : List NodeW) (i k : Nat) (c : Int) : seenB ns i c k = true ↔ k ∈ aroundV (parN ns) (elN ns) i c := by
  unfold seenB aroundV
  split
  · unfold underB onB
    simp only [List.any_eq_true, eqI_t, Int.toNat_natCast]
    constructor
    · rintro ⟨x, a, b⟩
      have : x = k := by omega
      subst this; exact a
    · intro h; exact ⟨k, h, rfl⟩
  · split
    · unfold parentV
      rw [eqI_t, Int.toNat_natCast]
      split
      · simp only [List.mem_singleton]; omega
      · simp only [List.not_mem_nil, iff_false]; omega
    · split
      · rw [eqI_t, nearI_iff]
      · split
        · rw [sibI_iff, mem_aheadV, Int.toNat_natCast, Int.toNat_natCast]
          constructor
          · rintro ⟨a, b⟩; exact ⟨by omega, b⟩
          · rintro ⟨a, b⟩; exact ⟨by omega, b⟩
        · simp
end Go.Proofs.YtmlhipckgmbpfaaGreat
namespace Go.Proofs.YtmlhipckgmbpfaaGreat
open Go Go.RowKit Pl Sy
set_option linter.unusedVariables false
set_option linter.unusedSimpArgs false

noncomputable abbrev Sy.cSeen (ns : List NodeW) (i : Int) : Con Tryz.prog := atX 27 (fun args => match args with | [_, _, .lit (.int .i64 c), .lit (.int .i64 k)] => some (c, k) | _ => none) (fun x => [nview ns, int i, int x.1, int x.2]) (fun x => boo (seenB ns i x.1 x.2)) (fun x => ns.length ≤ 17592186044416 ∧ (0 ≤ i ∧ i < ns.length) ∧ 0 ≤ x.2 ∧ x.2 < ns.length) fun x h => ⟨⟨⟨nview_free ns, trivial, trivial, trivial, trivial⟩, trivial⟩, seen_t ns i x.1 x.2 h.1 h.2.1 h.2.2⟩
noncomputable abbrev Sy.cRPart (ns : List NodeW) (i : Int) (p : PartV) : Con Tryz.prog := at1 26 [nview ns, int i, partG p] (boo (rpartB ns i p)) (DocOk ns ∧ PartLen p) fun h => ⟨⟨⟨nview_free ns, trivial, partG_free p, trivial⟩, trivial⟩, rpt_t ns i p h.1 h.2⟩
/-- the last of parts -/
noncomputable abbrev lastN (ps : List PartV) : PartV := ps.getD (w64 ((ps.length : Int) - 1)).toNat partNone
/-sy rpk_p
fun (ns : List NodeW) (i : Int) (ps : List PartV) (d : D) => probeV SyTool.probe [cRPart ns i (lastN ps)] 400 30 18 [nview ns, int i, .agg [pview ps]] M0 d
-/
namespace Sy
/-- the parts ahead of the last one -/
noncomputable abbrev restA (ps : List PartV) : AV := .agg [.view ((w64 ((ps.length : Int) - 1)).toNat - 0) 6 (fun i j => pcell ps (0 + i) j)]
noncomputable abbrev rkM (ps : List PartV) (s : Nat) : Mem := ⟨2, s, [some ⟨[.view ((w64 ((ps.length : Int) - 1)).toNat - 0) 6 (fun i j => pcell ps (0 + i) j)], 45, none⟩, some ⟨[pview ps], 45, none⟩]⟩
noncomputable abbrev rkF (ns : List NodeW) (i : Int) (ps : List PartV) (k : Int) (b : Bool) : Fr := [some ((@AV.view (ns).length 6 (@ncell ns))), some ((int i)), none, none, none, some ((@AV.ptr 0 0)), some (boo b), some ((int (((ps).length : Nat) : Int))), some ((@AV.ptr (0 + 1) 0)), some (int k), none, none, none, none, none, none, none, none, none, none, none, none, none, none, none, none, none, none, none, none, none, none, none, none, none, none, none, none, none, none, none, none, none, none, none, none, none, none, none, none, none, none, none, none, none, none, none]
noncomputable abbrev rkE (ns : List NodeW) (i : Int) (ps : List PartV) (b : Bool) : Fr := [some ((@AV.view (ns).length 6 (@ncell ns))), some ((int i)), none, none, none, some ((@AV.ptr 0 0)), some (boo b), some ((int (((ps).length : Nat) : Int))), some ((@AV.ptr (0 + 1) 0)), none, none, none, none, none, none, none, none, none, none, none, none, none, none, none, none, none, none, none, none, none, none, none, none, none, none, none, none, none, none, none, none, none, none, none, none, none, none, none, none, none, none, none, none, none, none, none, none]
end Sy
/-- do the parts ahead of the last one pick? -/
def pickRest (ns : List NodeW) (ps : List PartV) (k : Int) : Bool := picksV ns k (ps.take (ps.length - 1))
structure PickRest (ns : List NodeW) (ps : List PartV) (k : Int) : Prop where
  out : CallTo Tryz.prog 18 [nview ns, int k, restA ps] M0 fun v _ => v = boo (pickRest ns ps k)
noncomputable abbrev Sy.cRest (ns : List NodeW) (ps : List PartV) : Con Tryz.prog := atX 18 (fun args => match args with | [_, .lit (.int .i64 k), _] => some k | _ => none) (fun k => [nview ns, int k, restA ps]) (fun k => boo (pickRest ns ps k)) (fun k => PickRest ns ps k) fun k h => ⟨⟨⟨nview_free ns, trivial, ⟨fun i j => partA_free _ j, trivial⟩, trivial⟩, trivial⟩, h.out⟩
/-sy rpk_r
fun (ns : List NodeW) (i : Int) (ps : List PartV) (k : Int) (d : D) => reckL [cSeen ns i, cRest ns ps] [] 400 30 18 9 [true, true, false, false, false, true, true, true, true, true, false, false, false, false, false, false, false, false, false, false, false, false, false, false, false, false, false, false, false, false, false, false, false, false, false, false, false, false, false, false, false, false, false, false, false, false, false, false, false, false, false, false, false, false, false, false, false] (rkF ns i ps k false) (rkM ps 0) d
-/
theorem Sy.rkF_lt (ns : List NodeW) (i : Int) (ps : List PartV) (k : Int) (b : Bool) : LtF 2 (rkF ns i ps k b) := by
  simp only [LtF]
  exact ⟨Free.lt (nview_free ns), trivial, show 0 < 2 by omega, trivial, trivial, show 1 < 2 by omega, trivial, trivial⟩
theorem Sy.rkB_lt (ps : List PartV) : LtB 2 (rkM ps 0).bs := ⟨⟨⟨Free.lt (v := .view _ 6 _) (fun i j => partA_free _ j), trivial⟩, rfl⟩, ⟨⟨Free.lt (pview_free ps), trivial⟩, rfl⟩, trivial⟩
/-- is there a node that is seen, and that the other parts pick? -/
noncomputable def stepB (ns : List NodeW) (i : Int) (ps : List PartV) (k : Nat) : Bool := seenB ns i (lastN ps).comb k && pickRest ns ps k
theorem Sy.rk_scan (ns : List NodeW) (i : Int) (ps : List PartV) (hl : ns.length ≤ 17592186044416) (h : 0 ≤ i ∧ i < ns.length) (hr : inR (w64 ((ps.length : Int) - 1)) ps.length = true) (ih : ∀ k, 0 ≤ k → k < i → PickRest ns ps k) : LoopTo Tryz.prog (theBody Tryz.prog 18 9) (i.toNat + 1) (rkF ns i ps 0 false) (rkM ps 0) fun ex F' M' => M' = rkM ps 0 ∧ ((0 ≤ idxN (stepB ns i ps) i.toNat ∧ ex = .ret ∧ F' = rkF ns i ps (idxN (stepB ns i ps) i.toNat) true) ∨ (idxN (stepB ns i ps) i.toNat = -1 ∧ ex = .exit 0 ∧ F' = rkF ns i ps (i.toNat : Nat) false)) :=
  scanN i.toNat (stepB ns i ps) (fun k => rkF ns i ps k false) (fun k => rkF ns i ps k true) (rkM ps 0) fun k m G h0 h1 c1 c2 c3 => by
    refine roundCut plain mixed [cSeen ns i, cRest ns ps] [] 400 30 18 9 Tryz.func18 rfl (by kernel_rfl) [true, true, false, false, false, true, true, true, true, true, false, false, false, false, false, false, false, false, false, false, false, false, false, false, false, false, false, false, false, false, false, false, false, false, false, false, false, false, false, false, false, false, false, false, false, false, false, false, false, false, false, false, false, false, false, false, false] (.br (.yes (.yes (.br (.auto 2 (.yes (.auto 0 (.br .done .done)))) (.auto 4 .done)))) .done) (.fork (!(leI i k)) (.need (@inR (w64 ((((ps).length : Nat) : Int) - (1 : Int))) (ps).length) (.need (@isSo (@And ([(@AV.view (ns).length 6 (@ncell ns)), (int i), (int ((ps.getD ((w64 ((((ps).length : Nat) : Int) - (1 : Int)))).toNat partNone)).comb), (int k)] = [(@AV.view (ns).length 6 (@ncell ns)), (int i), (int ((ps.getD ((w64 ((((ps).length : Nat) : Int) - (1 : Int)))).toNat partNone)).comb), (int k)]) (@And ((ns).length ≤ 17592186044416) (@And (@And ((0 : Int) ≤ i) (i < (((ns).length : Nat) : Int))) (@And ((0 : Int) ≤ k) (k < (((ns).length : Nat) : Int))))))) (.fork (@seenB ns i ((ps.getD ((w64 ((((ps).length : Nat) : Int) - (1 : Int)))).toNat partNone)).comb k) (.need (@isSo (@And ([(@AV.view (ns).length 6 (@ncell ns)), (int k), (@AV.agg [(@AV.view (((w64 ((((ps).length : Nat) : Int) - (1 : Int)))).toNat - 0) 6 (fun x547712 => (fun x374360 => (@pcell ps (0 + x547712) x374360))))])] = [(@AV.view (ns).length 6 (@ncell ns)), (int k), (@AV.agg [(@AV.view (((w64 ((((ps).length : Nat) : Int) - (1 : Int)))).toNat - 0) 6 (fun x437247 => (fun x934950 => (@pcell ps (0 + x437247) x934950))))])]) (@PickRest ns ps k))) (.fork (@pickRest ns ps k) (.leaf (Ex.ret, ([(some (@AV.view (ns).length 6 (@ncell ns))), (some (int i)), none, none, none, (some (@AV.ptr 0 0)), (some (boo true)), (some (int (((ps).length : Nat) : Int))), (some (@AV.ptr 1 0)), (some (int k)), none, none, none, none, none, none, none, none, none, none, none, none, none, none, none, none, none, none, none, none, none, none, none, none, none, none, none, none, none, none, none, none, none, none, none, none, none, none, none, none, none, none, none, none, none, none, none], (@Mem.mk 2 0 [(some (@Blk.mk [(@AV.view (((w64 ((((ps).length : Nat) : Int) - (1 : Int)))).toNat - 0) 6 (fun x171289 => (fun x638236 => (@pcell ps (0 + x171289) x638236))))] 45 none)), (some (@Blk.mk [(@AV.view (ps).length 6 (@pcell ps))] 45 none))])))) (.leaf (Ex.norm, ([(some (@AV.view (ns).length 6 (@ncell ns))), (some (int i)), none, none, none, (some (@AV.ptr 0 0)), (some (boo false)), (some (int (((ps).length : Nat) : Int))), (some (@AV.ptr 1 0)), (some (int (w64 (k + (1 : Int))))), none, none, none, none, none, none, none, none, none, none, none, none, none, none, none, none, none, none, none, none, none, none, none, none, none, none, none, none, none, none, none, none, none, none, none, none, none, none, none, none, none, none, none, none, none, none, none], (@Mem.mk 2 0 [(some (@Blk.mk [(@AV.view (((w64 ((((ps).length : Nat) : Int) - (1 : Int)))).toNat - 0) 6 (fun x258778 => (fun x801081 => (@pcell ps (0 + x258778) x801081))))] 45 none)), (some (@Blk.mk [(@AV.view (ps).length 6 (@pcell ps))] 45 none))])))))) (.leaf (Ex.norm, ([(some (@AV.view (ns).length 6 (@ncell ns))), (some (int i)), none, none, none, (some (@AV.ptr 0 0)), (some (boo false)), (some (int (((ps).length : Nat) : Int))), (some (@AV.ptr 1 0)), (some (int (w64 (k + (1 : Int))))), none, none, none, none, none, none, none, none, none, none, none, none, none, none, none, none, none, none, none, none, none, none, none, none, none, none, none, none, none, none, none, none, none, none, none, none, none, none, none, none, none, none, none, none, none, none, none], (@Mem.mk 2 0 [(some (@Blk.mk [(@AV.view (((w64 ((((ps).length : Nat) : Int) - (1 : Int)))).toNat - 0) 6 (fun x809814 => (fun x397309 => (@pcell ps (0 + x809814) x397309))))] 45 none)), (some (@Blk.mk [(@AV.view (ps).length 6 (@pcell ps))] 45 none))]))))))) (.leaf ((@Ex.exit 0), ([(some (@AV.view (ns).length 6 (@ncell ns))), (some (int i)), none, none, none, (some (@AV.ptr 0 0)), (some (boo false)), (some (int (((ps).length : Nat) : Int))), (some (@AV.ptr 1 0)), (some (int k)), none, none, none, none, none, none, none, none, none, none, none, none, none, none, none, none, none, none, none, none, none, none, none, none, none, none, none, none, none, none, none, none, none, none, none, none, none, none, none, none, none, none, none, none, none, none, none], (@Mem.mk 2 0 [(some (@Blk.mk [(@AV.view (((w64 ((((ps).length : Nat) : Int) - (1 : Int)))).toNat - 0) 6 (fun x825859 => (fun x718114 => (@pcell ps (0 + x825859) x718114))))] 45 none)), (some (@Blk.mk [(@AV.view (ps).length 6 (@pcell ps))] 45 none))]))))) (by kernel_rfl) ?_
    have e : ((k.toNat : Nat) : Int) = k := by omega
    simp only [stepB, e] at c1 c2
    have w : k < i.toNat → w64 (k + 1) = k + 1 := fun h => w64_in (by omega)
    refine fork_ok (fun h2 => ?_) (fun h2 => ?_)
    · simp only [Bool.not_eq_true', Bool.not_eq_false', leI_t, leI_f, eqI_t, eqI_f, inR_t, inR_f, isSo_t, isSo_f] at h2
      have hk : k < i.toNat := by omega
      refine need_t hr (need_so ⟨rfl, hl, h, h0, by omega⟩ (fork_ok (fun h3 => need_so ⟨rfl, ih k h0 (by omega)⟩ (fork_ok (fun h4 => ?_) (fun h4 => ?_))) (fun h3 => ?_)))
      · exact ⟨(by first | exact Nat.le_refl _ | exact Nat.le_succ _), rkF_lt ns i ps _ _, rkB_lt ps, c2 hk (by rw [show seenB ns i (lastN ps).comb k = true from h3, h4]; rfl)⟩
      · refine ⟨(by first | exact Nat.le_refl _ | exact Nat.le_succ _), ?_, rkB_lt ps, ?_⟩
        · rw [w hk]; exact rkF_lt ns i ps _ _
        · rw [w hk]; exact c1 hk (by rw [h4, Bool.and_false])
      · refine ⟨(by first | exact Nat.le_refl _ | exact Nat.le_succ _), ?_, rkB_lt ps, ?_⟩
        · rw [w hk]; exact rkF_lt ns i ps _ _
        · rw [w hk]; exact c1 hk (by rw [show seenB ns i (lastN ps).comb k = false from h3, Bool.false_and])
    · simp only [Bool.not_eq_true', Bool.not_eq_false', leI_t, leI_f, eqI_t, eqI_f, inR_t, inR_f, isSo_t, isSo_f] at h2
      exact ⟨(by first | exact Nat.le_refl _ | exact Nat.le_succ _), rkF_lt ns i ps _ _, rkB_lt ps, c3 (by omega)⟩
namespace Sy
noncomputable abbrev lpRk (ns : List NodeW) (i : Int) (ps : List PartV) : Lp Tryz.prog where
  f := 18
  key := 9
  S := formS (fun F M => slotI F 9) (fun k => rkF ns i ps k false) (fun _ => rkM ps 1) (fun k => (ns.length ≤ 17592186044416 ∧ (0 ≤ i ∧ i < ns.length) ∧ inR (w64 ((ps.length : Int) - 1)) ps.length = true ∧ ∀ k, 0 ≤ k → k < i → PickRest ns ps k) ∧ k = 0) (fun k => .fork (anyN (stepB ns i ps) i.toNat) (.leaf (.ret, rkE ns i ps true, rkM ps 0)) (.leaf (.exit 0, rkE ns i ps false, rkM ps 0))) [true, true, false, false, false, true, true, true, true, true, false, false, false, false, false, false, false, false, false, false, false, false, false, false, false, false, false, false, false, false, false, false, false, false, false, false, false, false, false, false, false, false, false, false, false, false, false, false, false, false, false, false, false, false, false, false, false]
  one := by kernel_rfl
  ok := formS_ok fun k ⟨h1, h2⟩ => by
    subst h2
    refine ⟨i.toNat + 1, ?_⟩
    have h6 := Sy.rk_scan ns i ps h1.1 h1.2.1 h1.2.2.1 h1.2.2.2
    have h7 : LoopTo Tryz.prog (theBody Tryz.prog 18 9) (i.toNat + 1) (rkF ns i ps 0 false) (rkM ps 1) _ := LoopTo.stamp (M := rkM ps 1) 0 h6
    refine (h7.out [true, true, false, false, false, true, true, true, true, false, false, false, false, false, false, false, false, false, false, false, false, false, false, false, false, false, false, false, false, false, false, false, false, false, false, false, false, false, false, false, false, false, false, false, false, false, false, false, false, false, false, false, false, false, false, false, false]).mono fun ex F M hg => ?_
    obtain ⟨F0, ⟨hM, hg⟩, rfl⟩ := hg
    rcases hg with ⟨q1, rfl, rfl⟩ | ⟨q1, rfl, rfl⟩
    · exact .inl ⟨by rw [← anyN_idx, leI_t]; exact q1, by rw [hM]; rfl⟩
    · exact .inr ⟨by rw [← anyN_idx, leI_f, q1]; omega, by rw [hM]; rfl⟩
end Sy
/-sy rpk_t
fun (ns : List NodeW) (i : Int) (ps : List PartV) (d : D) => reckV [cRPart ns i (lastN ps)] [lpRk ns i ps] 400 30 18 [nview ns, int i, .agg [pview ps]] M0 d
-/
theorem lastN_i (ps : List PartV) (hp : ps ≠ []) (hl : ps.length ≤ 17592186044416) : (w64 ((ps.length : Int) - 1)).toNat = ps.length - 1 ∧ inR (w64 ((ps.length : Int) - 1)) ps.length = true := by
  have := List.length_pos_iff.2 hp
  rw [w64_in (by omega), inR_t]
  omega
theorem ps_split (ps : List PartV) (hp : ps ≠ []) (hl : ps.length ≤ 17592186044416) : ps.reverse = lastN ps :: (ps.take (ps.length - 1)).reverse := by
  have h0 := List.length_pos_iff.2 hp
  have e : lastN ps = ps[ps.length - 1] := by
    unfold lastN
    rw [(lastN_i ps hp hl).1, List.getD_eq_getElem?_getD, List.getElem?_eq_getElem (by omega)]
    rfl
  have h2 : ps = ps.take (ps.length - 1) ++ [lastN ps] := by
    rw [e]
    have := List.take_succ_eq_append_getElem (l := ps) (i := ps.length - 1) (by omega)
    rw [show ps.length - 1 + 1 = ps.length by omega, List.take_length] at this
    exact this
  conv => lhs; rw [h2]
  simp
theorem picksI_cons (ns : List NodeW) (p : PartV) (r : List PartV) (i : Int) : picksI ns (p :: r) i = (partB ns i p && (r.isEmpty || (aroundV (parN ns) (elN ns) i.toNat p.comb).any fun j => picksI ns r j)) := by
  simp only [picksI]
theorem Sy.rpicks_t : ∀ (n : Nat) (ps : List PartV), ps.length = n → ∀ (ns : List NodeW) (i : Int), DocOk ns → PsOk ps → CallTo Tryz.prog 18 [nview ns, int i, .agg [pview ps]] M0 fun v _ => v = boo (picksV ns i ps) := by
  intro n
  induction n with
  | zero =>
    intro ps hn ns i hok hp
    have h0 : ps = [] := List.eq_nil_of_length_eq_zero hn
    have e : picksV ns i ps = false := by rw [h0]; rfl
    rw [e]
    refine toV [cRPart ns i (lastN ps)] [lpRk ns i ps] 400 30 (.br (.auto 5 (.yes (.auto 1 (.yes (.auto 1 (.br .done (.br .done (.yes (.br .done .done))))))))) (.auto 10 .done)) (.fork (!(eqI (((ps).length : Nat) : Int) (0 : Int))) (.need (@inR (w64 ((((ps).length : Nat) : Int) - (1 : Int))) (ps).length) (.need (@isSo (@And ([(@AV.view (ns).length 6 (@ncell ns)), (int i), (@AV.agg [(@pcell ps ((w64 ((((ps).length : Nat) : Int) - (1 : Int)))).toNat 0), (@pcell ps ((w64 ((((ps).length : Nat) : Int) - (1 : Int)))).toNat 1), (@pcell ps ((w64 ((((ps).length : Nat) : Int) - (1 : Int)))).toNat 2), (@pcell ps ((w64 ((((ps).length : Nat) : Int) - (1 : Int)))).toNat 3), (@pcell ps ((w64 ((((ps).length : Nat) : Int) - (1 : Int)))).toNat 4), (@pcell ps ((w64 ((((ps).length : Nat) : Int) - (1 : Int)))).toNat 5)])] = [(@AV.view (ns).length 6 (@ncell ns)), (int i), (@AV.agg [(int ((@lastN ps)).comb), (@AV.lit (@Value.string ((@lastN ps)).tag)), (@AV.lit (@Value.string ((@lastN ps)).id)), (@AV.view (((@lastN ps)).cls).length 1 (fun x193343 => (fun x306070 => (@AV.lit ([(@Value.string (((@lastN ps)).cls.getD x193343 (@ByteArray.mk (@Array.mk _ []))))].getD x306070 (@Value.tuple (@Array.mk _ []))))))), (@AV.view (((@lastN ps)).tests).length 3 (fun x976250 => (fun x183929 => (@AV.lit ([(@Value.string ((((@lastN ps)).tests.getD x976250 testNone)).name), (@Value.bool ((((@lastN ps)).tests.getD x976250 testNone)).equal), (@Value.string ((((@lastN ps)).tests.getD x976250 testNone)).value)].getD x183929 (@Value.tuple (@Array.mk _ []))))))), (int ((@lastN ps)).states)])]) (@And (@And ((ns).length ≤ 17592186044416) (∀ (n : NodeW), n ∈ ns → NodeOk n)) (@And ((((@lastN ps)).cls).length ≤ 17592186044416) ((((@lastN ps)).tests).length ≤ 17592186044416))))) (.fork (!(@rpartB ns i (@lastN ps))) (.leaf (boo false)) (.fork (eqI (((ps).length : Nat) : Int) (1 : Int)) (.leaf (boo true)) (.need (true && ((leI (0 : Int) (w64 ((((ps).length : Nat) : Int) - (1 : Int)))) && (leI (w64 ((((ps).length : Nat) : Int) - (1 : Int))) (((ps).length : Nat) : Int)))) (.need (@isSo (@And (((some (@AV.view (ns).length 6 (@ncell ns))) :: (some (int i)) :: none :: [none, none, (some (@AV.ptr 0 0)), (some (boo false)), (some (int (((ps).length : Nat) : Int))), (some (@AV.ptr (0 + 1) 0)), (some (int (0 : Int))), none, none, none, none, none, none, none, none, none, none, none, none, none, none, none, none, none, none, none, none, none, none, none, none, none, none, none, none, none, none, none, none, none, none, none, none, none, none, none, none, none, none, none, none, none, none, none]) = [(some (@AV.view (ns).length 6 (@ncell ns))), (some (int i)), none, none, none, (some (@AV.ptr 0 0)), (some (boo false)), (some (int (((ps).length : Nat) : Int))), (some (@AV.ptr 1 0)), (some (int (0 : Int))), none, none, none, none, none, none, none, none, none, none, none, none, none, none, none, none, none, none, none, none, none, none, none, none, none, none, none, none, none, none, none, none, none, none, none, none, none, none, none, none, none, none, none, none, none, none, none]) ((@Mem.mk ((0 + 1) + 1) (0 + 1) [(some (@Blk.mk [(@AV.view (((w64 ((((ps).length : Nat) : Int) - (1 : Int)))).toNat - 0) 6 (fun x559001 => (fun x473548 => (@pcell ps (0 + x559001) x473548))))] 45 none)), (some (@Blk.mk [(@AV.view (ps).length 6 (@pcell ps))] 45 none))]) = (@Mem.mk 2 1 [(some (@Blk.mk [(@AV.view (((w64 ((((ps).length : Nat) : Int) - (1 : Int)))).toNat - 0) 6 (fun x898843 => (fun x351903 => (@pcell ps (0 + x898843) x351903))))] 45 none)), (some (@Blk.mk [(@AV.view (ps).length 6 (@pcell ps))] 45 none))])))) (.need (@isSo (@And (@And ((ns).length ≤ 17592186044416) (@And (@And ((0 : Int) ≤ i) (i < (((ns).length : Nat) : Int))) (@And ((@inR (w64 ((((ps).length : Nat) : Int) - (1 : Int))) (ps).length) = true) (∀ (k : Int), 0 ≤ k → k < i → PickRest ns ps k)))) ((0 : Int) = (0 : Int)))) (.fork (@anyN (@stepB ns i ps) (i).toNat) (.leaf (boo true)) (.leaf (boo false)))))))))) (.leaf (boo false))) (by kernel_rfl) ?_
    refine fork_ok (fun h => ?_) (fun h => rfl)
    simp only [Bool.not_eq_true', eqI_f] at h
    omega
  | succ n ih =>
    intro ps hn ns i hok hp
    have hne : ps ≠ [] := by intro h; subst h; simp at hn
    obtain ⟨e1, hr⟩ := lastN_i ps hne hp.1
    have hlm : lastN ps ∈ ps := by
      have h0 := List.length_pos_iff.2 hne
      unfold lastN
      rw [e1, List.getD_eq_getElem?_getD, List.getElem?_eq_getElem (by omega)]
      exact List.getElem_mem _
    have hlo := hp.2 _ hlm
    have eP : rpartB ns i (lastN ps) = partB ns i (lastN ps) := partB_r ns i _ hlo.1.2.2.2.2
    have eS : picksV ns i ps = (partB ns i (lastN ps) && ((ps.take (ps.length - 1)).reverse.isEmpty || (aroundV (parN ns) (elN ns) i.toNat (lastN ps).comb).any fun j => picksI ns (ps.take (ps.length - 1)).reverse j)) := by
      unfold picksV
      rw [ps_split ps hne hp.1, picksI_cons]
    have hlt : (ps.take (ps.length - 1)).length = n := by rw [List.length_take]; omega
    have hpt : PsOk (ps.take (ps.length - 1)) := ⟨by rw [hlt]; have := hp.1; omega, fun p h => hp.2 p (List.mem_of_mem_take h)⟩
    have hih : ∀ k, 0 ≤ k → k < i → PickRest ns ps k := fun k _ _ => ⟨by
      refine (ih _ hlt ns k hok hpt).congr fun ρ us hr => ?_
      simp only [rels, rel] at hr ⊢
      obtain ⟨u, us', rfl, h1, u2, us2, rfl, h2, u3, us3, rfl, ⟨l, rfl, u4, us4, rfl, hv, rfl⟩, rfl⟩ := hr
      refine ⟨_, _, rfl, h1, _, _, rfl, h2, _, _, rfl, ⟨_, rfl, _, _, rfl, ?_, rfl⟩, rfl⟩
      have hv' : rel ρ (.view ((w64 ((ps.length : Int) - 1)).toNat - 0) 6 (fun i j => pcell ps (0 + i) j)) u4 := by simp only [rel]; exact hv
      have en : (w64 ((ps.length : Int) - 1)).toNat - 0 = (ps.take (ps.length - 1)).length := by rw [hlt]; omega
      rw [en] at hv'
      have hv2 := rel_view_congr (cell' := pcell (ps.take (ps.length - 1))) (fun i j hi _ => by
        unfold pcell
        rw [List.getD_eq_getElem?_getD, List.getD_eq_getElem?_getD, List.getElem?_take, if_pos (by omega), Nat.zero_add]) hv'
      simp only [rel] at hv2
      exact hv2⟩
    refine toV [cRPart ns i (lastN ps)] [lpRk ns i ps] 400 30 (.br (.auto 5 (.yes (.auto 1 (.yes (.auto 1 (.br .done (.br .done (.yes (.br .done .done))))))))) (.auto 10 .done)) (.fork (!(eqI (((ps).length : Nat) : Int) (0 : Int))) (.need (@inR (w64 ((((ps).length : Nat) : Int) - (1 : Int))) (ps).length) (.need (@isSo (@And ([(@AV.view (ns).length 6 (@ncell ns)), (int i), (@AV.agg [(@pcell ps ((w64 ((((ps).length : Nat) : Int) - (1 : Int)))).toNat 0), (@pcell ps ((w64 ((((ps).length : Nat) : Int) - (1 : Int)))).toNat 1), (@pcell ps ((w64 ((((ps).length : Nat) : Int) - (1 : Int)))).toNat 2), (@pcell ps ((w64 ((((ps).length : Nat) : Int) - (1 : Int)))).toNat 3), (@pcell ps ((w64 ((((ps).length : Nat) : Int) - (1 : Int)))).toNat 4), (@pcell ps ((w64 ((((ps).length : Nat) : Int) - (1 : Int)))).toNat 5)])] = [(@AV.view (ns).length 6 (@ncell ns)), (int i), (@AV.agg [(int ((@lastN ps)).comb), (@AV.lit (@Value.string ((@lastN ps)).tag)), (@AV.lit (@Value.string ((@lastN ps)).id)), (@AV.view (((@lastN ps)).cls).length 1 (fun x193343 => (fun x306070 => (@AV.lit ([(@Value.string (((@lastN ps)).cls.getD x193343 (@ByteArray.mk (@Array.mk _ []))))].getD x306070 (@Value.tuple (@Array.mk _ []))))))), (@AV.view (((@lastN ps)).tests).length 3 (fun x976250 => (fun x183929 => (@AV.lit ([(@Value.string ((((@lastN ps)).tests.getD x976250 testNone)).name), (@Value.bool ((((@lastN ps)).tests.getD x976250 testNone)).equal), (@Value.string ((((@lastN ps)).tests.getD x976250 testNone)).value)].getD x183929 (@Value.tuple (@Array.mk _ []))))))), (int ((@lastN ps)).states)])]) (@And (@And ((ns).length ≤ 17592186044416) (∀ (n : NodeW), n ∈ ns → NodeOk n)) (@And ((((@lastN ps)).cls).length ≤ 17592186044416) ((((@lastN ps)).tests).length ≤ 17592186044416))))) (.fork (!(@rpartB ns i (@lastN ps))) (.leaf (boo false)) (.fork (eqI (((ps).length : Nat) : Int) (1 : Int)) (.leaf (boo true)) (.need (true && ((leI (0 : Int) (w64 ((((ps).length : Nat) : Int) - (1 : Int)))) && (leI (w64 ((((ps).length : Nat) : Int) - (1 : Int))) (((ps).length : Nat) : Int)))) (.need (@isSo (@And (((some (@AV.view (ns).length 6 (@ncell ns))) :: (some (int i)) :: none :: [none, none, (some (@AV.ptr 0 0)), (some (boo false)), (some (int (((ps).length : Nat) : Int))), (some (@AV.ptr (0 + 1) 0)), (some (int (0 : Int))), none, none, none, none, none, none, none, none, none, none, none, none, none, none, none, none, none, none, none, none, none, none, none, none, none, none, none, none, none, none, none, none, none, none, none, none, none, none, none, none, none, none, none, none, none, none, none]) = [(some (@AV.view (ns).length 6 (@ncell ns))), (some (int i)), none, none, none, (some (@AV.ptr 0 0)), (some (boo false)), (some (int (((ps).length : Nat) : Int))), (some (@AV.ptr 1 0)), (some (int (0 : Int))), none, none, none, none, none, none, none, none, none, none, none, none, none, none, none, none, none, none, none, none, none, none, none, none, none, none, none, none, none, none, none, none, none, none, none, none, none, none, none, none, none, none, none, none, none, none, none]) ((@Mem.mk ((0 + 1) + 1) (0 + 1) [(some (@Blk.mk [(@AV.view (((w64 ((((ps).length : Nat) : Int) - (1 : Int)))).toNat - 0) 6 (fun x559001 => (fun x473548 => (@pcell ps (0 + x559001) x473548))))] 45 none)), (some (@Blk.mk [(@AV.view (ps).length 6 (@pcell ps))] 45 none))]) = (@Mem.mk 2 1 [(some (@Blk.mk [(@AV.view (((w64 ((((ps).length : Nat) : Int) - (1 : Int)))).toNat - 0) 6 (fun x898843 => (fun x351903 => (@pcell ps (0 + x898843) x351903))))] 45 none)), (some (@Blk.mk [(@AV.view (ps).length 6 (@pcell ps))] 45 none))])))) (.need (@isSo (@And (@And ((ns).length ≤ 17592186044416) (@And (@And ((0 : Int) ≤ i) (i < (((ns).length : Nat) : Int))) (@And ((@inR (w64 ((((ps).length : Nat) : Int) - (1 : Int))) (ps).length) = true) (∀ (k : Int), 0 ≤ k → k < i → PickRest ns ps k)))) ((0 : Int) = (0 : Int)))) (.fork (@anyN (@stepB ns i ps) (i).toNat) (.leaf (boo true)) (.leaf (boo false)))))))))) (.leaf (boo false))) (by kernel_rfl) ?_
    refine fork_ok (fun h => ?_) (fun h => ?_)
    · refine need_t hr (need_so ⟨rfl, hok, hlo.2⟩ (fork_ok (fun h2 => ?_) (fun h2 => ?_)))
      · refine leaf_boo ?_
        rw [Bool.not_eq_true'] at h2
        rw [eS, ← eP, h2, Bool.false_and]
      · rw [Bool.not_eq_false'] at h2
        have hz : 0 ≤ i ∧ i < ns.length := (part_is (eP ▸ h2))
        refine fork_ok (fun h3 => ?_) (fun h3 => ?_)
        · refine leaf_boo ?_
          rw [eqI_t] at h3
          have h4 : ps.take (ps.length - 1) = [] := by rw [show ps.length - 1 = 0 by omega]; rfl
          rw [eS, ← eP, h2, h4]
          rfl
        · rw [eqI_f] at h3
          have h5 : (ps.take (ps.length - 1)).reverse.isEmpty = false := by
            rw [List.isEmpty_reverse, List.isEmpty_eq_false_iff]
            intro h; rw [h] at hlt; simp at hlt; omega
          have h6 : anyN (stepB ns i ps) i.toNat = picksV ns i ps := by
            rw [eS, ← eP, h2, h5, Bool.true_and, Bool.false_or, Bool.eq_iff_iff, anyN_iff, List.any_eq_true]
            obtain ⟨κ, rfl⟩ := Int.eq_ofNat_of_zero_le hz.1
            simp only [Int.toNat_natCast, stepB, Bool.and_eq_true, seenB_r]
            constructor
            · rintro ⟨k, a, b, c⟩; exact ⟨k, b, c⟩
            · rintro ⟨k, b, c⟩; exact ⟨k, aroundV_lt _ _ _ _ k b, b, c⟩
          refine need_t ?_ (need_so ⟨rfl, rfl⟩ (need_so ⟨⟨hok.1, hz, hr, hih⟩, rfl⟩ (fork_ok (fun h7 => ?_) (fun h7 => ?_))))
          · rw [inR_t] at hr
            rw [show leI 0 (w64 ((ps.length : Int) - 1)) = true by rw [leI_t]; omega, show leI (w64 ((ps.length : Int) - 1)) ps.length = true by rw [leI_t]; omega]
            rfl
          · exact leaf_boo (by rw [← h6, h7])
          · exact leaf_boo (by rw [← h6, h7])
    · rw [Bool.not_eq_false', eqI_t] at h
      exact absurd (List.eq_nil_of_length_eq_zero (by omega)) hne
end Go.Proofs.YtmlhipckgmbpfaaGreat
