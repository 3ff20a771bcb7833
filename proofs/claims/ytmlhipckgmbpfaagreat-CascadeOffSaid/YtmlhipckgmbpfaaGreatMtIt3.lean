/-
  The iterators of match: what each gives.
-/
import Derived.Test.YtmlhipckgmbpfaaGreatRf
import Derived.Test.YtmlhipckgmbpfaaGreatMtDoc
namespace Go.Proofs.YtmlhipckgmbpfaaGreat
open Go Go.RowKit Pl
set_option linter.unusedVariables false
set_option linter.unusedSimpArgs false
attribute [local go_sem] Oper.semAt_some

/-- a list of nodes that lies below a place -/
def DocIn (n₀ : Nat) (W : World) (a : Option Addr) (cap : Nat) (rs : List NRow) : Prop := ∃ w0, Doc w0 a cap rs ∧ w0.heap.size ≤ n₀ ∧ Below w0.heap.size w0 W
theorem DocIn.below {n₀ : Nat} {W W' : World} {a : Option Addr} {cap : Nat} {rs : List NRow} (h : DocIn n₀ W a cap rs) (hb : Below n₀ W W') : DocIn n₀ W' a cap rs := by
  obtain ⟨w0, h1, h2, h3⟩ := h
  exact ⟨w0, h1, h2, h3.trans (hb.mono h2)⟩
theorem DocIn.doc {n₀ : Nat} {W : World} {a : Option Addr} {cap : Nat} {rs : List NRow} (h : DocIn n₀ W a cap rs) : Doc W a cap rs := by
  obtain ⟨w0, h1, h2, h3⟩ := h
  exact h1.grow h3
theorem Doc.in {W : World} {a : Option Addr} {cap : Nat} {rs : List NRow} (h : Doc W a cap rs) : DocIn W.heap.size W a cap rs := ⟨W, h, Nat.le_refl _, Below.refl _ _⟩
theorem DocIn.mono {n₀ n₁ : Nat} {W : World} {a : Option Addr} {cap : Nat} {rs : List NRow} (h : DocIn n₀ W a cap rs) (hn : n₀ ≤ n₁) : DocIn n₁ W a cap rs := by
  obtain ⟨w0, h1, h2, h3⟩ := h
  exact ⟨w0, h1, by omega, h3⟩

/-- from a place up -/
def upsK (p : Nat → Int) (k : Int) : List Nat := if 0 ≤ k then k.toNat :: ups p k.toNat else []
theorem ups_upsK (p : Nat → Int) (i : Nat) : ups p i = upsK p (up p i) := by rw [ups_eq]; rfl
theorem upsK_step (p : Nat → Int) (k : Int) (h : 0 ≤ k) : upsK p k = k.toNat :: upsK p (up p k.toNat) := by
  rw [← ups_upsK]; unfold upsK; rw [if_pos h]
theorem upsK_end (p : Nat → Int) (k : Int) (h : ¬ 0 ≤ k) : upsK p k = [] := by unfold upsK; rw [if_neg h]

theorem pre_of {α : Type} {pre rest ks : List α} {x : α} (h : ks = pre ++ x :: rest) : pre ++ [x] <+: ks := ⟨rest, by simp [h]⟩

set_option maxRecDepth 100000 in
set_option maxHeartbeats 2000000 in
theorem ups1_in (n l Bd Bi n₀ : Nat) (a : Option Addr) (cap : Nat) (rs : List NRow) (i : Nat) (hi : i < rs.length) (hn : 1 ≤ n) (h1 : Bd < n₀) (h2 : Bi < n₀) (J Jx : List Nat → World → Prop) (B : Nat)
    (hY : ∀ (m : Nat) (pre : List Nat) (x : Nat) (W1 : World), J pre W1 → pre ++ [x] <+: ups (npar rs) i → YieldAt Fence.wide m Tryz.prog l #[.int .i64 (x : Int)] W1 (RoundOk n₀ B J Jx (pre ++ [x]) W1))
    (W : World) (hD : DocIn n₀ W a cap rs) (c1 : W.cell? ⟨Bd, 0, none⟩ = some (.slice a rs.length cap)) (c2 : W.cell? ⟨Bi, 0, none⟩ = some (.int .i64 (i : Int))) (h0 : J [] W) :
    CallsIn Fence.wide n Tryz.prog 146 #[.func (.yield l) #[] #[], .pointer (some ⟨Bd, 0, none⟩), .pointer (some ⟨Bi, 0, none⟩)] W fun e W' => (∃ v, e = .returned v) ∧ (J (ups (npar rs) i) W' ∨ ∃ pre, pre <+: ups (npar rs) i ∧ Jx pre W') := by
  have hd : ∀ k : Nat, (Fence.wide.depth.isSome = true → 1 ≤ k) := fun k h => by cases h
  have hu := up_lt (npar rs) i
  have hu' := up_ge (npar rs) i
  have m1 := mup hD.doc i (by omega) (by omega)
  simp only [Int.toNat_natCast] at m1
  refine callsIn_of_wp Tryz.func146 rfl trivial ?_ rfl
  simp only [Tryz.ntmps146, List.size_toArray, List.length_cons, List.length_nil, Nat.reduceAdd, Nat.reduceSub, Array.replicate_succ, Array.replicate_zero, List.push_toArray, List.append_toArray, List.nil_append, List.cons_append]
  gi_wp2_with ((refine ⟨trivial, ?_⟩); gi_at_call 147; refine (callsIn_wide.2 m1).mono ?_; clear m1; rintro e w' ⟨rfl, rfl⟩)
  gi_loopw [4] (fun v wr => ∃ (k : Int) (pre : List Nat), v = .int .i64 k ∧ -1 ≤ k ∧ k < i ∧ ups (npar rs) i = pre ++ upsK (npar rs) k ∧ J pre wr ∧ Below n₀ w' wr)
    (fun v _ => (intOf v + 1).toNat)
  case atStart => exact ⟨_, [], rfl, hu', hu, ups_upsK _ _, h0, Below.refl _ _⟩
  case round =>
    obtain ⟨k, pre, rfl, hk1, hk2, hks, hJ, hB⟩ := hrel
    by_cases hk : 0 ≤ k
    · rw [upsK_step _ _ hk] at hks
      obtain ⟨fn, tmps, assign, body, hy, hR⟩ := hY (n - 1) pre k.toNat wr hJ (pre_of hks)
      rw [Int.toNat_of_nonneg hk] at hy
      have d1 : decide (0 ≤ k) = true := by simpa using hk
      gi_wp2
      refine hR.mono ?_
      rintro e W3 ⟨hkf, ⟨rfl, hJ3, hk3⟩ | ⟨rfl, hJx3⟩⟩
      · have hB3 := hB.trans hk3
        have c3 := (hB3.cell (p := ⟨Bd, 0, none⟩) h1).trans c1
        have m2 := mup (hD.below hB3).doc k hk (by omega)
        have hv := up_lt (npar rs) k.toNat
        have hv' := up_ge (npar rs) k.toNat
        gi_wp2_with ((refine ⟨trivial, ?_⟩); gi_at_call 147; refine (callsIn_wide.2 m2).mono ?_; clear m2; rintro e w4 ⟨rfl, rfl⟩)
        go_roundw
        case rel => exact ⟨_, pre ++ [k.toNat], rfl, hv', by omega, by rw [hks]; simp, hJ3, hB3⟩
        case measure => simp [intOf]; omega
      · gi_wp2
        go_end0
        exact ⟨⟨_, rfl⟩, .inr ⟨_, pre_of hks, hJx3⟩⟩
    · have d1 : decide (0 ≤ k) = false := by simpa using hk
      rw [upsK_end _ _ hk, List.append_nil] at hks
      gi_wp2
      refine ⟨fun _ h => (by cases h), ?_⟩
      gi_wp2
      go_end0
      exact ⟨⟨_, rfl⟩, .inl (by rw [hks]; exact hJ)⟩
theorem ups_seq (Bd Bi n₀ : Nat) (a : Option Addr) (cap : Nat) (rs : List NRow) (i : Nat) (hi : i < rs.length) (h1 : Bd < n₀) (h2 : Bi < n₀) (w : World) (hn : n₀ ≤ w.heap.size) (hD : DocIn n₀ w a cap rs) (c1 : w.cell? ⟨Bd, 0, none⟩ = some (.slice a rs.length cap)) (c2 : w.cell? ⟨Bi, 0, none⟩ = some (.int .i64 (i : Int))) :
    SeqOwn Tryz.prog 146 #[.pointer (some ⟨Bd, 0, none⟩), .pointer (some ⟨Bi, 0, none⟩)] (ups (npar rs) i) n₀ w := fun n l J Jx W hn1 hW hJ hJx hY h0 =>
  ups1_in n l Bd Bi n₀ a cap rs i hi hn1 h1 h2 J Jx _ hY W (hD.below (hW.mono hn)) ((hW.cell (p := ⟨Bd, 0, none⟩) (Nat.lt_of_lt_of_le h1 hn)).trans c1) ((hW.cell (p := ⟨Bi, 0, none⟩) (Nat.lt_of_lt_of_le h2 hn)).trans c2) h0
end Go.Proofs.YtmlhipckgmbpfaaGreat
namespace Go.Proofs.YtmlhipckgmbpfaaGreat
open Go Go.RowKit Pl
set_option linter.unusedVariables false
set_option linter.unusedSimpArgs false
attribute [local go_sem] Oper.semAt_some

/-- from a place down -/
def aheadK (p : Nat → Int) (t : Nat → Bool) (q k : Int) : List Nat := if 0 ≤ q then aheadF p t q (k + 1).toNat else []
theorem ahead_K (p : Nat → Int) (t : Nat → Bool) (i : Nat) : aheadV p t i = aheadK p t (up p i) ((i : Int) - 1) := by
  unfold aheadV aheadK
  rw [show ((i : Int) - 1 + 1).toNat = i by omega]
theorem aheadK_end (p : Nat → Int) (t : Nat → Bool) (q k : Int) (h : ¬ (q < k ∧ 0 ≤ q)) : aheadK p t q k = [] := by
  unfold aheadK
  split
  · rename_i h0
    generalize hm : (k + 1).toNat = m
    cases m with
    | zero => rfl
    | succ m => rw [aheadF, if_neg (by omega)]
  · rfl
theorem aheadK_step (p : Nat → Int) (t : Nat → Bool) (q : Int) (m : Nat) (h : q < m) (h0 : 0 ≤ q) : aheadK p t q m = if t m = true ∧ up p m = q then m :: aheadK p t q ((m : Int) - 1) else aheadK p t q ((m : Int) - 1) := by
  unfold aheadK
  rw [if_pos h0, if_pos h0, show ((m : Int) + 1).toNat = m + 1 by omega, show ((m : Int) - 1 + 1).toNat = m by omega, aheadF, if_pos h]

set_option maxRecDepth 100000 in
set_option maxHeartbeats 2000000 in
theorem ahead1_in (n l Bd Bi n₀ : Nat) (a : Option Addr) (cap : Nat) (rs : List NRow) (i : Nat) (hi : i < rs.length) (hn : 1 ≤ n) (h1 : Bd < n₀) (h2 : Bi < n₀) (J Jx : List Nat → World → Prop) (B : Nat)
    (hY : ∀ (m : Nat) (pre : List Nat) (x : Nat) (W1 : World), J pre W1 → pre ++ [x] <+: aheadV (npar rs) (nel rs) i → YieldAt Fence.wide m Tryz.prog l #[.int .i64 (x : Int)] W1 (RoundOk n₀ B J Jx (pre ++ [x]) W1))
    (W : World) (hD : DocIn n₀ W a cap rs) (c1 : W.cell? ⟨Bd, 0, none⟩ = some (.slice a rs.length cap)) (c2 : W.cell? ⟨Bi, 0, none⟩ = some (.int .i64 (i : Int))) (h0 : J [] W) :
    CallsIn Fence.wide n Tryz.prog 150 #[.func (.yield l) #[] #[], .pointer (some ⟨Bd, 0, none⟩), .pointer (some ⟨Bi, 0, none⟩)] W fun e W' => (∃ v, e = .returned v) ∧ (J (aheadV (npar rs) (nel rs) i) W' ∨ ∃ pre, pre <+: aheadV (npar rs) (nel rs) i ∧ Jx pre W') := by
  have hd : ∀ k : Nat, (Fence.wide.depth.isSome = true → 1 ≤ k) := fun k h => by cases h
  have hu := up_lt (npar rs) i
  have hu' := up_ge (npar rs) i
  have hlen := hD.doc.len
  have m1 := mup hD.doc i (by omega) (by omega)
  simp only [Int.toNat_natCast] at m1
  have hK := ahead_K (npar rs) (nel rs) i
  generalize up (npar rs) i = q at *
  generalize aheadV (npar rs) (nel rs) i = ks at *
  refine callsIn_of_wp Tryz.func150 rfl trivial ?_ rfl
  simp only [Tryz.ntmps150, List.size_toArray, List.length_cons, List.length_nil, Nat.reduceAdd, Nat.reduceSub, Array.replicate_succ, Array.replicate_zero, List.push_toArray, List.append_toArray, List.nil_append, List.cons_append]
  gi_wp2_with (refine ⟨trivial, ?_⟩; gi_at_call 147; refine (callsIn_wide.2 m1).mono ?_; clear m1; rintro e w' ⟨rfl, rfl⟩)
  gi_loopw [5] (fun v wr => ∃ (k : Int) (pre : List Nat), v = .int .i64 k ∧ -1 ≤ k ∧ k < i ∧ ks = pre ++ aheadK (npar rs) (nel rs) q k ∧ J pre wr ∧ Below n₀ w' wr)
    (fun v _ => (intOf v + 1).toNat)
  case atStart => exact ⟨(i : Int) - 1, [], by go_num, by omega, by omega, hK, h0, Below.refl _ _⟩
  case round =>
    obtain ⟨k, pre, rfl, hk1, hk2, hks, hJ, hB⟩ := hrel
    by_cases hk : q < k ∧ 0 ≤ q
    · obtain ⟨m, rfl⟩ := Int.eq_ofNat_of_zero_le (show 0 ≤ k by omega)
      have d1 : decide (q < (m : Int)) = true := by simpa using hk.1
      have d2 : decide (0 ≤ q) = true := by simpa using hk.2
      have hD2 := hD.below hB
      obtain ⟨b, off, rfl, hb, hc⟩ := hD2.doc.at (by omega)
      have e1 := (hc m (by omega)).2
      have c3 := (hB.cell (p := ⟨Bd, 0, none⟩) h1).trans c1
      have m2 := mup hD2.doc m (by omega) (by omega)
      simp only [Int.toNat_natCast] at m2
      rw [aheadK_step _ _ _ _ hk.1 hk.2] at hks
      have hv := up_lt (npar rs) m
      generalize hR : aheadK (npar rs) (nel rs) q ((m : Int) - 1) = R at hks
      unfold nel at hks
      generalize ntag rs m = tg at *
      generalize up (npar rs) m = r at *
      have hnext : ∀ (pre' : List Nat) (wz : World), ks = pre' ++ R → J pre' wz → Below n₀ w' wz → ∃ (k : Int) (pre : List Nat), (Value.int .i64 ((m : Int) - 1)) = .int .i64 k ∧ -1 ≤ k ∧ k < i ∧ ks = pre ++ aheadK (npar rs) (nel rs) q k ∧ J pre wz ∧ Below n₀ w' wz := fun pre' wz h1 h2 h3 => ⟨_, pre', rfl, by omega, by omega, by rw [hR]; exact h1, h2, h3⟩
      have hw : IntKind.i64.wrap ((m : Int) - 1) = (m : Int) - 1 := IntWalk.i64_in _ (by omega)
      clear hc hK hD
      by_cases ht : tg = ⟨#[]⟩
      · have hks' : ks = pre ++ R := by rw [hks, if_neg (by simp [ht])]
        subst ht
        gi_wp2_with ((with_reducible refine And.intro ?_ ?_); (focus (first | exact trivial | exact fun _ h => (by cases h))))
        go_roundw
        case rel => exact hnext pre _ hks' hJ hB
        case measure => simp [intOf] <;> omega
      · have d4 : tg.toList.isEmpty = false := by rw [str_emp]; simpa using ht
        by_cases hr : r = q
        · have hks' : ks = pre ++ m :: R := by rw [hks, if_pos (by simp [ht, hr])]
          subst hr
          obtain ⟨fn, tmps, assign, body, hy, hR2⟩ := hY (n - 1) pre m wr hJ (pre_of hks')
          gi_wp2_with ((with_reducible refine And.intro ?_ ?_); (focus (first | exact trivial | exact fun _ h => (by cases h))); try (gi_at_call 147; refine (callsIn_wide.2 m2).mono ?_; clear m2; rintro e w4 ⟨rfl, rfl⟩))
          refine hR2.mono ?_
          rintro e W3 ⟨hkf, ⟨rfl, hJ3, hk3⟩ | ⟨rfl, hJx3⟩⟩
          · have hB3 := hB.trans hk3
            gi_wp2
            go_roundw
            case rel => exact hnext (pre ++ [m]) _ (by rw [hks']; simp) hJ3 hB3
            case measure => simp [intOf] <;> omega
          · gi_wp2
            (try simp only [Exit.inBlock, Exit.then])
            refine bodyPost_ret (results_none rfl _ _ _) rfl ?_
            exact ⟨⟨_, rfl⟩, .inr ⟨_, pre_of hks', hJx3⟩⟩
        · have hks' : ks = pre ++ R := by rw [hks, if_neg (by simp [ht, hr])]
          have d3 : (r == q) = false := by simpa using hr
          gi_wp2_with ((with_reducible refine And.intro ?_ ?_); (focus (first | exact trivial | exact fun _ h => (by cases h))); try (gi_at_call 147; refine (callsIn_wide.2 m2).mono ?_; clear m2; rintro e w4 ⟨rfl, rfl⟩))
          go_roundw
          case rel => exact hnext pre _ hks' hJ hB
          case measure => simp [intOf] <;> omega
    · rw [aheadK_end _ _ _ _ hk, List.append_nil] at hks
      clear hK hD
      by_cases h3 : q < k
      · have d1 : decide (q < k) = true := by simpa using h3
        have d2 : decide (0 ≤ q) = false := by simp; omega
        gi_wp2
        go_end0
        exact ⟨⟨_, rfl⟩, .inl (hks ▸ hJ)⟩
      · have d1 : decide (q < k) = false := by simp; omega
        gi_wp2
        go_end0
        exact ⟨⟨_, rfl⟩, .inl (hks ▸ hJ)⟩
theorem ahead_seq (Bd Bi n₀ : Nat) (a : Option Addr) (cap : Nat) (rs : List NRow) (i : Nat) (hi : i < rs.length) (h1 : Bd < n₀) (h2 : Bi < n₀) (w : World) (hn : n₀ ≤ w.heap.size) (hD : DocIn n₀ w a cap rs) (c1 : w.cell? ⟨Bd, 0, none⟩ = some (.slice a rs.length cap)) (c2 : w.cell? ⟨Bi, 0, none⟩ = some (.int .i64 (i : Int))) :
    SeqOwn Tryz.prog 150 #[.pointer (some ⟨Bd, 0, none⟩), .pointer (some ⟨Bi, 0, none⟩)] (aheadV (npar rs) (nel rs) i) n₀ w := fun n l J Jx W hn1 hW hJ hJx hY h0 =>
  ahead1_in n l Bd Bi n₀ a cap rs i hi hn1 h1 h2 J Jx _ hY W (hD.below (hW.mono hn)) ((hW.cell (p := ⟨Bd, 0, none⟩) (Nat.lt_of_lt_of_le h1 hn)).trans c1) ((hW.cell (p := ⟨Bi, 0, none⟩) (Nat.lt_of_lt_of_le h2 hn)).trans c2) h0

set_option maxRecDepth 100000 in
set_option maxHeartbeats 2000000 in
theorem parent1_in (n l Bd Bi n₀ : Nat) (a : Option Addr) (cap : Nat) (rs : List NRow) (i : Nat) (hi : i < rs.length) (hn : 1 ≤ n) (J Jx : List Nat → World → Prop) (B : Nat)
    (hY : ∀ (m : Nat) (pre : List Nat) (x : Nat) (W1 : World), J pre W1 → pre ++ [x] <+: parentV (npar rs) i → YieldAt Fence.wide m Tryz.prog l #[.int .i64 (x : Int)] W1 (RoundOk n₀ B J Jx (pre ++ [x]) W1))
    (W : World) (hD : DocIn n₀ W a cap rs) (c1 : W.cell? ⟨Bd, 0, none⟩ = some (.slice a rs.length cap)) (c2 : W.cell? ⟨Bi, 0, none⟩ = some (.int .i64 (i : Int))) (h0 : J [] W) :
    CallsIn Fence.wide n Tryz.prog 148 #[.func (.yield l) #[] #[], .pointer (some ⟨Bd, 0, none⟩), .pointer (some ⟨Bi, 0, none⟩)] W fun e W' => (∃ v, e = .returned v) ∧ (J (parentV (npar rs) i) W' ∨ ∃ pre, pre <+: parentV (npar rs) i ∧ Jx pre W') := by
  have m1 := mup hD.doc i (by omega) (by omega)
  simp only [Int.toNat_natCast] at m1
  have hK : parentV (npar rs) i = if 0 ≤ up (npar rs) i then [(up (npar rs) i).toNat] else [] := rfl
  generalize up (npar rs) i = q at *
  generalize parentV (npar rs) i = ks at *
  clear hD
  refine callsIn_of_wp Tryz.func148 rfl trivial ?_ rfl
  simp only [Tryz.ntmps148, List.size_toArray, List.length_cons, List.length_nil, Nat.reduceAdd, Nat.reduceSub, Array.replicate_succ, Array.replicate_zero, List.push_toArray, List.append_toArray, List.nil_append, List.cons_append]
  by_cases hq : 0 ≤ q
  · have d1 : decide (0 ≤ q) = true := by simpa using hq
    rw [if_pos hq] at hK
    obtain ⟨fn, tmps, assign, body, hy, hR2⟩ := hY (n - 1) [] q.toNat W h0 ⟨[], by simp [hK]⟩
    rw [Int.toNat_of_nonneg hq] at hy
    gi_wp2_with (refine ⟨trivial, ?_⟩; gi_at_call 147; refine (callsIn_wide.2 m1).mono ?_; clear m1; rintro e w' ⟨rfl, rfl⟩)
    refine hR2.mono ?_
    rintro e W3 ⟨hkf, ⟨rfl, hJ3, hk3⟩ | ⟨rfl, hJx3⟩⟩
    · gi_wp2
      go_end0
      exact ⟨⟨_, rfl⟩, .inl (by rw [hK]; exact hJ3)⟩
    · gi_wp2
      go_end0
      exact ⟨⟨_, rfl⟩, .inr ⟨_, ⟨[], by simp [hK]⟩, hJx3⟩⟩
  · have d1 : decide (0 ≤ q) = false := by simpa using hq
    rw [if_neg hq] at hK
    gi_wp2_with ((with_reducible refine And.intro ?_ ?_); (focus (first | exact trivial | exact fun _ h => (by cases h))); try (gi_at_call 147; refine (callsIn_wide.2 m1).mono ?_; clear m1; rintro e w' ⟨rfl, rfl⟩))
    go_end0
    exact ⟨⟨_, rfl⟩, .inl (by rw [hK]; exact h0)⟩
theorem parent_seq (Bd Bi n₀ : Nat) (a : Option Addr) (cap : Nat) (rs : List NRow) (i : Nat) (hi : i < rs.length) (h1 : Bd < n₀) (h2 : Bi < n₀) (w : World) (hn : n₀ ≤ w.heap.size) (hD : DocIn n₀ w a cap rs) (c1 : w.cell? ⟨Bd, 0, none⟩ = some (.slice a rs.length cap)) (c2 : w.cell? ⟨Bi, 0, none⟩ = some (.int .i64 (i : Int))) :
    SeqOwn Tryz.prog 148 #[.pointer (some ⟨Bd, 0, none⟩), .pointer (some ⟨Bi, 0, none⟩)] (parentV (npar rs) i) n₀ w := fun n l J Jx W hn1 hW hJ hJx hY h0 =>
  parent1_in n l Bd Bi n₀ a cap rs i hi hn1 J Jx _ hY W (hD.below (hW.mono hn)) ((hW.cell (p := ⟨Bd, 0, none⟩) (Nat.lt_of_lt_of_le h1 hn)).trans c1) ((hW.cell (p := ⟨Bi, 0, none⟩) (Nat.lt_of_lt_of_le h2 hn)).trans c2) h0
set_option maxRecDepth 100000 in
theorem none_seq (n₀ : Nat) (w : World) : SeqOwn Tryz.prog 124 #[] [] n₀ w := fun n l J Jx W hn1 hW hJ hJx hY h0 => by
  refine callsIn_of_wp Tryz.func124 rfl trivial ?_ rfl
  simp only [Tryz.ntmps124, List.size_toArray, List.length_cons, List.length_nil, Nat.reduceAdd, Nat.reduceSub, Array.replicate_succ, Array.replicate_zero, List.push_toArray, List.append_toArray, List.nil_append, List.cons_append]
  gi_wp2
  go_end0
  exact ⟨⟨_, rfl⟩, .inl h0⟩
end Go.Proofs.YtmlhipckgmbpfaaGreat
namespace Go.Proofs.YtmlhipckgmbpfaaGreat
open Go Go.RowKit Pl
set_option linter.unusedVariables false
set_option linter.unusedSimpArgs false
attribute [local go_sem] Oper.semAt_some

theorem RoundIn.inRound {F : Fence} {m : Nat} {P : Program} {l : Nat} {f : FuncId} {tmps : Array Value} {assign body : Code} {w : World} {R : Ending → World → Prop} (l0 : Nat) (h : RoundIn F m P l f tmps assign body w R) : RoundIn (F.inRound l0) m P l f tmps assign body w R := h
theorem OwnFrom.up {β : Type} {B B' : Nat} {I : β → World → Prop} (h : OwnFrom B I) (hB : B ≤ B') : OwnFrom B' I := fun s A C row hs hg hr => h s A C row hs hg fun r e => by
  obtain ⟨h1, h2⟩ := hr r e
  exact ⟨by omega, h2⟩
theorem KeepsFrom.up {B B' : Nat} {A C : World} (h : KeepsFrom B A C) (hB : B ≤ B') : KeepsFrom B' A C := ⟨h.size, fun k o hk ho hc => h.same k o (by omega) ho hc⟩

/-- two new boxes -/
theorem boxes2 (w : World) (u v : Value) (s t : TypeId) : ((w.alloc (.cells #[u] s)).alloc (.cells #[v] t)).cell? ⟨w.heap.size, 0, none⟩ = some u ∧ ((w.alloc (.cells #[u] s)).alloc (.cells #[v] t)).cell? ⟨w.heap.size + 1, 0, none⟩ = some v ∧ Below w.heap.size w ((w.alloc (.cells #[u] s)).alloc (.cells #[v] t)) ∧ ((w.alloc (.cells #[u] s)).alloc (.cells #[v] t)).heap.size = w.heap.size + 2 := by
  refine ⟨?_, ?_, ?_, by simp⟩
  · simp
  · simp
  · exact ((Below.refl _ w).alloc (Nat.le_refl _) _).alloc (by simp) _
set_option maxRecDepth 100000 in
theorem mahead {w : World} {a : Option Addr} {cap : Nat} {rs : List NRow} (hl : Doc w a cap rs) (i : Nat) (hi : i < rs.length) :
    Calls Tryz.prog 123 #[.slice a rs.length cap, .int .i64 i] w fun e w' => ∃ lb, e = .returned (.func (.func 150) #[] lb) ∧ Below w.heap.size w w' ∧ SeqOwn Tryz.prog 150 lb (aheadV (npar rs) (nel rs) i) w'.heap.size w' := by
  have H := Lib.hid hl
  clear hl
  go_enter Tryz.func123, Tryz.ntmps123
  go_wp2
  go_ret
  obtain ⟨q1, q2, q3, q4⟩ := boxes2 w (.slice a rs.length cap) (.int .i64 i) 128 3
  exact ⟨_, rfl, q3, ahead_seq _ _ _ a cap rs i hi (by rw [q4]; omega) (by rw [q4]; omega) _ (Nat.le_refl _) ((H.out.grow q3).in) q1 q2⟩
set_option maxRecDepth 100000 in
set_option maxHeartbeats 2000000 in
theorem next1_in (n l Bd Bi n₀ : Nat) (a : Option Addr) (cap : Nat) (rs : List NRow) (i : Nat) (hi : i < rs.length) (h1 : Bd < n₀) (h2 : Bi < n₀) (J Jx : List Nat → World → Prop)
    (W : World) (hn : n₀ ≤ W.heap.size) (hJ : OwnFrom W.heap.size J) (hJx : OwnFrom W.heap.size Jx)
    (hY : ∀ (m : Nat) (pre : List Nat) (x : Nat) (W1 : World), J pre W1 → pre ++ [x] <+: (aheadV (npar rs) (nel rs) i).take 1 → YieldAt Fence.wide m Tryz.prog l #[.int .i64 (x : Int)] W1 (RoundOk n₀ W.heap.size J Jx (pre ++ [x]) W1))
    (hD : DocIn n₀ W a cap rs) (c1 : W.cell? ⟨Bd, 0, none⟩ = some (.slice a rs.length cap)) (c2 : W.cell? ⟨Bi, 0, none⟩ = some (.int .i64 (i : Int))) (h0 : J [] W) :
    CallsIn Fence.wide n Tryz.prog 149 #[.func (.yield l) #[] #[], .pointer (some ⟨Bd, 0, none⟩), .pointer (some ⟨Bi, 0, none⟩)] W fun e W' => (∃ v, e = .returned v) ∧ (J ((aheadV (npar rs) (nel rs) i).take 1) W' ∨ ∃ pre, pre <+: (aheadV (npar rs) (nel rs) i).take 1 ∧ Jx pre W') := by
  refine callsIn_any (n := 4) ?_
  have z1 : Bd < W.heap.size := by omega
  have z2 : Bi < W.heap.size := by omega
  have hb : Below n₀ W (W.alloc (.cells #[.func (.yield l) #[] #[]] 133)) := (Below.refl _ _).alloc hn _
  have ma := mahead (hD.below hb).doc i hi
  generalize aheadV (npar rs) (nel rs) i = ks at *
  clear hD
  refine callsIn_of_wp_marks Tryz.func149 rfl trivial ?_ rfl
  simp only [Tryz.ntmps149, List.size_toArray, List.length_cons, List.length_nil, Nat.reduceAdd, Nat.reduceSub, Array.replicate_succ, Array.replicate_zero, List.push_toArray, List.append_toArray, List.nil_append, List.cons_append]
  gi_wp2_with (refine ⟨trivial, ?_⟩; gi_at_call 123; refine (callsIn_wide.2 ma).mono ?_; clear ma; rintro e w2 ⟨lb, rfl, hb2, hseq⟩)
  have zW : W.heap.size < w2.heap.size := by have := hb2.size; simp at this; omega
  have hbW : Below W.heap.size W w2 := ((Below.refl _ W).alloc (Nat.le_refl _) _).trans (hb2.mono (by simp))
  have cY : w2.cell? ⟨W.heap.size, 0, none⟩ = some (.func (.yield l) #[] #[]) := by
    rw [hb2.cell (p := ⟨W.heap.size, 0, none⟩) (by simp)]; simp
  have hJ2 : J [] w2 := hJ [] W w2 none h0 ⟨hbW.os, hbW.tape, hbW.output, hbW.size, fun k hk _ => hbW.block k hk⟩ (fun r e => by cases e)
  clear hb2
  refine wpIn_rangeFunc_O (by omega) (gf := 150) (lb := lb) rfl (enters Tryz.func150 (by kernel_rfl) rfl) hseq (Nat.le_refl _) (Below.refl _ _) rfl
    (fun pre W' => pre = [] ∧ J [] W' ∧ W'.cell? ⟨W.heap.size, 0, none⟩ = some (.func (.yield l) #[] #[]))
    (fun c pre W' => c = .ret ∧ ∃ x, pre = [x] ∧ [x] <+: ks.take 1 ∧ (J [x] W' ∨ Jx [x] W'))
    (fun s A C row hs hg hr => ⟨hs.1, OwnFrom.up hJ (Nat.le_of_lt zW) [] A C row hs.2.1 hg hr, hg.cell (a := ⟨W.heap.size, 0, none⟩) hs.2.2 (fun e => by have := (hr _ e.symm).1; simp only at this; omega)⟩)
    (fun c s A C row hs hg hr => by
      obtain ⟨h1, x, h2, h3, h4⟩ := hs
      exact ⟨h1, x, h2, h3, h4.imp (fun h => OwnFrom.up hJ (Nat.le_of_lt zW) [x] A C row h hg hr) (fun h => OwnFrom.up hJx (Nat.le_of_lt zW) [x] A C row h hg hr)⟩)
    ⟨rfl, hJ2, cY⟩
    (fun x => { tmps := #[.func (.yield l) #[] #[], .pointer (some ⟨Bd, 0, none⟩), .pointer (some ⟨Bi, 0, none⟩), .pointer (some ⟨W.heap.size, 0, none⟩), .int .i64 (x : Int), .slice a rs.length cap, .int .i64 i, .func (.func 150) #[] lb, .int .i64 (x : Int), undef, undef, undef], defers := [] }) ?assign ?body ?done ?stop
  case assign =>
    intro l' x W3 K hK
    gi_wp2
    exact hK
  case body =>
    rintro l' pre x W3 hl' _ ⟨rfl, hJ3, cY3⟩ hpre
    have hp : [] ++ [x] <+: ks.take 1 := by
      obtain ⟨t, ht⟩ := hpre
      rw [← ht]
      exact ⟨[], by simp⟩
    obtain ⟨fn, tmps, assign, body, hy, hR⟩ := hY (4 - 1 - 1 - 1) [] x W3 hJ3 hp
    have hR' := RoundIn.inRound l' hR
    gi_wp2
    refine hR'.mono ?_
    rintro e W4 ⟨hkf, h⟩
    have hk2 := KeepsFrom.up hkf (Nat.le_of_lt zW)
    rcases h with ⟨rfl, hJ4, _⟩ | ⟨rfl, hJ4⟩
    · gi_wp2
      exact ⟨hk2, rfl, x, rfl, hp, .inl hJ4⟩
    · gi_wp2
      exact ⟨hk2, rfl, x, rfl, hp, .inr hJ4⟩
  case done =>
    rintro D W3 hD ⟨rfl, hJ3, _⟩ hK
    gi_wp2
    refine ⟨by simp, .inl ⟨_, _, rfl, run_takeDeferred hK, ?_⟩⟩
    exact ⟨_, results_none rfl _ _ _, ⟨_, rfl⟩, .inl (hJ.putObj _ hJ3 (Nat.le_trans (Nat.le_of_lt zW) hD) hK rfl)⟩
  case stop =>
    rintro D c pre W3 hD hpre ⟨rfl, x, rfl, hp, h⟩ hK
    gi_wp2
    refine ⟨by simp, .inl ⟨_, _, rfl, run_takeDeferred hK, ?_⟩⟩
    have hz : W.heap.size ≤ D := Nat.le_trans (Nat.le_of_lt zW) hD
    refine ⟨_, results_none rfl _ _ _, ⟨_, rfl⟩, ?_⟩
    rcases h with h | h
    · left
      have hk : ks.take 1 = [x] := by
        obtain ⟨t, ht⟩ := hp
        have : (ks.take 1).length ≤ 1 := List.length_take_le _ _
        rw [← ht] at this ⊢
        cases t with
        | nil => rfl
        | cons y t => simp at this
      rw [hk]
      exact hJ.putObj _ h hz hK rfl
    · exact .inr ⟨[x], hp, hJx.putObj _ h hz hK rfl⟩
theorem next_seq (Bd Bi n₀ : Nat) (a : Option Addr) (cap : Nat) (rs : List NRow) (i : Nat) (hi : i < rs.length) (h1 : Bd < n₀) (h2 : Bi < n₀) (w : World) (hn : n₀ ≤ w.heap.size) (hD : DocIn n₀ w a cap rs) (c1 : w.cell? ⟨Bd, 0, none⟩ = some (.slice a rs.length cap)) (c2 : w.cell? ⟨Bi, 0, none⟩ = some (.int .i64 (i : Int))) :
    SeqOwn Tryz.prog 149 #[.pointer (some ⟨Bd, 0, none⟩), .pointer (some ⟨Bi, 0, none⟩)] ((aheadV (npar rs) (nel rs) i).take 1) n₀ w := fun n l J Jx W hn1 hW hJ hJx hY h0 =>
  next1_in n l Bd Bi n₀ a cap rs i hi h1 h2 J Jx W (Nat.le_trans hn hW.size) hJ hJx hY (hD.below (hW.mono hn)) ((hW.cell (p := ⟨Bd, 0, none⟩) (Nat.lt_of_lt_of_le h1 hn)).trans c1) ((hW.cell (p := ⟨Bi, 0, none⟩) (Nat.lt_of_lt_of_le h2 hn)).trans c2) h0
set_option maxRecDepth 100000 in
theorem mups {w : World} {a : Option Addr} {cap : Nat} {rs : List NRow} (hl : Doc w a cap rs) (i : Nat) (hi : i < rs.length) :
    Calls Tryz.prog 120 #[.slice a rs.length cap, .int .i64 i] w fun e w' => ∃ lb, e = .returned (.func (.func 146) #[] lb) ∧ Below w.heap.size w w' ∧ SeqOwn Tryz.prog 146 lb (ups (npar rs) i) w'.heap.size w' := by
  have H := Lib.hid hl
  clear hl
  go_enter Tryz.func120, Tryz.ntmps120
  go_wp2
  go_ret
  obtain ⟨q1, q2, q3, q4⟩ := boxes2 w (.slice a rs.length cap) (.int .i64 i) 128 3
  exact ⟨_, rfl, q3, ups_seq _ _ _ a cap rs i hi (by rw [q4]; omega) (by rw [q4]; omega) _ (Nat.le_refl _) ((H.out.grow q3).in) q1 q2⟩
set_option maxRecDepth 100000 in
theorem mparent {w : World} {a : Option Addr} {cap : Nat} {rs : List NRow} (hl : Doc w a cap rs) (i : Nat) (hi : i < rs.length) :
    Calls Tryz.prog 121 #[.slice a rs.length cap, .int .i64 i] w fun e w' => ∃ lb, e = .returned (.func (.func 148) #[] lb) ∧ Below w.heap.size w w' ∧ SeqOwn Tryz.prog 148 lb (parentV (npar rs) i) w'.heap.size w' := by
  have H := Lib.hid hl
  clear hl
  go_enter Tryz.func121, Tryz.ntmps121
  go_wp2
  go_ret
  obtain ⟨q1, q2, q3, q4⟩ := boxes2 w (.slice a rs.length cap) (.int .i64 i) 128 3
  exact ⟨_, rfl, q3, parent_seq _ _ _ a cap rs i hi (by rw [q4]; omega) (by rw [q4]; omega) _ (Nat.le_refl _) ((H.out.grow q3).in) q1 q2⟩
set_option maxRecDepth 100000 in
theorem mnext {w : World} {a : Option Addr} {cap : Nat} {rs : List NRow} (hl : Doc w a cap rs) (i : Nat) (hi : i < rs.length) :
    Calls Tryz.prog 122 #[.slice a rs.length cap, .int .i64 i] w fun e w' => ∃ lb, e = .returned (.func (.func 149) #[] lb) ∧ Below w.heap.size w w' ∧ SeqOwn Tryz.prog 149 lb ((aheadV (npar rs) (nel rs) i).take 1) w'.heap.size w' := by
  have H := Lib.hid hl
  clear hl
  go_enter Tryz.func122, Tryz.ntmps122
  go_wp2
  go_ret
  obtain ⟨q1, q2, q3, q4⟩ := boxes2 w (.slice a rs.length cap) (.int .i64 i) 128 3
  exact ⟨_, rfl, q3, next_seq _ _ _ a cap rs i hi (by rw [q4]; omega) (by rw [q4]; omega) _ (Nat.le_refl _) ((H.out.grow q3).in) q1 q2⟩
set_option maxRecDepth 100000 in
theorem maround {w : World} {a : Option Addr} {cap : Nat} {rs : List NRow} (hl : Doc w a cap rs) (i : Nat) (hi : i < rs.length) (c : Int) :
    Calls Tryz.prog 94 #[.slice a rs.length cap, .int .i64 i, .int .i64 c] w fun e w' => ∃ g lb, e = .returned (.func (.func g) #[] lb) ∧ Below w.heap.size w w' ∧ (∀ args w, (callFunc g args).run Tryz.prog w = .ok (.enter g args) w) ∧ SeqOwn Tryz.prog g lb (aroundV (npar rs) (nel rs) i c) w'.heap.size w' := by
  have m1 := mups hl i hi
  have m2 := mparent hl i hi
  have m3 := mnext hl i hi
  have m4 := mahead hl i hi
  clear hl
  unfold aroundV
  by_cases h1 : c = 1
  · subst h1
    simp only [if_true]
    go_enter Tryz.func94, Tryz.ntmps94
    go_wp2_with (go_at_call 120; refine m1.mono ?_; rintro e w1 ⟨lb, rfl, hb1, hs⟩)
    go_ret
    exact ⟨_, _, rfl, hb1, enters Tryz.func146 (by kernel_rfl) rfl, hs⟩
  · rw [if_neg h1]
    have d1 : (c == 1) = false := by simpa using h1
    by_cases h2 : c = 2
    · subst h2
      simp only [if_true]
      go_enter Tryz.func94, Tryz.ntmps94
      go_wp2_with (go_at_call 121; refine m2.mono ?_; rintro e w1 ⟨lb, rfl, hb1, hs⟩)
      go_ret
      exact ⟨_, _, rfl, hb1, enters Tryz.func148 (by kernel_rfl) rfl, hs⟩
    · rw [if_neg h2]
      have d2 : (c == 2) = false := by simpa using h2
      by_cases h3 : c = 3
      · subst h3
        simp only [if_true]
        go_enter Tryz.func94, Tryz.ntmps94
        go_wp2_with (go_at_call 122; refine m3.mono ?_; rintro e w1 ⟨lb, rfl, hb1, hs⟩)
        go_ret
        exact ⟨_, _, rfl, hb1, enters Tryz.func149 (by kernel_rfl) rfl, hs⟩
      · rw [if_neg h3]
        have d3 : (c == 3) = false := by simpa using h3
        by_cases h4 : c = 4
        · subst h4
          simp only [if_true]
          go_enter Tryz.func94, Tryz.ntmps94
          go_wp2_with (go_at_call 123; refine m4.mono ?_; rintro e w1 ⟨lb, rfl, hb1, hs⟩)
          go_ret
          exact ⟨_, _, rfl, hb1, enters Tryz.func150 (by kernel_rfl) rfl, hs⟩
        · rw [if_neg h4]
          have d4 : (c == 4) = false := by simpa using h4
          clear m1 m2 m3 m4
          go_enter Tryz.func94, Tryz.ntmps94
          go_wp2
          go_ret
          exact ⟨_, _, rfl, Below.refl _ _, enters Tryz.func124 (by kernel_rfl) rfl, none_seq _ _⟩
end Go.Proofs.YtmlhipckgmbpfaaGreat
