/-
  Queries: where a node's nodes end; whether a query may be: the program's.
-/
import Derived.Test.YtfcijfngcplodaaQu1
namespace Go.Proofs.Ytfcijfngcplodaa
open Go Go.RowKit Pl Sy
set_option linter.unusedVariables false
set_option linter.unusedSimpArgs false

/-- how many a node has -/
def hasI (k c : Int) : Int := if k = 1 ∨ k = 2 then (if c < 0 then 0 else c) else if k = 3 then 1 else if k = 4 then 0 else -1
theorem Sy.has_q (k c f lo ln ld ho hn hd : Int) : CallTo Try.prog 57 [qa k c f lo ln ld ho hn hd] M0 fun v _ => v = int (hasI k c) :=
  toV [] [] 400 30 (.br (.auto 0 .done) (.br .done (.br .done (.br .done .done)))) (.fork (eqI k (1 : Int)) (.leaf (int (if (c < (0 : Int)) then (0 : Int) else c))) (.fork (eqI k (2 : Int)) (.leaf (int (if (c < (0 : Int)) then (0 : Int) else c))) (.fork (eqI k (3 : Int)) (.leaf (int (1 : Int))) (.fork (eqI k (4 : Int)) (.leaf (int (0 : Int))) (.leaf (int (-1 : Int))))))) (by kernel_rfl) (by
    unfold hasI
    simp only [Tr.Ok, eqI_t, eqI_f, leI_t, leI_f, eqI_d, leI_d, boo_iff, int_iff, decide_eq_true_eq, decide_eq_false_iff_not, Bool.not_eq_true', Bool.not_eq_false', Bool.false_eq_true, Bool.and_eq_true, Bool.or_eq_true, iff_false, false_iff, iff_true, true_iff]
    repeat' (first | (intro _) | apply And.intro)
    all_goals (first | omega | grind))
noncomputable abbrev Sy.cHas : Con Try.prog := ints9 57 [10] (fun k c f lo ln ld ho hn hd => int (hasI k c)) (fun _ _ _ _ _ _ _ _ _ => trivial) Sy.has_q

abbrev Sy.qview (xs : List QNodeV) : AV := viewOf QNodeV.cells QNodeV.zero 9 xs
abbrev Sy.query (s : ByteArray) (xs : List QNodeV) : AV := .agg [.lit (.string s), qview xs]
/-sy span_p
fun (s : ByteArray) (xs : List QNodeV) (i : Int) (d : D) => probeV SyTool.probe [cHas] 400 30 31 [Sy.query s xs, int i] M0 d
-/
namespace Sy
abbrev spanM (s : ByteArray) (xs : List QNodeV) : Mem := (@Mem.mk 1 0 [(some (@Blk.mk [(@AV.lit (@Value.string s)), (@qview xs)] 31 none))])
abbrev spanF (s : ByteArray) (xs : List QNodeV) (i left : Int) : Fr := [some ((@query s xs)), some ((int i)), some ((@AV.ptr 0 0)), none, some ((int (0 : Int))), some (int left), none, some ((boo false)), none, none, none, none, none, none, none, none, none, none, none, none, none, none, none, none, none, none, none, none, none, none, none, none, none, none, none, none, none, none, none, none]
/-- behind the loop: it found an end; it found none -/
abbrev spanE (s : ByteArray) (xs : List QNodeV) (i : Int) : Fr := [some ((@query s xs)), some ((int i)), some ((@AV.ptr 0 0)), none, some ((int (0 : Int))), none, none, some ((boo false)), none, none, none, none, none, none, none, none, none, none, none, none, none, none, none, none, none, none, none, none, none, none, none, none, none, none, none, none, none, none, none, none]
abbrev spanN (s : ByteArray) (xs : List QNodeV) : Fr := [some ((@query s xs)), none, some ((@AV.ptr 0 0)), none, some ((int (0 : Int))), none, none, some ((boo false)), none, none, none, none, none, none, none, none, none, none, none, none, none, none, none, none, none, none, none, none, none, none, none, none, none, none, none, none, none, none, none, none]
end Sy
/-sy span_r
fun (s : ByteArray) (xs : List QNodeV) (i left : Int) (d : D) => reckL [cHas] [] 400 30 31 5 [true, true, true, false, true, true, false, true, false, false, false, false, false, false, false, false, false, false, false, false, false, false, false, false, false, false, false, false, false, false, false, false, false, false, false, false, false, false, false, false] (spanF s xs i left) (spanM s xs) d
-/
/-- how many nodes one stands for, and those that are left -/
def spanL (N : Int) : List QNodeV → Int → Option Nat
  | [], left => if left ≤ 0 then some 0 else none
  | n :: l, left => if left ≤ 0 then some 0 else if hasI n.kind n.count < 0 then none else (spanL N l (left + (if N < hasI n.kind n.count then N else hasI n.kind n.count) - 1)).map (· + 1)
theorem hasI_le (k c : Int) : -1 ≤ hasI k c := by unfold hasI; repeat' split <;> omega

theorem getD_at {α : Type} (pre l : List α) (x z : α) (i : Int) (hi : i = pre.length) : (pre ++ x :: l).getD i.toNat z = x := by
  subst hi
  simp

theorem Sy.span_loop (s : ByteArray) (xs : List QNodeV) (hx : xs.length ≤ 1000) : ∀ (l pre : List QNodeV) (i left : Int), xs = pre ++ l → i = pre.length → 0 ≤ left → left ≤ 1 + 1000 * i →
    LoopTo Try.prog (theBody Try.prog 31 5) (l.length + 1) (spanF s xs i left) (spanM s xs) fun ex F M => M = spanM s xs ∧ match spanL xs.length l left with
      | some k => ex = .exit 0 ∧ ∃ lf, F = spanF s xs (i + k) lf
      | none => ex = .ret ∧ ∃ j lf, F = spanF s xs j lf := by
  intro l
  induction l with
  | nil =>
    intro pre i left hxs hi h0 h1
    have hl : xs.length = pre.length := by rw [hxs]; simp
    refine roundL [cHas] [] 400 30 31 5 Try.func31 rfl (by kernel_rfl) [true, true, true, false, true, true, false, true, false, false, false, false, false, false, false, false, false, false, false, false, false, false, false, false, false, false, false, false, false, false, false, false, false, false, false, false, false, false, false, false] (.br (.br (.auto 2 (.yes (.auto 3 (.br .done (.yes .done))))) (.auto 7 .done)) .done) (.fork (!(leI left (0 : Int))) (.fork (!(leI (((xs).length : Nat) : Int) i)) (.need (@inR i (xs).length) (.fork (!(leI (0 : Int) (@hasI ((xs.getD (i).toNat QNodeV.zero)).kind ((xs.getD (i).toNat QNodeV.zero)).count))) (.leaf (Ex.ret, ([(some (@query s xs)), (some (int i)), (some (@AV.ptr 0 0)), none, (some (int (0 : Int))), (some (int left)), none, (some (boo false)), none, none, none, none, none, none, none, none, none, none, none, none, none, none, none, none, none, none, none, none, none, none, none, none, none, none, none, none, none, none, none, none], (@Mem.mk 1 0 [(some (@Blk.mk [(@AV.lit (@Value.string s)), (@qview xs)] 31 none))])))) (.need (@inR i (xs).length) (.leaf (Ex.norm, ([(some (@query s xs)), (some (int (w64 (i + (1 : Int))))), (some (@AV.ptr 0 0)), none, (some (int (0 : Int))), (some (int (w64 (left + (w64 ((if ((((xs).length : Nat) : Int) < (@hasI ((xs.getD (i).toNat QNodeV.zero)).kind ((xs.getD (i).toNat QNodeV.zero)).count)) then (((xs).length : Nat) : Int) else (@hasI ((xs.getD (i).toNat QNodeV.zero)).kind ((xs.getD (i).toNat QNodeV.zero)).count)) - (1 : Int))))))), none, (some (boo false)), none, none, none, none, none, none, none, none, none, none, none, none, none, none, none, none, none, none, none, none, none, none, none, none, none, none, none, none, none, none, none, none], (@Mem.mk 1 0 [(some (@Blk.mk [(@AV.lit (@Value.string s)), (@qview xs)] 31 none))]))))))) (.leaf (Ex.ret, ([(some (@query s xs)), (some (int i)), (some (@AV.ptr 0 0)), none, (some (int (0 : Int))), (some (int left)), none, (some (boo false)), none, none, none, none, none, none, none, none, none, none, none, none, none, none, none, none, none, none, none, none, none, none, none, none, none, none, none, none, none, none, none, none], (@Mem.mk 1 0 [(some (@Blk.mk [(@AV.lit (@Value.string s)), (@qview xs)] 31 none))]))))) (.leaf ((@Ex.exit 0), ([(some (@query s xs)), (some (int i)), (some (@AV.ptr 0 0)), none, (some (int (0 : Int))), (some (int left)), none, (some (boo false)), none, none, none, none, none, none, none, none, none, none, none, none, none, none, none, none, none, none, none, none, none, none, none, none, none, none, none, none, none, none, none, none], (@Mem.mk 1 0 [(some (@Blk.mk [(@AV.lit (@Value.string s)), (@qview xs)] 31 none))]))))) (by kernel_rfl) ?_
    simp only [Tr.Ok, spanL, eqI_t, eqI_f, leI_t, leI_f, Bool.not_eq_true', Bool.not_eq_false']
    refine ⟨fun h => ⟨fun h' => ?_, fun h' => ?_⟩, fun h => ?_⟩
    · omega
    · rw [if_neg (by omega)]
      refine ⟨?_, ?_, i, left, ?_⟩ <;> first | rfl | trivial
    · rw [if_pos (by omega)]
      refine ⟨?_, ?_, left, ?_⟩ <;> first | rfl | trivial | simp
  | cons n l ih =>
    intro pre i left hxs hi h0 h1
    have hl : xs.length = pre.length + l.length + 1 := by rw [hxs]; simp; omega
    have hg : xs.getD i.toNat QNodeV.zero = n := by rw [hxs]; exact getD_at _ _ _ _ _ hi
    refine roundL [cHas] [] 400 30 31 5 Try.func31 rfl (by kernel_rfl) [true, true, true, false, true, true, false, true, false, false, false, false, false, false, false, false, false, false, false, false, false, false, false, false, false, false, false, false, false, false, false, false, false, false, false, false, false, false, false, false] (.br (.br (.auto 2 (.yes (.auto 3 (.br .done (.yes .done))))) (.auto 7 .done)) .done) (.fork (!(leI left (0 : Int))) (.fork (!(leI (((xs).length : Nat) : Int) i)) (.need (@inR i (xs).length) (.fork (!(leI (0 : Int) (@hasI ((xs.getD (i).toNat QNodeV.zero)).kind ((xs.getD (i).toNat QNodeV.zero)).count))) (.leaf (Ex.ret, ([(some (@query s xs)), (some (int i)), (some (@AV.ptr 0 0)), none, (some (int (0 : Int))), (some (int left)), none, (some (boo false)), none, none, none, none, none, none, none, none, none, none, none, none, none, none, none, none, none, none, none, none, none, none, none, none, none, none, none, none, none, none, none, none], (@Mem.mk 1 0 [(some (@Blk.mk [(@AV.lit (@Value.string s)), (@qview xs)] 31 none))])))) (.need (@inR i (xs).length) (.leaf (Ex.norm, ([(some (@query s xs)), (some (int (w64 (i + (1 : Int))))), (some (@AV.ptr 0 0)), none, (some (int (0 : Int))), (some (int (w64 (left + (w64 ((if ((((xs).length : Nat) : Int) < (@hasI ((xs.getD (i).toNat QNodeV.zero)).kind ((xs.getD (i).toNat QNodeV.zero)).count)) then (((xs).length : Nat) : Int) else (@hasI ((xs.getD (i).toNat QNodeV.zero)).kind ((xs.getD (i).toNat QNodeV.zero)).count)) - (1 : Int))))))), none, (some (boo false)), none, none, none, none, none, none, none, none, none, none, none, none, none, none, none, none, none, none, none, none, none, none, none, none, none, none, none, none, none, none, none, none], (@Mem.mk 1 0 [(some (@Blk.mk [(@AV.lit (@Value.string s)), (@qview xs)] 31 none))]))))))) (.leaf (Ex.ret, ([(some (@query s xs)), (some (int i)), (some (@AV.ptr 0 0)), none, (some (int (0 : Int))), (some (int left)), none, (some (boo false)), none, none, none, none, none, none, none, none, none, none, none, none, none, none, none, none, none, none, none, none, none, none, none, none, none, none, none, none, none, none, none, none], (@Mem.mk 1 0 [(some (@Blk.mk [(@AV.lit (@Value.string s)), (@qview xs)] 31 none))]))))) (.leaf ((@Ex.exit 0), ([(some (@query s xs)), (some (int i)), (some (@AV.ptr 0 0)), none, (some (int (0 : Int))), (some (int left)), none, (some (boo false)), none, none, none, none, none, none, none, none, none, none, none, none, none, none, none, none, none, none, none, none, none, none, none, none, none, none, none, none, none, none, none, none], (@Mem.mk 1 0 [(some (@Blk.mk [(@AV.lit (@Value.string s)), (@qview xs)] 31 none))]))))) (by kernel_rfl) ?_
    have hr : inR i xs.length = true := by rw [inR_t]; omega
    have hh := hasI_le n.kind n.count
    simp only [Tr.Ok, hg, hr, spanL, eqI_t, eqI_f, leI_t, leI_f, Bool.not_eq_true', Bool.not_eq_false', true_and]
    refine ⟨fun h => ⟨fun h' => ⟨fun h2 => ?_, fun h2 => ?_⟩, fun h' => ?_⟩, fun h => ?_⟩
    · rw [if_neg (show ¬ left ≤ 0 by omega), if_pos (show hasI n.kind n.count < 0 by omega)]
      exact ⟨i, left, rfl⟩
    · rw [if_neg (show ¬ left ≤ 0 by omega), if_neg (show ¬ hasI n.kind n.count < 0 by omega)]
      generalize hm : (if (xs.length : Int) < hasI n.kind n.count then (xs.length : Int) else hasI n.kind n.count) = m at *
      have hm' : 0 ≤ m ∧ m ≤ 1000 := by subst hm; split <;> omega
      rw [w64_in (r := i + 1) (by omega), w64_in (r := m - 1) (by omega), w64_in (r := left + (m - 1)) (by omega)]
      have := ih (pre ++ [n]) (i + 1) (left + (m - 1)) (by rw [hxs]; simp) (by simp; omega) (by omega) (by omega)
      refine this.mono fun ex F M hg => ?_
      rw [show left + m - 1 = left + (m - 1) by omega]
      refine ⟨hg.1, ?_⟩
      have hg2 := hg.2
      cases hs : spanL xs.length l (left + (m - 1)) with
      | none => rw [hs] at hg2; exact hg2
      | some k =>
        rw [hs] at hg2
        obtain ⟨q1, lf, q2⟩ := hg2
        exact ⟨q1, lf, by rw [q2, show i + 1 + (k : Int) = i + ((k + 1 : Nat) : Int) by omega]⟩
    · omega
    · rw [if_pos (show left ≤ 0 by omega)]
      exact ⟨left, by simp⟩

theorem Sy.span_loop2 (s : ByteArray) (xs : List QNodeV) (i left : Int) (h3 : xs.length < i) (h4 : 1 ≤ left) : LoopTo Try.prog (theBody Try.prog 31 5) (0 + 1) (spanF s xs i left) (spanM s xs) fun ex F M => M = spanM s xs ∧ ex = .ret ∧ F = spanF s xs i left := by
  refine roundL [cHas] [] 400 30 31 5 Try.func31 rfl (by kernel_rfl) [true, true, true, false, true, true, false, true, false, false, false, false, false, false, false, false, false, false, false, false, false, false, false, false, false, false, false, false, false, false, false, false, false, false, false, false, false, false, false, false] (.br (.br (.auto 2 (.yes (.auto 3 (.br .done (.yes .done))))) (.auto 7 .done)) .done) (.fork (!(leI left (0 : Int))) (.fork (!(leI (((xs).length : Nat) : Int) i)) (.need (@inR i (xs).length) (.fork (!(leI (0 : Int) (@hasI ((xs.getD (i).toNat QNodeV.zero)).kind ((xs.getD (i).toNat QNodeV.zero)).count))) (.leaf (Ex.ret, ([(some (@query s xs)), (some (int i)), (some (@AV.ptr 0 0)), none, (some (int (0 : Int))), (some (int left)), none, (some (boo false)), none, none, none, none, none, none, none, none, none, none, none, none, none, none, none, none, none, none, none, none, none, none, none, none, none, none, none, none, none, none, none, none], (@Mem.mk 1 0 [(some (@Blk.mk [(@AV.lit (@Value.string s)), (@qview xs)] 31 none))])))) (.need (@inR i (xs).length) (.leaf (Ex.norm, ([(some (@query s xs)), (some (int (w64 (i + (1 : Int))))), (some (@AV.ptr 0 0)), none, (some (int (0 : Int))), (some (int (w64 (left + (w64 ((if ((((xs).length : Nat) : Int) < (@hasI ((xs.getD (i).toNat QNodeV.zero)).kind ((xs.getD (i).toNat QNodeV.zero)).count)) then (((xs).length : Nat) : Int) else (@hasI ((xs.getD (i).toNat QNodeV.zero)).kind ((xs.getD (i).toNat QNodeV.zero)).count)) - (1 : Int))))))), none, (some (boo false)), none, none, none, none, none, none, none, none, none, none, none, none, none, none, none, none, none, none, none, none, none, none, none, none, none, none, none, none, none, none, none, none], (@Mem.mk 1 0 [(some (@Blk.mk [(@AV.lit (@Value.string s)), (@qview xs)] 31 none))]))))))) (.leaf (Ex.ret, ([(some (@query s xs)), (some (int i)), (some (@AV.ptr 0 0)), none, (some (int (0 : Int))), (some (int left)), none, (some (boo false)), none, none, none, none, none, none, none, none, none, none, none, none, none, none, none, none, none, none, none, none, none, none, none, none, none, none, none, none, none, none, none, none], (@Mem.mk 1 0 [(some (@Blk.mk [(@AV.lit (@Value.string s)), (@qview xs)] 31 none))]))))) (.leaf ((@Ex.exit 0), ([(some (@query s xs)), (some (int i)), (some (@AV.ptr 0 0)), none, (some (int (0 : Int))), (some (int left)), none, (some (boo false)), none, none, none, none, none, none, none, none, none, none, none, none, none, none, none, none, none, none, none, none, none, none, none, none, none, none, none, none, none, none, none, none], (@Mem.mk 1 0 [(some (@Blk.mk [(@AV.lit (@Value.string s)), (@qview xs)] 31 none))]))))) (by kernel_rfl) ?_
  simp only [Tr.Ok, eqI_t, eqI_f, leI_t, leI_f, Bool.not_eq_true', Bool.not_eq_false']
  refine ⟨fun h => ⟨fun h' => ?_, fun h' => ?_⟩, fun h => ?_⟩
  · omega
  · refine ⟨?_, ?_, ?_⟩ <;> first | rfl | trivial
  · omega
noncomputable abbrev Sy.spanRes (s : ByteArray) (xs : List QNodeV) (x : Int × Int) : Tr (Ex × Fr × Mem) :=
  .fork (isSo ((spanL xs.length (xs.drop x.1.toNat) x.2).isSome = true)) (.leaf (.exit 0, spanE s xs (x.1 + ((spanL xs.length (xs.drop x.1.toNat) x.2).getD 0 : Nat)), spanM s xs)) (.leaf (.ret, spanN s xs, spanM s xs))
noncomputable abbrev Sy.spanLp (s : ByteArray) (xs : List QNodeV) : Lp Try.prog where
  f := 31
  key := 5
  S := formS (fun F M => match slotI F 1, slotI F 5 with | some i, some l => some (i, l) | _, _ => none) (fun x => spanF s xs x.1 x.2) (fun _ => spanM s xs) (fun x => xs.length ≤ 1000 ∧ 0 ≤ x.1 ∧ ((x.1 ≤ xs.length ∧ 0 ≤ x.2 ∧ x.2 ≤ 1 + 1000 * x.1) ∨ (xs.length < x.1 ∧ 1 ≤ x.2))) (spanRes s xs) [true, true, true, false, true, true, false, true, false, false, false, false, false, false, false, false, false, false, false, false, false, false, false, false, false, false, false, false, false, false, false, false, false, false, false, false, false, false, false, false]
  one := by kernel_rfl
  ok := formS_ok fun x ⟨h1, h2, h3⟩ => by
    rcases h3 with ⟨h3, h4, h5⟩ | ⟨h3, h4⟩
    · refine ⟨(xs.drop x.1.toNat).length + 1, ?_⟩
      have h6 := Sy.span_loop s xs h1 (xs.drop x.1.toNat) (xs.take x.1.toNat) x.1 x.2 (by simp) (by simp; omega) h4 h5
      cases hs : spanL xs.length (xs.drop x.1.toNat) x.2 with
      | none =>
        refine (h6.out [true, false, true, false, true, false, false, true, false, false, false, false, false, false, false, false, false, false, false, false, false, false, false, false, false, false, false, false, false, false, false, false, false, false, false, false, false, false, false, false]).mono fun ex F M hg => .inr ⟨by simp [hs, isSo], ?_⟩
        obtain ⟨F0, ⟨hM, hg⟩, rfl⟩ := hg
        rw [hs] at hg
        obtain ⟨rfl, j, lf, rfl⟩ := hg
        rw [hM]; rfl
      | some k =>
        refine (h6.out [true, true, true, false, true, false, false, true, false, false, false, false, false, false, false, false, false, false, false, false, false, false, false, false, false, false, false, false, false, false, false, false, false, false, false, false, false, false, false, false]).mono fun ex F M hg => .inl ⟨by simp [hs, isSo], ?_⟩
        obtain ⟨F0, ⟨hM, hg⟩, rfl⟩ := hg
        rw [hs] at hg
        obtain ⟨rfl, lf, rfl⟩ := hg
        rw [hM, hs]; rfl
    · have h6 := Sy.span_loop2 s xs x.1 x.2 h3 h4
      have hn : spanL xs.length (xs.drop x.1.toNat) x.2 = none := by
        rw [List.drop_eq_nil_of_le (by omega)]
        unfold spanL
        rw [if_neg (by omega)]
      refine ⟨0 + 1, (h6.out [true, false, true, false, true, false, false, true, false, false, false, false, false, false, false, false, false, false, false, false, false, false, false, false, false, false, false, false, false, false, false, false, false, false, false, false, false, false, false, false]).mono fun ex F M hg => .inr ⟨by simp [hn, isSo], ?_⟩⟩
      obtain ⟨F0, ⟨hM, rfl, rfl⟩, rfl⟩ := hg
      rw [hM]; rfl
/-sy span_q
fun (s : ByteArray) (xs : List QNodeV) (i : Int) (d : D) => reckV [cHas] [spanLp s xs] 400 30 31 [Sy.query s xs, int i] M0 d
-/
/-- where a node's nodes end; 0: nowhere -/
def spanI (xs : List QNodeV) (i : Int) : Int := if i < 0 then 0 else match spanL xs.length (xs.drop i.toNat) 1 with
  | some k => i + k
  | none => 0
theorem Sy.span_q (s : ByteArray) (xs : List QNodeV) (hx : xs.length ≤ 1000) (i : Int) : CallTo Try.prog 31 [Sy.query s xs, int i] M0 fun v _ => v = int (spanI xs i) :=
  toV [cHas] [spanLp s xs] 400 30 (.br .done (.br .done .done)) (.fork (!(leI (0 : Int) i)) (.leaf (int (0 : Int))) (.need (@isSo (@And (((some (@query s xs)) :: (some (int i)) :: [(some (@AV.ptr 0 0)), none, (some (int (0 : Int))), (some (int (1 : Int))), none, (some (boo false)), none, none, none, none, none, none, none, none, none, none, none, none, none, none, none, none, none, none, none, none, none, none, none, none, none, none, none, none, none, none, none, none]) = [(some (@query s xs)), (some (int i)), (some (@AV.ptr 0 0)), none, (some (int (0 : Int))), (some (int (Int.ofNat 1))), none, (some (boo false)), none, none, none, none, none, none, none, none, none, none, none, none, none, none, none, none, none, none, none, none, none, none, none, none, none, none, none, none, none, none, none, none]) ((@Mem.mk 1 0 [(some (@Blk.mk [(@AV.lit (@Value.string s)), (@qview xs)] 31 none))]) = (@Mem.mk 1 0 [(some (@Blk.mk [(@AV.lit (@Value.string s)), (@qview xs)] 31 none))])))) (.need (@isSo (@And ((xs).length ≤ 1000) (@And ((0 : Int) ≤ i) (@Or (@And (i ≤ (((xs).length : Nat) : Int)) (@And ((0 : Int) ≤ (Int.ofNat 1)) ((Int.ofNat 1) ≤ ((1 : Int) + ((1000 : Int) * i))))) (@And ((((xs).length : Nat) : Int) < i) ((1 : Int) ≤ (Int.ofNat 1))))))) (.fork (@isSo ((@Option.isSome _ (@spanL (((xs).length : Nat) : Int) (@List.drop _ (i).toNat xs) (Int.ofNat 1))) = true)) (.leaf (int (i + (((@Option.getD _ (@spanL (((xs).length : Nat) : Int) (@List.drop _ (i).toNat xs) (Int.ofNat 1)) 0) : Nat) : Int)))) (.leaf (int (0 : Int))))))) (by kernel_rfl) (by
    simp only [Tr.Ok, isSo_t, isSo_f, leI_t, leI_f, Bool.not_eq_true', Bool.not_eq_false', int_iff, spanI]
    refine ⟨fun h => ?_, fun h => ⟨by first | exact ⟨rfl, rfl⟩ | exact ⟨trivial, trivial⟩ | trivial, ⟨hx, h, ?_⟩, fun h2 => ?_, fun h2 => ?_⟩⟩
    · rw [if_pos (by omega)]
    · show (i ≤ xs.length ∧ (0 : Int) ≤ 1 ∧ (1 : Int) ≤ 1 + 1000 * i) ∨ ((xs.length : Int) < i ∧ (1 : Int) ≤ 1)
      omega
    · rw [if_neg (by omega)]
      cases hs : spanL xs.length (xs.drop i.toNat) 1 with
      | none => rw [show (Int.ofNat 1) = (1 : Int) from rfl, hs] at h2; cases h2
      | some k => rfl
    · rw [if_neg (by omega)]
      cases hs : spanL xs.length (xs.drop i.toNat) 1 with
      | none => rfl
      | some k => rw [show (Int.ofNat 1) = (1 : Int) from rfl, hs] at h2; exact absurd rfl h2)
end Go.Proofs.Ytfcijfngcplodaa
