/-
  Layer 14's law TruthMore.
-/
import Derived.Test.YtjljlcflmcjapaaTruthW
namespace Go.Proofs.Ytjljlcflmcjapaa
open Go Go.RowKit Pl Sy
set_option linter.unusedVariables false
set_option linter.unusedSimpArgs false

/-sy more_t
fun (s : ByteArray) (xs : List QNodeV) (w h : Int) (d : D) => reckV [cKnown14, cEvalP s xs, cRightR s xs] [] 400 30 6 [Sy.query s xs, int w, int h] M0 d
-/
theorem rel2_A (a b c d : Int) (h : a = b ∨ a = 2) (h' : c = d ∨ c = 2) : tA a c = tA b d ∨ tA a c = 2 := by
  unfold tA
  repeat' split
  all_goals first | omega | (left; rfl) | (right; rfl)
theorem rel2_O (a b c d : Int) (h : a = b ∨ a = 2) (h' : c = d ∨ c = 2) : tO a c = tO b d ∨ tO a c = 2 := by
  unfold tO
  repeat' split
  all_goals first | omega | (left; rfl) | (right; rfl)
theorem rel2_N (a b : Int) (h : a = b ∨ a = 2) : tN a = tN b ∨ tN a = 2 := by
  unfold tN
  repeat' split
  all_goals first | omega | (left; rfl) | (right; rfl)
theorem rel01_A (a b c d : Int) (h : a = 0 ∨ a = 1) (h' : c = 0 ∨ c = 1) : tA a c = 0 ∨ tA a c = 1 := by
  unfold tA
  repeat' split
  all_goals omega
theorem rel01_O (a b c d : Int) (h : a = 0 ∨ a = 1) (h' : c = 0 ∨ c = 1) : tO a c = 0 ∨ tO a c = 1 := by
  unfold tO
  repeat' split
  all_goals omega
theorem rel01_N (a b : Int) (h : a = 0 ∨ a = 1) : tN a = 0 ∨ tN a = 1 := by
  unfold tN
  repeat' split
  all_goals omega
theorem phi_flat (w h : Int) (n : QNodeV) : phi 1 w 0 n = phi 2 w h n ∨ phi 1 w 0 n = 2 := by
  unfold phi featT
  by_cases hf : n.feat = 1 ∨ n.feat = 3
  · left
    have e1 : plainB w 0 n.feat = plainB w h n.feat := by
      unfold plainB sizeI
      rw [Bool.eq_iff_iff]
      simp only [decide_eq_true_eq]
      rw [if_neg (show ¬ n.feat = 5 by omega), if_neg (show ¬ n.feat = 5 by omega), if_pos hf, if_pos hf]
    have e2 : ∀ x y, cmpB w 0 n.feat x y = cmpB w h n.feat x y := fun x y => by
      unfold cmpB sizeI
      rw [if_neg (show ¬ n.feat = 5 by omega), if_neg (show ¬ n.feat = 5 by omega), if_pos hf, if_pos hf]
    have a1 : ¬ ¬ ((1 : Int) = 2 ∨ ((1 : Int) = 1 ∧ (n.feat = 1 ∨ n.feat = 3))) := fun h => h (.inr ⟨rfl, hf⟩)
    have a2 : ¬ ¬ ((2 : Int) = 2 ∨ ((2 : Int) = 1 ∧ (n.feat = 1 ∨ n.feat = 3))) := fun h => h (.inl rfl)
    rw [if_neg a1, if_neg a2, e1, e2, e2, if_neg (show ¬ n.feat = 6 by omega), if_neg (show ¬ n.feat = 6 by omega)]
  · right
    rw [if_pos (by omega)]
theorem phi_none (w h : Int) (n : QNodeV) : phi 0 w h n = phi 2 w h n ∨ phi 0 w h n = 2 := by
  right
  unfold phi featT
  rw [if_pos (by omega)]
theorem phi_full (w h : Int) (n : QNodeV) : phi 2 w h n = 0 ∨ phi 2 w h n = 1 := by
  unfold phi featT
  have hb : ∀ b, ofB b = 0 ∨ ofB b = 1 := fun b => by cases b <;> simp [ofB]
  rw [if_neg (by omega)]
  repeat' split
  all_goals exact hb _
theorem evalQ_more (s : ByteArray) (xs : List QNodeV) (w h : Int) (hr : rightQ s xs = true) : (evalQ s xs 1 w 0 = evalQ s xs 2 w h ∨ evalQ s xs 1 w 0 = 2) ∧ evalQ s xs 2 w h ≠ 2 ∧ (evalQ s xs 0 w h = evalQ s xs 2 w h ∨ evalQ s xs 0 w h = 2) := by
  obtain ⟨h1, h2, h3, h4⟩ := rightQ_parts hr
  have hok : ∀ n ∈ xs, okN n := fun n hn => right_ok (h4 n hn)
  unfold evalQ
  rw [if_pos hr, if_pos hr, if_pos hr]
  obtain ⟨a, ha⟩ := ev_ex (phi 1 w 0) 32 xs xs.length hok h3 h1
  obtain ⟨b, hb⟩ := ev_ex (phi 2 w h) 32 xs xs.length hok h3 h1
  obtain ⟨c, hc⟩ := ev_ex (phi 0 w h) 32 xs xs.length hok h3 h1
  have ea : E (phi 1 w 0) 32 xs = a := by unfold E; rw [ha]; rfl
  have eb : E (phi 2 w h) 32 xs = b := by unfold E; rw [hb]; rfl
  have ec : E (phi 0 w h) 32 xs = c := by unfold E; rw [hc]; rfl
  rw [ea, eb, ec]
  refine ⟨?_, ?_, ?_⟩
  · exact (ev_rel (R := fun x y => x = y ∨ x = 2) rel2_A rel2_O rel2_N (.inl rfl) (.inl rfl) (fun _ => True) (fun n _ => phi_flat w h n) (fun _ => trivial) 32 xs _ _ _ _ ha hb).1
  · have := (ev_rel (R := fun x y => x = 0 ∨ x = 1) (φ := phi 2 w h) (ψ := phi 2 w h) rel01_A rel01_O rel01_N (.inr rfl) (.inl rfl) (fun _ => True) (fun n _ => phi_full w h n) (fun _ => trivial) 32 xs _ _ _ _ hb hb).1
    omega
  · exact (ev_rel (R := fun x y => x = y ∨ x = 2) rel2_A rel2_O rel2_N (.inl rfl) (.inl rfl) (fun _ => True) (fun n _ => phi_none w h n) (fun _ => trivial) 32 xs _ _ _ _ hc hb).1
theorem Sy.more_t (s : ByteArray) (xs : List QNodeV) (w h : Int) (hs : s.size ≤ maxLen) (hx : xs.length ≤ 17592186044416) : CallTo Try.prog 6 [Sy.query s xs, int w, int h] M0 fun v _ => v = boo true :=
  toV [cKnown14, cEvalP s xs, cRightR s xs] [] 400 30 (.yes (.br (.yes (.br (.yes (.auto 0 .done)) (.auto 0 .done))) (.yes (.yes (.yes (.br (.auto 1 (.br (.auto 1 (.br (.auto 2 (.br (.auto 3 (.br (.yes (.auto 0 .done)) (.auto 0 .done))) (.auto 4 (.yes (.auto 0 .done))))) (.auto 8 .done))) (.auto 11 .done))) (.auto 4 (.br (.auto 2 (.br (.auto 3 (.br (.yes (.auto 0 .done)) (.auto 0 .done))) (.auto 4 (.yes (.auto 0 .done))))) (.auto 8 .done))))))))) (.need (@isSo (@And ([(@AV.agg [(@AV.lit (@Value.string s)), (@qview xs)])] = [(@query s xs)]) (@And ((@ByteArray.size s) ≤ 9223372036854775807) ((xs).length ≤ 17592186044416)))) (.fork (!(@rightQ s xs)) (.need (@isSo (@And ([(@AV.agg [(@AV.lit (@Value.string s)), (@qview xs)]), (@AV.agg ((int (2 : Int)) :: (@AV.lit (@Value.string (@ByteArray.mk (@Array.mk _ [])))) :: ((int w) :: ((int h) :: (@List.drop _ 2 [(int w), (int (0 : Int))])))))] = [(@query s xs), (@AV.agg [(int (Int.ofNat 2)), (@AV.lit (@Value.string (@ByteArray.mk (@Array.mk _ [])))), (int w), (int h)])]) (@And ((@ByteArray.size s) ≤ 9223372036854775807) ((xs).length ≤ 17592186044416)))) (.fork (eqI (@evalQ s xs (Int.ofNat 2) w h) (2 : Int)) (.need (@isSo (@And (([] : List AV) = []) True)) (.leaf (boo true))) (.leaf (boo false)))) (.need (@isSo (@And ([(@AV.agg [(@AV.lit (@Value.string s)), (@qview xs)]), (@AV.agg ((int (1 : Int)) :: (@AV.lit (@Value.string (@ByteArray.mk (@Array.mk _ [])))) :: [(int w), (int (0 : Int))]))] = [(@query s xs), (@AV.agg [(int (Int.ofNat 1)), (@AV.lit (@Value.string (@ByteArray.mk (@Array.mk _ [])))), (int w), (int (Int.ofNat 0))])]) (@And ((@ByteArray.size s) ≤ 9223372036854775807) ((xs).length ≤ 17592186044416)))) (.need (@isSo (@And ([(@AV.agg [(@AV.lit (@Value.string s)), (@qview xs)]), (@AV.agg ((int (2 : Int)) :: (@AV.lit (@Value.string (@ByteArray.mk (@Array.mk _ [])))) :: ((int w) :: ((int h) :: (@List.drop _ 2 [(int w), (int (0 : Int))])))))] = [(@query s xs), (@AV.agg [(int (Int.ofNat 2)), (@AV.lit (@Value.string (@ByteArray.mk (@Array.mk _ [])))), (int w), (int h)])]) (@And ((@ByteArray.size s) ≤ 9223372036854775807) ((xs).length ≤ 17592186044416)))) (.need (@isSo (@And ([(@AV.agg [(@AV.lit (@Value.string s)), (@qview xs)]), (@AV.agg ((int (0 : Int)) :: (@AV.lit (@Value.string (@ByteArray.mk (@Array.mk _ [])))) :: ((int w) :: ((int h) :: (@List.drop _ 2 [(int w), (int (0 : Int))])))))] = [(@query s xs), (@AV.agg [(int (Int.ofNat 0)), (@AV.lit (@Value.string (@ByteArray.mk (@Array.mk _ [])))), (int w), (int h)])]) (@And ((@ByteArray.size s) ≤ 9223372036854775807) ((xs).length ≤ 17592186044416)))) (.fork (!(eqI (@evalQ s xs (Int.ofNat 1) w (Int.ofNat 0)) (@evalQ s xs (Int.ofNat 2) w h))) (.fork (eqI (@evalQ s xs (Int.ofNat 1) w (Int.ofNat 0)) (2 : Int)) (.fork (!(eqI (@evalQ s xs (Int.ofNat 2) w h) (2 : Int))) (.fork (!(eqI (@evalQ s xs (Int.ofNat 0) w h) (@evalQ s xs (Int.ofNat 2) w h))) (.fork (eqI (@evalQ s xs (Int.ofNat 0) w h) (2 : Int)) (.need (@isSo (@And (([] : List AV) = []) True)) (.leaf (boo true))) (.leaf (boo false))) (.need (@isSo (@And (([] : List AV) = []) True)) (.leaf (boo true)))) (.leaf (boo false))) (.leaf (boo false))) (.fork (!(eqI (@evalQ s xs (Int.ofNat 2) w h) (2 : Int))) (.fork (!(eqI (@evalQ s xs (Int.ofNat 0) w h) (@evalQ s xs (Int.ofNat 2) w h))) (.fork (eqI (@evalQ s xs (Int.ofNat 0) w h) (2 : Int)) (.need (@isSo (@And (([] : List AV) = []) True)) (.leaf (boo true))) (.leaf (boo false))) (.need (@isSo (@And (([] : List AV) = []) True)) (.leaf (boo true)))) (.leaf (boo false))))))))) (by kernel_rfl) (by
    refine need_so ⟨rfl, hs, hx⟩ (fork_ok (fun h1 => need_so ⟨rfl, hs, hx⟩ ?_) (fun h1 => need_so ⟨rfl, hs, hx⟩ (need_so ⟨rfl, hs, hx⟩ (need_so ⟨rfl, hs, hx⟩ ?_))))
    · have e : evalQ s xs (Int.ofNat 2) w h = 2 := by unfold evalQ; rw [if_neg (by simpa using h1)]
      rw [e]
      exact fork_ok (fun _ => need_so ⟨rfl, trivial⟩ rfl) (fun h2 => by cases h2)
    · have h1' : rightQ s xs = true := by simpa using h1
      have hh : (evalQ s xs (Int.ofNat 1) w (Int.ofNat 0) = evalQ s xs (Int.ofNat 2) w h ∨ evalQ s xs (Int.ofNat 1) w (Int.ofNat 0) = 2) ∧ evalQ s xs (Int.ofNat 2) w h ≠ 2 ∧ (evalQ s xs (Int.ofNat 0) w h = evalQ s xs (Int.ofNat 2) w h ∨ evalQ s xs (Int.ofNat 0) w h = 2) := evalQ_more s xs w h h1'
      generalize evalQ s xs (Int.ofNat 1) w (Int.ofNat 0) = A at *
      generalize evalQ s xs (Int.ofNat 2) w h = B at *
      generalize evalQ s xs (Int.ofNat 0) w h = C at *
      repeat' (first | refine fork_ok (fun _ => ?_) (fun _ => ?_) | refine need_so ⟨rfl, trivial⟩ ?_ | exact rfl)
      all_goals
        exfalso
        simp only [eqI_t, eqI_f, Bool.not_eq_true', Bool.not_eq_false'] at *
        omega)
theorem more_walk {s : ByteArray} {a : Option Addr} {cap : Nat} {xs : List QNodeV} {W : World} (hs : s.size ≤ maxLen) (hq : Rows QNodeV.cells 9 W a cap xs) (w h : Int) :
    Calls Try.prog 6 #[.agg #[.string s, .slice a xs.length cap], .int .i64 w, .int .i64 h] W fun e w' => e = .returned (.bool true) ∧ Below W.heap.size W w' :=
  Sy.law_true (Sy.more_t s xs w h hs hq.sm) (us := [_, _, _]) ⟨_, _, rfl, rel_query hq, _, _, rfl, rfl, _, _, rfl, rfl, rfl⟩
end Go.Proofs.Ytjljlcflmcjapaa
