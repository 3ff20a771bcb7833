/-
  Queries: whether one may be: the program's.
-/
import Derived.Test.YtedooldplfjodaaQu2
import Derived.Test.YtedooldplfjodaaNames
namespace Go.Proofs.Ytedooldplfjodaa
open Go Go.RowKit Pl Sy
set_option linter.unusedVariables false
set_option linter.unusedSimpArgs false

/-- may a container not be named so? -/
def resB (s : ByteArray) : Bool := bytesEq s.data.toList [97, 110, 100] || bytesEq s.data.toList [111, 114] || bytesEq s.data.toList [110, 111, 116] || bytesEq s.data.toList [110, 111, 110, 101]
/-sy reserved_q
fun (s : ByteArray) (d : D) => reckV [] [] 400 30 17 [.lit (.string s)] M0 d
-/
theorem Sy.reserved_q (s : ByteArray) : CallTo Try.prog 17 [.lit (.string s)] M0 fun v _ => v = boo (resB s) :=
  toV [] [] 400 30 (.br (.auto 1 (.br (.auto 1 (.br (.auto 1 .done) (.auto 1 .done))) (.auto 4 .done))) (.auto 7 .done)) (.fork (!(@bytesEq (@Array.toList _ (@ByteArray.data s)) (@Array.toList _ (@ByteArray.data (@ByteArray.mk (@Array.mk _ [(97 : UInt8), (110 : UInt8), (100 : UInt8)])))))) (.fork (!(@bytesEq (@Array.toList _ (@ByteArray.data s)) (@Array.toList _ (@ByteArray.data (@ByteArray.mk (@Array.mk _ [(111 : UInt8), (114 : UInt8)])))))) (.fork (!(@bytesEq (@Array.toList _ (@ByteArray.data s)) (@Array.toList _ (@ByteArray.data (@ByteArray.mk (@Array.mk _ [(110 : UInt8), (111 : UInt8), (116 : UInt8)])))))) (.leaf (boo (@bytesEq (@Array.toList _ (@ByteArray.data s)) (@Array.toList _ (@ByteArray.data (@ByteArray.mk (@Array.mk _ [(110 : UInt8), (111 : UInt8), (110 : UInt8), (101 : UInt8)]))))))) (.leaf (boo true))) (.leaf (boo true))) (.leaf (boo true))) (by kernel_rfl) (by
    simp only [Tr.Ok, Bool.not_eq_true', Bool.not_eq_false', boo_iff, resB]
    repeat' (first | (intro _) | apply And.intro)
    all_goals simp_all)
/-sy wrong_q
fun (k c f lo ln ld ho hn hd : Int) (d : D) => reckV [cRight1] [] 400 30 19 [qa k c f lo ln ld ho hn hd] M0 d
-/
theorem Sy.wrong_q (k c f lo ln ld ho hn hd : Int) : CallTo Try.prog 19 [qa k c f lo ln ld ho hn hd] M0 fun v _ => v = boo (!rightV k c f lo ln ld ho hn hd) :=
  toV [cRight1] [] 400 30 .done (.leaf (boo (!(@rightV k c f lo ln ld ho hn hd)))) (by kernel_rfl) rfl
noncomputable abbrev Sy.cWrong : Con Try.prog := ints9 19 [10] (fun k c f lo ln ld ho hn hd => boo (!rightV k c f lo ln ld ho hn hd)) (fun _ _ _ _ _ _ _ _ _ => trivial) Sy.wrong_q
/-sy index_p
fun (xs : List QNodeV) (d : D) => probeV SyTool.probe [cWrong] 400 30 37 [Sy.qview xs, .fn (.func 19) [] []] M0 d
-/
abbrev Sy.idxF (xs : List QNodeV) (i : Int) : Fr := [some ((@qview xs)), some ((@AV.fn (@Fn.func 19) [] [])), none, none, some ((int (0 : Int))), none, some (qview xs), some ((int (((xs).length : Nat) : Int))), some (int i), none, none, none, none, none, none, none, none, none, none]
/-sy index_r
fun (xs : List QNodeV) (i : Int) (d : D) => reckL [cWrong] [] 400 30 37 3 [true, true, false, false, true, false, true, true, true, false, false, false, false, false, false, false, false, false, false] (idxF xs i) M0 d
-/
/-- the first node that may not be -/
def wrongL : List QNodeV → Option Nat
  | [] => none
  | n :: l => if rightV n.kind n.count n.feat n.lo n.ln n.ld n.ho n.hn n.hd = true then (wrongL l).map (· + 1) else some 0
theorem Sy.idx_loop (xs : List QNodeV) (hx : xs.length ≤ 17592186044416) : ∀ (l pre : List QNodeV) (i : Int), xs = pre ++ l → i = pre.length →
    LoopTo Try.prog (theBody Try.prog 37 3) (l.length + 1) (idxF xs i) M0 fun ex F M => M = M0 ∧ match wrongL l with
      | some k => ex = .ret ∧ F = [some ((@qview xs)), some ((@AV.fn (@Fn.func 19) [] [])), none, none, some (int (i + k)), none, some (qview xs), some ((int (((xs).length : Nat) : Int))), some (int (i + k)), none, none, none, none, none, none, none, none, none, none]
      | none => ex = .exit 0 ∧ ∃ j, F = idxF xs j := by
  intro l
  induction l with
  | nil =>
    intro pre i hxs hi
    have hl : xs.length = pre.length := by rw [hxs]; simp
    refine roundL [cWrong] [] 400 30 37 3 Try.func37 rfl (by kernel_rfl) [true, true, false, false, true, false, true, true, true, false, false, false, false, false, false, false, false, false, false] (.br (.yes (.br .done .done)) .done) (.fork (!(leI (((xs).length : Nat) : Int) i)) (.need (@inR i (xs).length) (.fork (!(@rightV ((xs.getD (i).toNat QNodeV.zero)).kind ((xs.getD (i).toNat QNodeV.zero)).count ((xs.getD (i).toNat QNodeV.zero)).feat ((xs.getD (i).toNat QNodeV.zero)).lo ((xs.getD (i).toNat QNodeV.zero)).ln ((xs.getD (i).toNat QNodeV.zero)).ld ((xs.getD (i).toNat QNodeV.zero)).ho ((xs.getD (i).toNat QNodeV.zero)).hn ((xs.getD (i).toNat QNodeV.zero)).hd)) (.leaf (Ex.ret, ([(some (@qview xs)), (some (@AV.fn (@Fn.func 19) [] [])), none, none, (some (int i)), none, (some (@qview xs)), (some (int (((xs).length : Nat) : Int))), (some (int i)), none, none, none, none, none, none, none, none, none, none], (@Mem.mk 0 0 [])))) (.leaf (Ex.norm, ([(some (@qview xs)), (some (@AV.fn (@Fn.func 19) [] [])), none, none, (some (int (0 : Int))), none, (some (@qview xs)), (some (int (((xs).length : Nat) : Int))), (some (int (w64 (i + (1 : Int))))), none, none, none, none, none, none, none, none, none, none], (@Mem.mk 0 0 [])))))) (.leaf ((@Ex.exit 0), ([(some (@qview xs)), (some (@AV.fn (@Fn.func 19) [] [])), none, none, (some (int (0 : Int))), none, (some (@qview xs)), (some (int (((xs).length : Nat) : Int))), (some (int i)), none, none, none, none, none, none, none, none, none, none], (@Mem.mk 0 0 []))))) (by kernel_rfl) ?_
    refine ⟨fun h => ?_, fun h => ⟨rfl, rfl, i, rfl⟩⟩
    simp only [Bool.not_eq_true', Bool.not_eq_false', leI_t, leI_f, eqI_t, eqI_f, inR_t, inR_f, isSo_t, isSo_f] at h
    omega
  | cons n l ih =>
    intro pre i hxs hi
    have hl : xs.length = pre.length + l.length + 1 := by rw [hxs]; simp; omega
    have hg : xs.getD i.toNat QNodeV.zero = n := by rw [hxs]; exact getD_at _ _ _ _ _ hi
    refine roundL [cWrong] [] 400 30 37 3 Try.func37 rfl (by kernel_rfl) [true, true, false, false, true, false, true, true, true, false, false, false, false, false, false, false, false, false, false] (.br (.yes (.br .done .done)) .done) (.fork (!(leI (((xs).length : Nat) : Int) i)) (.need (@inR i (xs).length) (.fork (!(@rightV ((xs.getD (i).toNat QNodeV.zero)).kind ((xs.getD (i).toNat QNodeV.zero)).count ((xs.getD (i).toNat QNodeV.zero)).feat ((xs.getD (i).toNat QNodeV.zero)).lo ((xs.getD (i).toNat QNodeV.zero)).ln ((xs.getD (i).toNat QNodeV.zero)).ld ((xs.getD (i).toNat QNodeV.zero)).ho ((xs.getD (i).toNat QNodeV.zero)).hn ((xs.getD (i).toNat QNodeV.zero)).hd)) (.leaf (Ex.ret, ([(some (@qview xs)), (some (@AV.fn (@Fn.func 19) [] [])), none, none, (some (int i)), none, (some (@qview xs)), (some (int (((xs).length : Nat) : Int))), (some (int i)), none, none, none, none, none, none, none, none, none, none], (@Mem.mk 0 0 [])))) (.leaf (Ex.norm, ([(some (@qview xs)), (some (@AV.fn (@Fn.func 19) [] [])), none, none, (some (int (0 : Int))), none, (some (@qview xs)), (some (int (((xs).length : Nat) : Int))), (some (int (w64 (i + (1 : Int))))), none, none, none, none, none, none, none, none, none, none], (@Mem.mk 0 0 [])))))) (.leaf ((@Ex.exit 0), ([(some (@qview xs)), (some (@AV.fn (@Fn.func 19) [] [])), none, none, (some (int (0 : Int))), none, (some (@qview xs)), (some (int (((xs).length : Nat) : Int))), (some (int i)), none, none, none, none, none, none, none, none, none, none], (@Mem.mk 0 0 []))))) (by kernel_rfl) ?_
    have hr : inR i xs.length = true := by rw [inR_t]; omega
    rw [hg]
    refine ⟨fun h => ⟨hr, fun h2 => ⟨rfl, ?_⟩, fun h2 => ?_⟩, fun h => ?_⟩
    · simp only [Bool.not_eq_true', Bool.not_eq_false', leI_t, leI_f, eqI_t, eqI_f, inR_t, inR_f, isSo_t, isSo_f] at h2
      have hw : wrongL (n :: l) = some 0 := by unfold wrongL; rw [if_neg (by rw [h2]; simp)]
      rw [hw]
      exact ⟨rfl, by simp⟩
    · simp only [Bool.not_eq_true', Bool.not_eq_false', leI_t, leI_f, eqI_t, eqI_f, inR_t, inR_f, isSo_t, isSo_f] at h2
      have hw : wrongL (n :: l) = (wrongL l).map (· + 1) := by rw [wrongL, if_pos h2]
      rw [w64_in (r := i + 1) (by omega)]
      refine (ih (pre ++ [n]) (i + 1) (by rw [hxs]; simp) (by simp; omega)).mono fun ex F M hg => ?_
      rw [hw]
      refine ⟨hg.1, ?_⟩
      have hg2 := hg.2
      cases hs : wrongL l with
      | none => rw [hs] at hg2; exact hg2
      | some k =>
        rw [hs] at hg2
        obtain ⟨q1, q2⟩ := hg2
        exact ⟨q1, by rw [q2, show i + 1 + (k : Int) = i + ((k + 1 : Nat) : Int) by omega]⟩
    · simp only [Bool.not_eq_true', Bool.not_eq_false', leI_t, leI_f, eqI_t, eqI_f, inR_t, inR_f, isSo_t, isSo_f] at h
      omega
noncomputable abbrev Sy.idxRes (xs : List QNodeV) (x : Int) : Tr (Ex × Fr × Mem) :=
  .fork (isSo ((wrongL (xs.drop x.toNat)).isSome = true)) (.leaf (.ret, [some ((@qview xs)), some ((@AV.fn (@Fn.func 19) [] [])), none, none, some (int (x + ((wrongL (xs.drop x.toNat)).getD 0 : Nat))), none, some (qview xs), some ((int (((xs).length : Nat) : Int))), none, none, none, none, none, none, none, none, none, none, none], M0)) (.leaf (.exit 0, [some ((@qview xs)), some ((@AV.fn (@Fn.func 19) [] [])), none, none, some ((int (0 : Int))), none, some (qview xs), some ((int (((xs).length : Nat) : Int))), none, none, none, none, none, none, none, none, none, none, none], M0))
noncomputable abbrev Sy.idxLp (xs : List QNodeV) : Lp Try.prog where
  f := 37
  key := 3
  S := formS (fun F M => slotI F 8) (fun x => idxF xs x) (fun _ => M0) (fun x => xs.length ≤ 17592186044416 ∧ 0 ≤ x ∧ x ≤ xs.length) (idxRes xs) [true, true, false, false, true, false, true, true, true, false, false, false, false, false, false, false, false, false, false]
  one := by kernel_rfl
  ok := formS_ok fun x ⟨h1, h2, h3⟩ => by
    refine ⟨(xs.drop x.toNat).length + 1, ?_⟩
    have h6 := Sy.idx_loop xs h1 (xs.drop x.toNat) (xs.take x.toNat) x (by simp) (by simp; omega)
    cases hs : wrongL (xs.drop x.toNat) with
    | none =>
      refine (h6.out [true, true, false, false, true, false, true, true, false, false, false, false, false, false, false, false, false, false, false]).mono fun ex F M hg => .inr ⟨by simp [hs, isSo], ?_⟩
      obtain ⟨F0, ⟨hM, hg⟩, rfl⟩ := hg
      rw [hs] at hg
      obtain ⟨rfl, j, rfl⟩ := hg
      rw [hM]; rfl
    | some k =>
      refine (h6.out [true, true, false, false, true, false, true, true, false, false, false, false, false, false, false, false, false, false, false]).mono fun ex F M hg => .inl ⟨by simp [hs, isSo], ?_⟩
      obtain ⟨F0, ⟨hM, hg⟩, rfl⟩ := hg
      rw [hs] at hg
      obtain ⟨rfl, rfl⟩ := hg
      rw [hM, hs]; rfl
/-sy contains_q
fun (xs : List QNodeV) (d : D) => reckV [cWrong] [idxLp xs] 400 30 18 [Sy.qview xs, .fn (.func 19) [] []] M0 d
-/
theorem Sy.contains_q (xs : List QNodeV) (hx : xs.length ≤ 17592186044416) : CallTo Try.prog 18 [Sy.qview xs, .fn (.func 19) [] []] M0 fun v _ => v = boo (wrongL xs).isSome :=
  toV [cWrong] [idxLp xs] 400 30 (.br .done .done) (.need (@isSo (@And (((some (@AV.view (xs).length 9 (fun x361475 => (fun x993328 => (@AV.lit ([(@Value.int IntKind.i64 ((xs.getD x361475 QNodeV.zero)).kind), (@Value.int IntKind.i64 ((xs.getD x361475 QNodeV.zero)).count), (@Value.int IntKind.i64 ((xs.getD x361475 QNodeV.zero)).feat), (@Value.int IntKind.i64 ((xs.getD x361475 QNodeV.zero)).lo), (@Value.int IntKind.i64 ((xs.getD x361475 QNodeV.zero)).ln), (@Value.int IntKind.i64 ((xs.getD x361475 QNodeV.zero)).ld), (@Value.int IntKind.i64 ((xs.getD x361475 QNodeV.zero)).ho), (@Value.int IntKind.i64 ((xs.getD x361475 QNodeV.zero)).hn), (@Value.int IntKind.i64 ((xs.getD x361475 QNodeV.zero)).hd)].getD x993328 (@Value.tuple (@Array.mk _ [])))))))) :: (some (@AV.fn (@Fn.func 19) [] [])) :: [none, none, (some (int (0 : Int))), none, (some (@AV.view (xs).length 9 (fun x116941 => (fun x902709 => (@AV.lit ([(@Value.int IntKind.i64 ((xs.getD x116941 QNodeV.zero)).kind), (@Value.int IntKind.i64 ((xs.getD x116941 QNodeV.zero)).count), (@Value.int IntKind.i64 ((xs.getD x116941 QNodeV.zero)).feat), (@Value.int IntKind.i64 ((xs.getD x116941 QNodeV.zero)).lo), (@Value.int IntKind.i64 ((xs.getD x116941 QNodeV.zero)).ln), (@Value.int IntKind.i64 ((xs.getD x116941 QNodeV.zero)).ld), (@Value.int IntKind.i64 ((xs.getD x116941 QNodeV.zero)).ho), (@Value.int IntKind.i64 ((xs.getD x116941 QNodeV.zero)).hn), (@Value.int IntKind.i64 ((xs.getD x116941 QNodeV.zero)).hd)].getD x902709 (@Value.tuple (@Array.mk _ [])))))))), (some (int (((xs).length : Nat) : Int))), (some (int (0 : Int))), none, none, none, none, none, none, none, none, none, none]) = [(some (@qview xs)), (some (@AV.fn (@Fn.func 19) [] [])), none, none, (some (int (0 : Int))), none, (some (@qview xs)), (some (int (((xs).length : Nat) : Int))), (some (int (0 : Int))), none, none, none, none, none, none, none, none, none, none]) ((@Mem.mk 0 0 []) = M0))) (.need (@isSo (@And ((xs).length ≤ 17592186044416) (@And ((0 : Int) ≤ (0 : Int)) ((0 : Int) ≤ (((xs).length : Nat) : Int))))) (.fork (@isSo ((@Option.isSome _ (@wrongL xs)) = true)) (.leaf (boo (leI (0 : Int) ((0 : Int) + (((@Option.getD _ (@wrongL xs) 0) : Nat) : Int))))) (.leaf (boo false))))) (by kernel_rfl) (by
    refine need_so ⟨rfl, rfl⟩ (need_so ⟨hx, by decide, by omega⟩ ⟨fun h => ?_, fun h => ?_⟩)
    · simp only [Bool.not_eq_true', Bool.not_eq_false', leI_t, leI_f, eqI_t, eqI_f, inR_t, inR_f, isSo_t, isSo_f] at h
      have h' : (wrongL xs).isSome = true := h
      show boo _ = boo _
      rw [h', boo_iff, leI_t]
      constructor
      · intro _; rfl
      · intro _; omega
    · simp only [Bool.not_eq_true', Bool.not_eq_false', leI_t, leI_f, eqI_t, eqI_f, inR_t, inR_f, isSo_t, isSo_f] at h
      have h' : ¬ (wrongL xs).isSome = true := h
      show boo _ = boo _
      rw [Bool.not_eq_true] at h'
      rw [h'])
noncomputable abbrev Sy.cContains (xs : List QNodeV) : Con Try.prog := at1 18 [qview xs, .fn (.func 19) [] []] (boo (wrongL xs).isSome) (xs.length ≤ 17592186044416) fun h => ⟨⟨⟨viewOf_free QNodeV.cells QNodeV.zero 9 xs, ⟨trivial, trivial⟩, trivial⟩, trivial⟩, contains_q xs h⟩
noncomputable abbrev Sy.cSpan0 (s : ByteArray) (xs : List QNodeV) : Con Try.prog := at1 8 [query s xs, int 0] (int (spanI xs 0)) (xs.length ≤ 1000) fun h => ⟨⟨⟨⟨trivial, viewOf_free QNodeV.cells QNodeV.zero 9 xs, trivial⟩, trivial, trivial⟩, trivial⟩, span_q s xs h 0⟩
noncomputable abbrev Sy.cNameP : Con Try.prog := str1 16 (fun s => boo (nameL s.data.toList)) (fun s => s.size ≤ maxLen) (fun _ => trivial) fun s h => old (us := [.string s]) fun w => name_p s w h
noncomputable abbrev Sy.cReserved : Con Try.prog := str1 17 (fun s => boo (resB s)) (fun _ => True) (fun _ => trivial) fun s _ => reserved_q s
/-sy right_q0
fun (s : ByteArray) (xs : List QNodeV) (d : D) => reckV [cContains xs, cSpan0 s xs, cNameP, cReserved] [] 400 30 6 [Sy.query s xs] M0 d
-/
/-- may a query be? -/
def rightQ (s : ByteArray) (xs : List QNodeV) : Bool :=
  (bytesEq s.data.toList [] || (nameL s.data.toList && !resB s)) && (decide (1 ≤ xs.length ∧ xs.length ≤ 32) && (decide (spanI xs 0 = xs.length) && !(wrongL xs).isSome))
theorem Sy.right_q0 (s : ByteArray) (xs : List QNodeV) (hs : s.size ≤ maxLen) (hx : xs.length ≤ 17592186044416) : CallTo Try.prog 6 [Sy.query s xs] M0 fun v _ => v = boo (rightQ s xs) :=
  toV [cContains xs, cSpan0 s xs, cNameP, cReserved] [] 400 30 (.br (.auto 1 (.yes (.auto 1 (.br (.auto 1 (.yes (.auto 2 (.br .done (.br (.auto 3 (.br (.auto 0 (.yes (.auto 4 (.br .done (.yes .done))))) (.auto 6 .done))) (.auto 11 .done)))))) (.auto 5 .done))))) (.auto 9 (.br (.auto 3 (.br (.auto 0 (.yes (.auto 4 (.br .done (.yes .done))))) (.auto 6 .done))) (.auto 11 .done)))) (.fork (!(@bytesEq (@Array.toList _ (@ByteArray.data s)) (@Array.toList _ (@ByteArray.data (@ByteArray.mk (@Array.mk _ [])))))) (.need (@isSo ((@ByteArray.size s) ≤ 9223372036854775807)) (.fork (!(!(@Pl.nameL (@Array.toList _ (@ByteArray.data s))))) (.need (@isSo True) (.fork (@resB s) (.leaf (boo false)) (.fork (!(eqI (((xs).length : Nat) : Int) (0 : Int))) (.fork (!(!(leI (((xs).length : Nat) : Int) (32 : Int)))) (.need (@isSo (@And ([(@AV.agg [(@AV.lit (@Value.string s)), (@qview xs)]), (int (0 : Int))] = [(@query s xs), (int (0 : Int))]) ((xs).length ≤ 1000))) (.fork (!(eqI (@spanI xs (0 : Int)) (((xs).length : Nat) : Int))) (.leaf (boo false)) (.need (@isSo (@And ([(@AV.view (xs).length 9 (fun x460839 => (fun x409918 => (@AV.lit ([(@Value.int IntKind.i64 ((xs.getD x460839 QNodeV.zero)).kind), (@Value.int IntKind.i64 ((xs.getD x460839 QNodeV.zero)).count), (@Value.int IntKind.i64 ((xs.getD x460839 QNodeV.zero)).feat), (@Value.int IntKind.i64 ((xs.getD x460839 QNodeV.zero)).lo), (@Value.int IntKind.i64 ((xs.getD x460839 QNodeV.zero)).ln), (@Value.int IntKind.i64 ((xs.getD x460839 QNodeV.zero)).ld), (@Value.int IntKind.i64 ((xs.getD x460839 QNodeV.zero)).ho), (@Value.int IntKind.i64 ((xs.getD x460839 QNodeV.zero)).hn), (@Value.int IntKind.i64 ((xs.getD x460839 QNodeV.zero)).hd)].getD x409918 (@Value.tuple (@Array.mk _ []))))))), (@AV.fn (@Fn.func 19) [] [])] = [(@qview xs), (@AV.fn (@Fn.func 19) [] [])]) ((xs).length ≤ 17592186044416))) (.leaf (boo (!(@Option.isSome _ (@wrongL xs)))))))) (.leaf (boo false))) (.leaf (boo false))))) (.leaf (boo false)))) (.fork (!(eqI (((xs).length : Nat) : Int) (0 : Int))) (.fork (!(!(leI (((xs).length : Nat) : Int) (32 : Int)))) (.need (@isSo (@And ([(@AV.agg [(@AV.lit (@Value.string s)), (@qview xs)]), (int (0 : Int))] = [(@query s xs), (int (0 : Int))]) ((xs).length ≤ 1000))) (.fork (!(eqI (@spanI xs (0 : Int)) (((xs).length : Nat) : Int))) (.leaf (boo false)) (.need (@isSo (@And ([(@AV.view (xs).length 9 (fun x436696 => (fun x130939 => (@AV.lit ([(@Value.int IntKind.i64 ((xs.getD x436696 QNodeV.zero)).kind), (@Value.int IntKind.i64 ((xs.getD x436696 QNodeV.zero)).count), (@Value.int IntKind.i64 ((xs.getD x436696 QNodeV.zero)).feat), (@Value.int IntKind.i64 ((xs.getD x436696 QNodeV.zero)).lo), (@Value.int IntKind.i64 ((xs.getD x436696 QNodeV.zero)).ln), (@Value.int IntKind.i64 ((xs.getD x436696 QNodeV.zero)).ld), (@Value.int IntKind.i64 ((xs.getD x436696 QNodeV.zero)).ho), (@Value.int IntKind.i64 ((xs.getD x436696 QNodeV.zero)).hn), (@Value.int IntKind.i64 ((xs.getD x436696 QNodeV.zero)).hd)].getD x130939 (@Value.tuple (@Array.mk _ []))))))), (@AV.fn (@Fn.func 19) [] [])] = [(@qview xs), (@AV.fn (@Fn.func 19) [] [])]) ((xs).length ≤ 17592186044416))) (.leaf (boo (!(@Option.isSome _ (@wrongL xs)))))))) (.leaf (boo false))) (.leaf (boo false)))) (by kernel_rfl) (by
    repeat' (first
      | refine fork_ok (fun _ => ?_) (fun _ => ?_)
      | refine need_so ⟨rfl, by (first | assumption | trivial | (try simp only [eqI_t, eqI_f, leI_t, leI_f, inR_t, inR_f, isSo_t, isSo_f, eqI_d, leI_d, decide_eq_true_eq, decide_eq_false_iff_not, Bool.not_eq_true', Bool.not_eq_false', Bool.false_eq_true, Bool.and_eq_true, Bool.or_eq_true, Bool.not_not, iff_false, false_iff, iff_true, true_iff] at *) <;> first | omega | grind)⟩ ?_
      | refine need_so (by (first | assumption | trivial | (try simp only [eqI_t, eqI_f, leI_t, leI_f, inR_t, inR_f, isSo_t, isSo_f, eqI_d, leI_d, decide_eq_true_eq, decide_eq_false_iff_not, Bool.not_eq_true', Bool.not_eq_false', Bool.false_eq_true, Bool.and_eq_true, Bool.or_eq_true, Bool.not_not, iff_false, false_iff, iff_true, true_iff] at *) <;> first | omega | grind)) ?_
      | refine need_t (by (first | assumption | trivial | (try simp only [eqI_t, eqI_f, leI_t, leI_f, inR_t, inR_f, isSo_t, isSo_f, eqI_d, leI_d, decide_eq_true_eq, decide_eq_false_iff_not, Bool.not_eq_true', Bool.not_eq_false', Bool.false_eq_true, Bool.and_eq_true, Bool.or_eq_true, Bool.not_not, iff_false, false_iff, iff_true, true_iff] at *) <;> first | omega | grind)) ?_)
    all_goals (first | refine leaf_boo ?_ | refine leaf_int ?_)
    all_goals (unfold rightQ; try simp only [eqI_t, eqI_f, leI_t, leI_f, inR_t, inR_f, isSo_t, isSo_f, eqI_d, leI_d, decide_eq_true_eq, decide_eq_false_iff_not, Bool.not_eq_true', Bool.not_eq_false', Bool.false_eq_true, Bool.and_eq_true, Bool.or_eq_true, Bool.not_not, iff_false, false_iff, iff_true, true_iff] at *)
    all_goals (first | omega | grind))
end Go.Proofs.Ytedooldplfjodaa
