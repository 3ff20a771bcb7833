/-
  Tokens as the interpreter's values; contracts that take tokens.
-/
import Derived.Test.YtjljlcflmcjapaaDeclPlain
import Derived.Test.YtjljlcflmcjapaaMatchR
namespace Go.Proofs.Ytjljlcflmcjapaa
open Go Go.RowKit Pl Sy
set_option linter.unusedVariables false
set_option linter.unusedSimpArgs false
/-- what closes the opening at a place -/
def mtI (l : List TokV) (i : Int) : Int := mtc (kindsT l) i
namespace Sy
abbrev kv (l : List TokV) : AV := viewOf TokV.cells tok0 3 l
theorem kv_free (l : List TokV) : Free (kv l) := viewOf_free TokV.cells tok0 3 l
def kindOf : AV → Int
  | .lit (.int .i64 n) => n
  | _ => 0
def textOf : AV → ByteArray
  | .lit (.string s) => s
  | _ => ⟨#[]⟩
def tokOf (cell : Nat → Nat → AV) (i : Nat) : TokV := ⟨kindOf (cell i 0), textOf (cell i 1), kindOf (cell i 2)⟩
def IsTok (cell : Nat → Nat → AV) : Prop := cell = fun i j => .lit ((TokV.cells (tokOf cell i)).getD j undef)
/-- the tokens of such a slice -/
def toks (n : Nat) (cell : Nat → Nat → AV) : List TokV := (List.range n).map (tokOf cell)
theorem tokOf_of (c : Nat → TokV) : tokOf (fun i j => .lit ((TokV.cells (c i)).getD j undef)) = c := rfl
theorem isTok_of (c : Nat → TokV) : IsTok (fun i j => .lit ((TokV.cells (c i)).getD j undef)) := rfl
theorem toks_len (n : Nat) (cell : Nat → Nat → AV) : (toks n cell).length = n := by simp [toks]
theorem toks_get (n : Nat) (cell : Nat → Nat → AV) {i : Nat} (h : i < n) : (toks n cell).getD i tok0 = tokOf cell i := by
  unfold toks
  rw [List.getD_eq_getElem?_getD, List.getElem?_eq_getElem (by simpa using h)]
  simp
theorem toks_drop (l : List TokV) (lo n : Nat) (h : lo + n ≤ l.length) : toks n (fun i j => .lit ((TokV.cells (l.getD (lo + i) tok0)).getD j undef)) = (l.drop lo).take n := by
  unfold toks
  rw [tokOf_of fun i => l.getD (lo + i) tok0]
  refine List.ext_getElem (by simp; omega) fun i h1 h2 => ?_
  simp only [List.length_map, List.length_range] at h1
  rw [List.getElem_map, List.getElem_range, List.getElem_take, List.getElem_drop, List.getD_eq_getElem?_getD, List.getElem?_eq_getElem (by omega)]
  rfl
theorem toks_all (l : List TokV) : toks l.length (fun i j => .lit ((TokV.cells (l.getD i tok0)).getD j undef)) = l := by
  have := toks_drop l 0 l.length (by omega)
  simp only [Nat.zero_add] at this
  rw [this, List.drop_zero, List.take_length]
/-- a slice's cells, spelled out -/
abbrev cx (l : List TokV) (lo : Nat) : Nat → Nat → AV := fun i j => .lit ([(.int .i64 (l.getD (lo + i) tok0).kind : Value), .string (l.getD (lo + i) tok0).text, .int .i64 (l.getD (lo + i) tok0).n].getD j (.tuple (Array.mk [])))
abbrev cx0 (l : List TokV) : Nat → Nat → AV := fun i j => .lit ([(.int .i64 (l.getD i tok0).kind : Value), .string (l.getD i tok0).text, .int .i64 (l.getD i tok0).n].getD j (.tuple (Array.mk [])))
theorem toks_cx (l : List TokV) (lo n : Nat) (h : lo + n ≤ l.length) : toks n (cx l lo) = (l.drop lo).take n := toks_drop l lo n h
theorem toks_cx0 (l : List TokV) : toks l.length (cx0 l) = l := toks_all l
structure VX where
  n : Nat
  cell : Nat → Nat → AV
/-- of tokens, and of others -/
noncomputable def conT (f : FuncId) (g : List TokV → List AV → AV) (C : List TokV → List AV → Prop) (h : ∀ l r, C l r → (Frees r ∧ Free (g l r)) ∧ CallTo Try.prog f (kv l :: r) M0 fun v _ => v = g l r) : Con Try.prog :=
  atX f (fun args => match args with | .view n s cell :: r => some ((⟨n, cell⟩ : VX), r) | _ => none) (fun x => .view x.1.n 3 x.1.cell :: x.2) (fun x => g (toks x.1.n x.1.cell) x.2) (fun x => IsTok x.1.cell ∧ C (toks x.1.n x.1.cell) x.2) fun x hx => by
    obtain ⟨⟨n, cell⟩, r⟩ := x
    obtain ⟨h2, h3⟩ := hx
    simp only at h2 h3 ⊢
    obtain ⟨⟨q1, q2⟩, q3⟩ := h _ _ h3
    refine ⟨⟨⟨?_, q1⟩, q2⟩, q3.congr fun ρ us hr => ?_⟩
    · rw [h2]; exact fun i j => trivial
    · simp only [rels] at hr ⊢
      obtain ⟨u, us', rfl, r1, r2⟩ := hr
      refine ⟨u, us', rfl, ?_, r2⟩
      have hl : (toks n cell).length = n := toks_len n cell
      show rel ρ (.view (toks n cell).length 3 _) u
      rw [hl]
      refine rel_view_congr (fun i j hi hj => ?_) r1
      rw [toks_get n cell hi]
      exact congrFun (congrFun h2 i) j
/-- a bound of all lengths here -/
def lim (l : List TokV) : Prop := l.length ≤ 17592186044416
theorem tok_one : ∀ (x : TokV), ∀ u ∈ x.cells, u.oneCell' = true := by
  intro x u hu
  simp only [TokV.cells, List.mem_cons, List.not_mem_nil, or_false] at hu
  rcases hu with rfl | rfl | rfl <;> rfl
noncomputable abbrev cMatch (l : List TokV) : Con Try.prog := atX 27 (fun args => match args with | [_, .lit (.int .i64 i)] => some i | _ => none) (fun i => [kv l, int i]) (fun i => int (mtI l i)) (fun _ => lim l) fun i h =>
  ⟨⟨⟨kv_free l, trivial, trivial⟩, trivial⟩, (of_walk (d := tok0) l [.int .i64 i] (.int .i64 (mtc (kindsT l) i)) (fun x => x.len) (by decide) h (fun w a cap hR => match_p hR i) M0).mono fun v _ hv => hv.1⟩
noncomputable abbrev cMatchR (l : List TokV) : Con Try.prog := atX 28 (fun args => match args with | [_, .lit (.int .i64 i)] => some i | _ => none) (fun i => [kv l, int i]) (fun i => int (mtI l i)) (fun _ => lim l) fun i h =>
  ⟨⟨⟨kv_free l, trivial, trivial⟩, trivial⟩, (of_walk (d := tok0) l [.int .i64 i] (.int .i64 (mtc (kindsT l) i)) (fun x => x.len) (by decide) h (fun w a cap hR => match_r hR i) M0).mono fun v _ hv => hv.1⟩
end Sy
abbrev Sy.tokA (t : TokV) : AV := .agg [int t.kind, .lit (.string t.text), int t.n]
/-- of a token: yes or no -/
noncomputable def Sy.conB (f : FuncId) (p : TokV → Bool) (h : ∀ t, CallTo Try.prog f [tokA t] M0 fun v _ => v = boo (p t)) : Con Try.prog :=
  atX f (fun args => match args with | [.agg [.lit (.int .i64 a), .lit (.string b), .lit (.int .i64 c)]] => some (⟨a, b, c⟩ : TokV) | _ => none) (fun t => [tokA t]) (fun t => boo (p t)) (fun _ => True) fun t _ => ⟨⟨⟨⟨trivial, trivial, trivial, trivial⟩, trivial⟩, trivial⟩, h t⟩
/-sy semi_t
fun (t : TokV) (d : D) => reckV [] [] 400 30 57 [tokA t] M0 d
-/
/-sy space_t
fun (t : TokV) (d : D) => reckV [] [] 400 30 94 [tokA t] M0 d
-/
/-sy other_t
fun (t : TokV) (d : D) => reckV [] [] 400 30 134 [tokA t] M0 d
-/
/-sy loud_t
fun (t : TokV) (d : D) => reckV [] [] 400 30 88 [tokA t] M0 d
-/
/-sy bad_t
fun (t : TokV) (d : D) => reckV [] [] 400 30 87 [tokA t] M0 d
-/
/-sy loudr_t
fun (t : TokV) (d : D) => reckV [] [] 400 30 92 [tokA t] M0 d
-/
theorem Sy.semi_t (t : TokV) : CallTo Try.prog 57 [tokA t] M0 fun v _ => v = boo (semiB t) :=
  toV [] [] 400 30 .done (.leaf (boo (eqI (t).kind (11 : Int)))) (by kernel_rfl) rfl
theorem Sy.space_t (t : TokV) : CallTo Try.prog 94 [tokA t] M0 fun v _ => v = boo (spB t) :=
  toV [] [] 400 30 .done (.leaf (boo (eqI (t).kind (20 : Int)))) (by kernel_rfl) rfl
theorem Sy.other_t (t : TokV) : CallTo Try.prog 134 [tokA t] M0 fun v _ => v = boo (!spB t) :=
  toV [] [] 400 30 .done (.leaf (boo (!(eqI (t).kind (20 : Int))))) (by kernel_rfl) rfl
theorem Sy.bad_t (t : TokV) : CallTo Try.prog 87 [tokA t] M0 fun v _ => v = boo (badB t) :=
  toV [] [] 400 30 .done (.leaf (boo (eqI (t).kind (6 : Int)))) (by kernel_rfl) rfl
theorem Sy.loud_t (t : TokV) : CallTo Try.prog 88 [tokA t] M0 fun v _ => v = boo (loudB t) :=
  toV [] [] 400 30 (.br (.auto 3 .done) (.auto 3 .done)) (.fork (eqI (t).kind (19 : Int)) (.leaf (boo (@bytesEq (@Array.toList _ (@ByteArray.data (t).text)) (@Array.toList _ (@ByteArray.data (@ByteArray.mk (@Array.mk _ [(33 : UInt8)]))))))) (.leaf (boo false))) (by kernel_rfl) (by
    unfold loudB
    refine fork_ok (fun h => ?_) (fun h => ?_)
    · rw [h]; exact rfl
    · rw [h]; exact rfl)
theorem Sy.loudr_t (t : TokV) : CallTo Try.prog 92 [tokA t] M0 fun v _ => v = boo (loudB t) :=
  toV [] [] 400 30 (.br (.auto 2 .done) (.auto 2 .done)) (.fork (eqI (t).kind (19 : Int)) (.leaf (boo (@bytesEq (@Array.toList _ (@ByteArray.data (t).text)) (@Array.toList _ (@ByteArray.data (@ByteArray.mk (@Array.mk _ [(33 : UInt8)]))))))) (.leaf (boo false))) (by kernel_rfl) (by
    unfold loudB
    refine fork_ok (fun h => ?_) (fun h => ?_)
    · rw [h]; exact rfl
    · rw [h]; exact rfl)
noncomputable abbrev Sy.cSemi : Con Try.prog := conB 57 semiB semi_t
noncomputable abbrev Sy.cSpace : Con Try.prog := conB 94 spB space_t
noncomputable abbrev Sy.cOther : Con Try.prog := conB 134 (fun t => !spB t) other_t
noncomputable abbrev Sy.cBad : Con Try.prog := conB 87 badB bad_t
noncomputable abbrev Sy.cLoud : Con Try.prog := conB 88 loudB loud_t
noncomputable abbrev Sy.cLoudR : Con Try.prog := conB 92 loudB loudr_t
end Go.Proofs.Ytjljlcflmcjapaa
