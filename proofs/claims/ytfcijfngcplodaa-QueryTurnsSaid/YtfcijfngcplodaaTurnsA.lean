/-
  Layer 8's law QueryTurns: words and comparisons are fixed, the value alone is not. Tokens, and their Clone.
-/
import Derived.Test.YtfcijfngcplodaaSyM
import Derived.Test.YtfcijfngcplodaaSyV
import Derived.Test.YtfcijfngcplodaaToks
namespace Go.Proofs.Ytfcijfngcplodaa
open Go Go.RowKit Sy
set_option linter.unusedVariables false
set_option linter.unusedSimpArgs false
def tok0 : TokV := ⟨0, ⟨#[]⟩, 0⟩
namespace Sy
abbrev kv (l : List TokV) : AV := viewOf TokV.cells tok0 3 l
theorem kv_free (l : List TokV) : Free (kv l) := viewOf_free TokV.cells tok0 3 l
def kindOf : AV → Int
  | .lit (.int .i64 n) => n
  | _ => 0
def textOf : AV → ByteArray
  | .lit (.string s) => s
  | _ => ⟨#[]⟩
def tokOf (cell : Nat → Nat → AV) (i : Nat) : TokV := ⟨kindOf (cell i 0), textOf (cell i 1), kindOf (cell i 2)⟩
def IsTok (cell : Nat → Nat → AV) : Prop := cell = fun i j => .lit ((TokV.cells (tokOf cell i)).getD j undef)
/-- the tokens of such a slice -/
def toks (n : Nat) (cell : Nat → Nat → AV) : List TokV := (List.range n).map (tokOf cell)
theorem tokOf_of (c : Nat → TokV) : tokOf (fun i j => .lit ((TokV.cells (c i)).getD j undef)) = c := rfl
theorem isTok_of (c : Nat → TokV) : IsTok (fun i j => .lit ((TokV.cells (c i)).getD j undef)) := rfl
theorem toks_len (n : Nat) (cell : Nat → Nat → AV) : (toks n cell).length = n := by simp [toks]
theorem toks_get (n : Nat) (cell : Nat → Nat → AV) {i : Nat} (h : i < n) : (toks n cell).getD i tok0 = tokOf cell i := by
  unfold toks
  rw [List.getD_eq_getElem?_getD, List.getElem?_eq_getElem (by simpa using h)]
  simp
theorem toks_drop (l : List TokV) (lo n : Nat) (h : lo + n ≤ l.length) : toks n (fun i j => .lit ((TokV.cells (l.getD (lo + i) tok0)).getD j undef)) = (l.drop lo).take n := by
  unfold toks
  rw [tokOf_of fun i => l.getD (lo + i) tok0]
  refine List.ext_getElem (by simp; omega) fun i h1 h2 => ?_
  simp only [List.length_map, List.length_range] at h1
  rw [List.getElem_map, List.getElem_range, List.getElem_take, List.getElem_drop, List.getD_eq_getElem?_getD, List.getElem?_eq_getElem (by omega)]
  rfl
theorem toks_all (l : List TokV) : toks l.length (fun i j => .lit ((TokV.cells (l.getD i tok0)).getD j undef)) = l := by
  have := toks_drop l 0 l.length (by omega)
  simp only [Nat.zero_add] at this
  rw [this, List.drop_zero, List.take_length]
/-- a slice's cells, spelled out -/
abbrev cx (l : List TokV) (lo : Nat) : Nat → Nat → AV := fun i j => .lit ([(.int .i64 (l.getD (lo + i) tok0).kind : Value), .string (l.getD (lo + i) tok0).text, .int .i64 (l.getD (lo + i) tok0).n].getD j (.tuple (Array.mk [])))
abbrev cx0 (l : List TokV) : Nat → Nat → AV := fun i j => .lit ([(.int .i64 (l.getD i tok0).kind : Value), .string (l.getD i tok0).text, .int .i64 (l.getD i tok0).n].getD j (.tuple (Array.mk [])))
theorem toks_cx (l : List TokV) (lo n : Nat) (h : lo + n ≤ l.length) : toks n (cx l lo) = (l.drop lo).take n := toks_drop l lo n h
theorem toks_cx0 (l : List TokV) : toks l.length (cx0 l) = l := toks_all l
structure VX where
  n : Nat
  cell : Nat → Nat → AV
/-- of tokens, and of others -/
noncomputable def conT (f : FuncId) (g : List TokV → List AV → AV) (C : List TokV → List AV → Prop) (h : ∀ l r, C l r → (Frees r ∧ Free (g l r)) ∧ CallTo Try.prog f (kv l :: r) M0 fun v _ => v = g l r) : Con Try.prog :=
  atX f (fun args => match args with | .view n s cell :: r => some ((⟨n, cell⟩ : VX), r) | _ => none) (fun x => .view x.1.n 3 x.1.cell :: x.2) (fun x => g (toks x.1.n x.1.cell) x.2) (fun x => IsTok x.1.cell ∧ C (toks x.1.n x.1.cell) x.2) fun x hx => by
    obtain ⟨⟨n, cell⟩, r⟩ := x
    obtain ⟨h2, h3⟩ := hx
    simp only at h2 h3 ⊢
    obtain ⟨⟨q1, q2⟩, q3⟩ := h _ _ h3
    refine ⟨⟨⟨?_, q1⟩, q2⟩, q3.congr fun ρ us hr => ?_⟩
    · rw [h2]; exact fun i j => trivial
    · simp only [rels] at hr ⊢
      obtain ⟨u, us', rfl, r1, r2⟩ := hr
      refine ⟨u, us', rfl, ?_, r2⟩
      have hl : (toks n cell).length = n := toks_len n cell
      show rel ρ (.view (toks n cell).length 3 _) u
      rw [hl]
      refine rel_view_congr (fun i j hi hj => ?_) r1
      rw [toks_get n cell hi]
      exact congrFun (congrFun h2 i) j
/-- a bound of all lengths here -/
def lim (l : List TokV) : Prop := l.length ≤ 17592186044416
theorem tok_one : ∀ (x : TokV), ∀ u ∈ x.cells, u.oneCell' = true := by
  intro x u hu
  simp only [TokV.cells, List.mem_cons, List.not_mem_nil, or_false] at hu
  rcases hu with rfl | rfl | rfl <;> rfl
end Sy
theorem tToks : SliceT Try.prog 27 26 3 32 (.agg #[.int .i64 0, .string ⟨#[]⟩, .int .i64 0]) :=
  ⟨Try.underlying27, by obtain ⟨i0, hi, hz0, hz1, hz2⟩ := info_parts (show (Try.prog.info? 26).map (fun i => (i.zero, i.size, i.bytes)) = some (some (.agg #[.int .i64 0, .string ⟨#[]⟩, .int .i64 0]), 3, 32) by kernel_rfl); exact ⟨i0, hi, hz0, hz1, hz2⟩, rfl, by decide⟩
@[go_sem] theorem nilT0 (w : World) : (binOp BinOp.eql 27 (.slice none 0 0) (.slice none 0 0)).run Try.prog w = .ok (.bool true) w := by kernel_rfl
@[go_sem] theorem nilT1 (ad : Addr) (n c : Nat) (w : World) : (binOp BinOp.eql 27 (.slice (some ad) n c) (.slice none 0 0)).run Try.prog w = .ok (.bool false) w := by kernel_rfl
theorem own_base {w : World} {base : Nat} {e : TypeId} {s : Nat} {v : Value} {n m c : Nat} {flat : List Value} {ad : Addr} (h : w.ownsRow base e s v n flat) (hv : v = .slice (some ad) m c) : base ≤ ad.block := by
  rcases h.2 with ⟨rfl, _⟩ | ⟨g, cap, cur, rfl, hb, _⟩
  · cases hv
  · simp at hv; rw [← hv.1]; exact hb
theorem own_empty (w : World) (e : TypeId) (s : Nat) : (w.alloc (.cells #[] e)).ownsRow w.heap.size e s (.slice (some ⟨w.heap.size, 0, none⟩) 0 0) 0 [] :=
  ⟨by simp, Or.inr ⟨w.heap.size, 0, #[], rfl, Nat.le_refl _, heap_alloc_new w _, Nat.le_refl _, by omega, by simp, by simp⟩⟩
/-- what Clone takes here -/
def limC (l : List TokV) : Prop := l.length ≤ 100000
theorem limC.lim {l : List TokV} (h : limC l) : lim l := by unfold limC at h; unfold Sy.lim; omega
set_option maxRecDepth 20000 in
theorem clone_toks {w : World} {a : Option Addr} {cap : Nat} {xs : List TokV} (h : RToks w a cap xs) (hs : limC xs) :
    Calls Try.prog 24 #[.slice a xs.length cap] w fun e w' => ∃ a' cap', e = .returned (.slice a' xs.length cap') ∧ RToks w' a' cap' xs ∧ (∀ ad, a' = some ad → w.heap.size ≤ ad.block) ∧ Below w.heap.size w w' := by
  unfold limC at hs
  cases ha : a with
  | none =>
    subst ha
    have hc := h.nil rfl
    subst hc
    have hx : xs = [] := List.eq_nil_of_length_eq_zero (by have := h.le; omega)
    subst hx
    go_enter Try.func24, Try.ntmps24
    go_wp2
    go_ret
    exact ⟨none, 0, rfl, h, (fun _ e => by cases e), Below.refl _ _⟩
  | some ad =>
    subst ha
    have HR := Lib.hid h; clear h
    go_enter Try.func24, Try.ntmps24
    go_wp2_with (first
      | (at_builtin; refine wpList_app_rows (cells := TokV.cells) 27 26 3 32 _ tToks rfl _ _ rfl w.heap.size _ 0 [] rfl (own_empty w 26 3) (some ad) cap xs rfl (HR.out.later _) (fun _ _ => rfl) (fun y _ u hu => tok_one y u hu) (by omega) (by omega) (by simp) ?_; intro v' w1 hown1 hb1))
    go_ret
    obtain ⟨b', c, rfl, hr⟩ := Rows.of_own (cells := TokV.cells) (xs := xs) (by simpa using hown1) (fun k hk j u hu => by simpa using flat_get TokV.cells 3 xs (fun _ _ => rfl) k hk j u hu) (by omega)
    exact ⟨b', c, by simp, hr, (fun ad e => own_base hown1 (by rw [e])), (balloc (Below.refl _ _) _).trans hb1⟩
/-- a clone reads as what it is made of -/
noncomputable def Sy.cCloneI : Con Try.prog := atX 24 (fun args => match args with | [.view n s cell] => some (⟨n, cell⟩ : VX) | _ => none) (fun x => [.view x.n 3 x.cell]) (fun x => .view x.n 3 x.cell) (fun x => IsTok x.cell ∧ x.n ≤ 100000) fun x ⟨h1, h2⟩ => by
  obtain ⟨n, cell⟩ := x
  simp only at h1 h2 ⊢
  have hfree : Free (.view n 3 cell) := by rw [h1]; exact fun i j => trivial
  refine ⟨⟨⟨hfree, trivial⟩, hfree⟩, ?_⟩
  have hl : (toks n cell).length = n := toks_len n cell
  have hC : limC (toks n cell) := by unfold limC; rw [hl]; exact h2
  have key : ∀ ρ u, rel ρ (.view n 3 cell) u ↔ rel ρ (kv (toks n cell)) u := fun ρ u => by
    have e : ∀ i j, i < n → j < 3 → cell i j = .lit ((TokV.cells ((toks n cell).getD i tok0)).getD j undef) := fun i j hi hj => by
      rw [toks_get n cell hi]; exact congrFun (congrFun h1 i) j
    show rel ρ (.view n 3 cell) u ↔ rel ρ (.view (toks n cell).length 3 _) u
    rw [hl]
    exact ⟨fun h => rel_view_congr e h, fun h => rel_view_congr (fun i j hi hj => (e i j hi hj).symm) h⟩
  have := (of_walkV (d := tok0) (toks n cell) (toks n cell) [] (fun x => x.len) tok_one (by decide) hC.lim (fun w a cap hR => clone_toks hR hC) M0).mono fun v M' hv => hv.1
  refine CallTo.as ((this.congr fun ρ us hr => ?_).mono fun v _ hv => ?_)
  · simp only [rels] at hr ⊢
    obtain ⟨u, us', rfl, r1, r2⟩ := hr
    exact ⟨u, us', rfl, (key ρ u).1 r1, r2⟩
  · subst hv
    exact fun ρ u hr => (key ρ u).2 hr
end Go.Proofs.Ytfcijfngcplodaa
