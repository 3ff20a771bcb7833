/-
  Layer 14's law TruthSays, and others, by the symbolic interpreter.
-/
import Derived.Test.YtjljlcflmcjapaaOpenQ
import Derived.Test.YtjljlcflmcjapaaKnown14
namespace Go.Proofs.Ytjljlcflmcjapaa
open Go Go.RowKit Pl Sy
set_option linter.unusedVariables false
set_option linter.unusedSimpArgs false

noncomputable abbrev Sy.cKnown14 : Con Try.prog := at1 21 [] (boo true) True fun _ => ⟨⟨trivial, trivial⟩, (CallTo.of_calls (us := []) known14 M0).mono fun _ _ h => h.1⟩
section
variable (s : ByteArray) (xs : List QNodeV)
noncomputable abbrev Sy.cEvalP : Con Try.prog := atX 22 (fun args => match args with | [_, .agg [.lit (.int .i64 ty), .lit (.string en), .lit (.int .i64 w), .lit (.int .i64 h)]] => some (ty, en, w, h) | _ => none) (fun x => [Sy.query s xs, ext x.1 x.2.1 x.2.2.1 x.2.2.2]) (fun x => int (evalQ s xs x.1 x.2.2.1 x.2.2.2)) (fun _ => s.size ≤ maxLen ∧ xs.length ≤ 17592186044416) fun x hC => ⟨⟨⟨⟨trivial, viewOf_free QNodeV.cells QNodeV.zero 9 xs, trivial⟩, ⟨trivial, trivial, trivial, trivial, trivial⟩, trivial⟩, trivial⟩, eval_t s xs x.1 x.2.1 x.2.2.1 x.2.2.2 hC.1 hC.2⟩
noncomputable abbrev Sy.cEvalR : Con Try.prog := atX 23 (fun args => match args with | [_, .agg [.lit (.int .i64 ty), .lit (.string en), .lit (.int .i64 w), .lit (.int .i64 h)]] => some (ty, en, w, h) | _ => none) (fun x => [Sy.query s xs, ext x.1 x.2.1 x.2.2.1 x.2.2.2]) (fun x => int (evalQ s xs x.1 x.2.2.1 x.2.2.2)) (fun _ => s.size ≤ maxLen ∧ xs.length ≤ 17592186044416) fun x hC => ⟨⟨⟨⟨trivial, viewOf_free QNodeV.cells QNodeV.zero 9 xs, trivial⟩, ⟨trivial, trivial, trivial, trivial, trivial⟩, trivial⟩, trivial⟩, evalr_t s xs x.1 x.2.1 x.2.2.1 x.2.2.2 hC.1 hC.2⟩
end
/-sy says_t
fun (s : ByteArray) (xs : List QNodeV) (ty : Int) (en : ByteArray) (w h : Int) (d : D) => reckV [cKnown14, cEvalP s xs, cEvalR s xs] [] 400 30 5 [Sy.query s xs, ext ty en w h] M0 d
-/
theorem Sy.says_t (s : ByteArray) (xs : List QNodeV) (ty : Int) (en : ByteArray) (w h : Int) (hs : s.size ≤ maxLen) (hx : xs.length ≤ 17592186044416) : CallTo Try.prog 5 [Sy.query s xs, ext ty en w h] M0 fun v _ => v = boo true :=
  toV [cKnown14, cEvalP s xs, cEvalR s xs] [] 400 30 (.br (.yes (.auto 11 .done)) (.auto 3 (.yes (.auto 2 (.yes (.auto 1 (.br (.yes (.auto 2 .done)) (.auto 2 .done)))))))) (.fork (!(leI (((xs).length : Nat) : Int) (40 : Int))) (.need (@isSo (@And (([] : List AV) = []) True)) (.leaf (boo true))) (.need (@isSo (@And ([(@AV.agg [(@AV.lit (@Value.string s)), (@qview xs)]), (@AV.agg [(int ty), (@AV.lit (@Value.string en)), (int w), (int h)])] = [(@query s xs), (@AV.agg [(int ty), (@AV.lit (@Value.string en)), (int w), (int h)])]) (@And ((@ByteArray.size s) ≤ 9223372036854775807) ((xs).length ≤ 17592186044416)))) (.need (@isSo (@And ([(@AV.agg [(@AV.lit (@Value.string s)), (@qview xs)]), (@AV.agg [(int ty), (@AV.lit (@Value.string en)), (int w), (int h)])] = [(@query s xs), (@AV.agg [(int ty), (@AV.lit (@Value.string en)), (int w), (int h)])]) (@And ((@ByteArray.size s) ≤ 9223372036854775807) ((xs).length ≤ 17592186044416)))) (.fork (eqI (@evalQ s xs ty w h) (@evalQ s xs ty w h)) (.need (@isSo (@And (([] : List AV) = []) True)) (.leaf (boo true))) (.leaf (boo false)))))) (by kernel_rfl) (by
    refine fork_ok (fun h1 => need_so ⟨rfl, trivial⟩ rfl) (fun h1 => need_so ⟨rfl, hs, hx⟩ (need_so ⟨rfl, hs, hx⟩ (fork_ok (fun h2 => need_so ⟨rfl, trivial⟩ rfl) (fun h2 => ?_))))
    simp only [Bool.not_eq_true', Bool.not_eq_false', leI_t, leI_f, eqI_t, eqI_f, inR_t, inR_f, isSo_t, isSo_f] at h2
    exact absurd trivial h2)
/-- a law that says true -/
theorem Sy.law_true {f : FuncId} {args : List AV} {us : List Value} {W : World} (h : CallTo Try.prog f args M0 fun v _ => v = boo true) (hr : rels (rho0 W) args us) : Calls Try.prog f us.toArray W fun e w' => e = .returned (.bool true) ∧ Below W.heap.size W w' :=
  ((h.mono (H := fun v _ => ∃ u, v = .lit u ∧ u = .bool true) fun v _ e => ⟨_, e, rfl⟩).calls hr).mono fun e w' ⟨⟨u, h1, h2⟩, h3⟩ => ⟨by rw [h1, h2], h3⟩
theorem says_walk {s : ByteArray} {a : Option Addr} {cap : Nat} {xs : List QNodeV} {W : World} (hs : s.size ≤ maxLen) (hq : Rows QNodeV.cells 9 W a cap xs) (ty : Int) (en : ByteArray) (w h : Int) :
    Calls Try.prog 5 #[.agg #[.string s, .slice a xs.length cap], .agg #[.int .i64 ty, .string en, .int .i64 w, .int .i64 h]] W fun e w' => e = .returned (.bool true) ∧ Below W.heap.size W w' :=
  Sy.law_true (Sy.says_t s xs ty en w h hs hq.sm) (us := [_, _]) ⟨_, _, rfl, rel_query hq, _, _, rfl, rel_ext W ty en w h, rfl⟩
end Go.Proofs.Ytjljlcflmcjapaa
