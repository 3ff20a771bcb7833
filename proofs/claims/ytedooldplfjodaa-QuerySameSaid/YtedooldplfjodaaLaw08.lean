/-
  Layer 8's law QueryRights.
-/
import Derived.Test.YtedooldplfjodaaOpenQ8
import Derived.Test.YtedooldplfjodaaSyM
import Derived.Test.YtedooldplfjodaaKnown08
namespace Go.Proofs.Ytedooldplfjodaa
open Go Go.RowKit Pl Sy
set_option linter.unusedVariables false
set_option linter.unusedSimpArgs false

noncomputable abbrev Sy.cKnown08 : Con Try.prog := at1 5 [] (boo true) True fun _ => ⟨⟨trivial, trivial⟩, (CallTo.of_calls (us := []) known08 M0).mono fun _ _ h => h.1⟩
section
variable (s : ByteArray) (xs : List QNodeV)
noncomputable abbrev Sy.cRightP8 : Con Try.prog := at1 6 [Sy.query s xs] (boo (rightQ s xs)) (s.size ≤ maxLen ∧ xs.length ≤ 17592186044416) fun h => ⟨⟨⟨⟨trivial, viewOf_free QNodeV.cells QNodeV.zero 9 xs, trivial⟩, trivial⟩, trivial⟩, right_q0 s xs h.1 h.2⟩
noncomputable abbrev Sy.cRightR8 : Con Try.prog := at1 7 [Sy.query s xs] (boo (rightQ s xs)) (s.size ≤ maxLen ∧ xs.length ≤ 17592186044416) fun h => ⟨⟨⟨⟨trivial, viewOf_free QNodeV.cells QNodeV.zero 9 xs, trivial⟩, trivial⟩, trivial⟩, right_ref s xs h.1 h.2⟩
noncomputable abbrev Sy.cSpanP8 (i : Int) : Con Try.prog := at1 8 [Sy.query s xs, int i] (int (spanI xs i)) (xs.length ≤ 1000) fun h => ⟨⟨⟨⟨trivial, viewOf_free QNodeV.cells QNodeV.zero 9 xs, trivial⟩, trivial, trivial⟩, trivial⟩, span_q s xs h i⟩
end
/-sy rights_t
fun (s : ByteArray) (xs : List QNodeV) (i : Int) (d : D) => reckV [cKnown08, cRightP8 s xs, cRightR8 s xs, cSpanP8 s xs i, cSpanRef s xs] [] 400 30 3 [Sy.query s xs, int i] M0 d
-/
theorem Sy.rights_t (s : ByteArray) (xs : List QNodeV) (i : Int) (hs : s.size ≤ maxLen) (hx : xs.length ≤ 17592186044416) : CallTo Try.prog 3 [Sy.query s xs, int i] M0 fun v _ => v = boo true :=
  toV [cKnown08, cRightP8 s xs, cRightR8 s xs, cSpanP8 s xs i, cSpanRef s xs] [] 400 30 (.br (.yes .done) (.yes (.yes (.br (.auto 1 (.yes (.auto 2 (.yes (.auto 1 (.br (.yes (.auto 0 .done)) (.auto 0 .done))))))) (.auto 8 .done))))) (.fork (!(leI (((xs).length : Nat) : Int) (60 : Int))) (.need (@isSo (@And (([] : List AV) = []) True)) (.leaf (boo true))) (.need (@isSo (@And ([(@AV.agg [(@AV.lit (@Value.string s)), (@qview xs)])] = [(@query s xs)]) (@And ((@ByteArray.size s) ≤ 9223372036854775807) ((xs).length ≤ 17592186044416)))) (.need (@isSo (@And ([(@AV.agg [(@AV.lit (@Value.string s)), (@qview xs)])] = [(@query s xs)]) (@And ((@ByteArray.size s) ≤ 9223372036854775807) ((xs).length ≤ 17592186044416)))) (.fork (@Decidable.decide ((@rightQ s xs) = (@rightQ s xs)) _) (.need (@isSo (@And ([(@AV.agg [(@AV.lit (@Value.string s)), (@qview xs)]), (int i)] = [(@query s xs), (int i)]) ((xs).length ≤ 1000))) (.need (@isSo (@And ([(@AV.agg [(@AV.lit (@Value.string s)), (@qview xs)]), (int i)] = [(@query s xs), (int i)]) ((xs).length ≤ 17592186044416))) (.fork (eqI (@spanI xs i) (@spanI xs i)) (.need (@isSo (@And (([] : List AV) = []) True)) (.leaf (boo true))) (.leaf (boo false))))) (.leaf (boo false)))))) (by kernel_rfl) (by
    refine fork_ok (fun h1 => need_so ⟨rfl, trivial⟩ rfl) (fun h1 => need_so ⟨rfl, hs, hx⟩ (need_so ⟨rfl, hs, hx⟩ (fork_ok (fun h2 => need_so ⟨rfl, ?_⟩ (need_so ⟨rfl, hx⟩ (fork_ok (fun h3 => need_so ⟨rfl, trivial⟩ rfl) (fun h3 => ?_)))) (fun h2 => ?_))))
    · simp only [Bool.not_eq_true', Bool.not_eq_false', leI_t, leI_f, eqI_t, eqI_f, inR_t, inR_f, isSo_t, isSo_f] at h1
      omega
    · simp only [Bool.not_eq_true', Bool.not_eq_false', leI_t, leI_f, eqI_t, eqI_f, inR_t, inR_f, isSo_t, isSo_f] at h3
      exact absurd trivial h3
    · simp at h2)
theorem rights_walk {s : ByteArray} {a : Option Addr} {cap : Nat} {xs : List QNodeV} {W : World} (hs : s.size ≤ maxLen) (hq : Rows QNodeV.cells 9 W a cap xs) (i : Int) :
    Calls Try.prog 3 #[.agg #[.string s, .slice a xs.length cap], .int .i64 i] W fun e w' => e = .returned (.bool true) ∧ Below W.heap.size W w' :=
  Sy.law_true (Sy.rights_t s xs i hs hq.sm) (us := [_, _]) ⟨_, _, rfl, rel_query hq, _, _, rfl, rfl, rfl⟩
/-sy same_p
fun (s t : ByteArray) (xs ys : List QNodeV) (d : D) => probeV SyTool.probe [] 400 30 10 [Sy.query s xs, Sy.query t ys] M0 d
-/
/-sy samer_p
fun (s t : ByteArray) (xs ys : List QNodeV) (d : D) => probeV SyTool.probe [] 400 30 11 [Sy.query s xs, Sy.query t ys] M0 d
-/
/-sy eqs_p
fun (xs ys : List QNodeV) (d : D) => probeV SyTool.probe [] 400 30 25 [qview xs, qview ys] M0 d
-/
end Go.Proofs.Ytedooldplfjodaa
