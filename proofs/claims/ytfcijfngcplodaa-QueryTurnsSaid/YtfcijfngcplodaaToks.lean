/-
  Slices of tokens, as they are read and as they come in.
-/
import Derived.Test.YtfcijfngcplodaaBase
import Derived.Test.YtfcijfngcplodaaLift
namespace Go.Proofs.Ytfcijfngcplodaa
open Go.RowKit Go.ChangeShapes Go.WideShapes Go.ChangeAt Go.Deep
set_option linter.unusedVariables false

structure TokV where
  kind : Int
  text : ByteArray
  n : Int
def TokV.cells (t : TokV) : List Value := [.int .i64 t.kind, .string t.text, .int .i64 t.n]
theorem TokV.len (y : TokV) : y.cells.length = 3 := rfl
abbrev RToks := Rows TokV.cells 3
theorem RToks.at {w : World} {a : Option Addr} {cap : Nat} {l : List TokV} (h : RToks w a cap l) (hne : l ≠ []) :
    ∃ b off, a = some ⟨b, off, none⟩ ∧ b < w.heap.size ∧ ∀ k (hk : k < l.length),
      w.cell? ⟨b, off + k * 3, none⟩ = some (.int .i64 l[k].kind) ∧ w.cell? ⟨b, off + k * 3 + 1, none⟩ = some (.string l[k].text) ∧ w.cell? ⟨b, off + k * 3 + 2, none⟩ = some (.int .i64 l[k].n) := by
  obtain ⟨b, off, ha, hlt, hc⟩ := h.base hne
  exact ⟨b, off, ha, hlt, fun k hk => ⟨hc k hk 0 _ rfl, hc k hk 1 _ rfl, hc k hk 2 _ rfl⟩⟩
def kindsT (l : List TokV) : List Int := l.map TokV.kind

theorem kInt_ : Try.prog.cellsOf 3 = 1 := by kernel_rfl
theorem kStr_ : Try.prog.cellsOf 9 = 1 := by kernel_rfl
theorem kTok_ : Try.prog.cellsOf 26 = 3 := by kernel_rfl
theorem bTok_ : Try.prog.bytesOf 26 = 32 := by kernel_rfl
instance : Inhabited TokV := ⟨⟨0, ⟨#[]⟩, 0⟩⟩

section
variable {H : Type} {enc : TypeId × Value → H} {W : World} {p : List MemPlace}
def TokIn (y : TokV) : Prop := (Lit.int .i64 y.kind).wf = true ∧ y.text.size ≤ maxLen ∧ (Lit.int .i64 y.n).wf = true
set_option maxRecDepth 100000 in
theorem elem_tok {n : Nat} {cs : List Value} {x : DataW H × List MemPlace} (h : DataW.trod enc Try.prog W 0 (fun _ => true) true n 26 cs = some x) : ∃ y : TokV, cs = y.cells ∧ TokIn y := by
  obtain ⟨xs, m, _, hx, hl, hlen, hf⟩ := DataW.trod_struct Try.underlying26 h
  rw [kTok_] at hl
  match cs, hl with
  | [c0, c1, c2], _ =>
    have hlen3 : xs.length = 3 := hlen
    match xs, hlen3 with
    | [x0, x1, x2], _ =>
      have f0 : DataW.trod enc Try.prog W 0 (fun _ => true) true m 3 (List.take (Try.prog.cellsOf 3) (List.drop 0 [c0, c1, c2])) = some x0 := hf 0 _ rfl
      rw [kInt_] at f0
      have f1 : DataW.trod enc Try.prog W 0 (fun _ => true) true m 9 (List.take (Try.prog.cellsOf 9) (List.drop 1 [c0, c1, c2])) = some x1 := hf 1 _ rfl
      rw [kStr_] at f1
      have f2 : DataW.trod enc Try.prog W 0 (fun _ => true) true m 3 (List.take (Try.prog.cellsOf 3) (List.drop 2 [c0, c1, c2])) = some x2 := hf 2 _ rfl
      rw [kInt_] at f2
      obtain ⟨n0, e0, _, w0⟩ := DataW.trod_int Try.underlying3 f0
      obtain ⟨n1, e1, _, w1⟩ := DataW.trod_string Try.underlying9 f1
      obtain ⟨n2, e2, _, w2⟩ := DataW.trod_int Try.underlying3 f2
      simp at e0 e1 e2
      exact ⟨⟨n0, n1, n2⟩, by rw [e0, e1, e2]; rfl, w0, w1, w2⟩
set_option maxRecDepth 100000 in
theorem open_toks {r : Reach} {b : Nat} {v : Value} {d : DataW H} (hv : Value.okWide Try.prog W r b 27 v) (h : DataW.Trod enc Try.prog W 0 (fun _ => true) true 27 v d p) (hlt : ∀ x ∈ p, x.block < W.heap.size)
    (hr : ∀ es sp, d = .slice es sp → (es.length + sp.length) * 32 ≤ reachBytes) :
    ∃ (a : Option Addr) (cap : Nat) (l : List TokV), v = .slice a l.length cap ∧ RToks W a cap l ∧ l.length * 32 ≤ reachBytes ∧ ∀ y ∈ l, TokIn y := by
  obtain ⟨a, len, cap, rfl⟩ := okWide_slice Try.underlying27 hv
  have hlen : len * 32 ≤ reachBytes := by
    obtain ⟨fuel, hf⟩ := h
    rcases open_slice Try.underlying27 hf with ⟨hc, _⟩ | ⟨a', len', cap', m, n, D, Pl, hc, _, _, _, _, hx, _⟩
    · simp [Value.cells] at hc; simp [reachBytes]; omega
    · simp [Value.cells] at hc
      obtain ⟨rfl, rfl, rfl⟩ := hc
      simp only [Prod.mk.injEq] at hx
      have := hr _ _ hx.1
      simp at this
      omega
  obtain ⟨xs, rfl, h1, h2⟩ := open_rows (cells := TokV.cells) TokIn Try.underlying27 kTok_ (by omega) (by simp [reachBytes] at hlen; omega) (fun n cs x hx _ => elem_tok hx) h hlt
  exact ⟨a, cap, xs, rfl, h1, hlen, h2⟩
end

end Go.Proofs.Ytfcijfngcplodaa
