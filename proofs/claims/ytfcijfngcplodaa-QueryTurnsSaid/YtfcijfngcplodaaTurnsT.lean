/-
  Layer 8's law QueryTurns: what is parsed.
-/
import Derived.Test.YtfcijfngcplodaaTurnsA
import Derived.Test.YtfcijfngcplodaaQu2
namespace Go.Proofs.Ytfcijfngcplodaa
open Go Go.RowKit Sy Pl
set_option linter.unusedVariables false
set_option linter.unusedSimpArgs false
/-- a reader that is at its end -/
abbrev Sy.rdA (n : Nat) (cell : Nat → Nat → AV) : AV := .vptr 2 (fun j => [.view n 3 cell, int n].getD j (.lit undef))
/-sy done5
fun (cell : Nat → Nat → AV) (d : D) => callK Try.prog (tableX (P := Try.prog) [] (fun _ _ => none) 400 60 8) (fun _ _ => none) 400 60 28 [rdA 5 cell] M0 d (fun v _ d' => .leaf (v, d'))
-/
/-sy done6
fun (cell : Nat → Nat → AV) (d : D) => callK Try.prog (tableX (P := Try.prog) [] (fun _ _ => none) 400 60 8) (fun _ _ => none) 400 60 28 [rdA 6 cell] M0 d (fun v _ d' => .leaf (v, d'))
-/
/-sy done7
fun (cell : Nat → Nat → AV) (d : D) => callK Try.prog (tableX (P := Try.prog) [] (fun _ _ => none) 400 60 8) (fun _ _ => none) 400 60 28 [rdA 7 cell] M0 d (fun v _ d' => .leaf (v, d'))
-/
/-sy done8
fun (cell : Nat → Nat → AV) (d : D) => callK Try.prog (tableX (P := Try.prog) [] (fun _ _ => none) 400 60 8) (fun _ _ => none) 400 60 28 [rdA 8 cell] M0 d (fun v _ d' => .leaf (v, d'))
-/
/-- out of a tree, where calls inside of regions that draw are reckoned, too -/
theorem Sy.toX (l : List (Con Try.prog)) (n m j : Nat) {f : FuncId} {args : List AV} {M : Mem} (d : D) (t : Tr (AV × Mem)) {G : AV × Mem → Prop}
    (h : callK Try.prog (tableX l (fun _ _ => none) n m j) (fun _ _ => none) n m f args M d (fun v M' _ => .leaf (v, M')) = t) (ht : t.Ok G) : CallTo Try.prog f args M fun v M' => G (v, M') :=
  have hlp : AllLoops Try.prog (fun _ _ => none) := lps_ok []
  call_to plain mixed (tableX_ok plain mixed l hlp n m j) hlp (h ▸ ht)
theorem Sy.toXV (l : List (Con Try.prog)) (n m j : Nat) {f : FuncId} {args : List AV} {M : Mem} (d : D) (t : Tr AV) {G : AV → Prop}
    (h : callK Try.prog (tableX l (fun _ _ => none) n m j) (fun _ _ => none) n m f args M d (fun v _ _ => .leaf v) = t) (ht : t.Ok G) : CallTo Try.prog f args M fun v _ => G v := fun w0 ρ us w h1 h2 =>
  have hlp : AllLoops Try.prog (fun _ _ => none) := lps_ok []
  (callK_ok plain mixed (tableX_ok plain mixed l hlp n m j) hlp n m f args M d (fun v _ _ => .leaf v) G (h ▸ ht) w0 ρ us w h1 h2).mono fun e w' ⟨ρ', u, v, M', q1, q2, q3, q4, _, q5⟩ => ⟨ρ', u, v, M', q1, q2, q3, q4, q5⟩
/-- the cells of the slice that a result holds -/
noncomputable def Sy.cellsOf (M : Mem) : AV → List AV
  | .tup [.agg [_, .sl b _ _ _ _], _] => match M.get b with | some B => B.cells | none => []
  | .sl b _ _ _ _ => match M.get b with | some B => B.cells | none => []
  | _ => []
noncomputable def Sy.pack (v : AV) (M : Mem) : AV := .tup [v, .agg (cellsOf M v)]
theorem Sy.toP (l : List (Con Try.prog)) (n m j : Nat) {f : FuncId} {args : List AV} {M : Mem} (d : D) (t : Tr AV) {G : AV → Prop}
    (h : callK Try.prog (tableX l (fun _ _ => none) n m j) (fun _ _ => none) n m f args M d (fun v M' _ => .leaf (pack v M')) = t) (ht : t.Ok G) : CallTo Try.prog f args M fun v M' => G (pack v M') := fun w0 ρ us w h1 h2 =>
  have hlp : AllLoops Try.prog (fun _ _ => none) := lps_ok []
  (callK_ok plain mixed (tableX_ok plain mixed l hlp n m j) hlp n m f args M d (fun v M' _ => .leaf (pack v M')) G (h ▸ ht) w0 ρ us w h1 h2).mono fun e w' ⟨ρ', u, v, M', q1, q2, q3, q4, _, q5⟩ => ⟨ρ', u, v, M', q1, q2, q3, q4, q5⟩
theorem Sy.done5 (cell : Nat → Nat → AV) : CallTo Try.prog 28 [rdA 5 cell] M0 fun v _ => v = boo true :=
  toXV [] 400 60 8 (.auto 1 .done) (.leaf (boo true)) (by kernel_rfl) rfl
theorem Sy.done6 (cell : Nat → Nat → AV) : CallTo Try.prog 28 [rdA 6 cell] M0 fun v _ => v = boo true :=
  toXV [] 400 60 8 (.auto 1 .done) (.leaf (boo true)) (by kernel_rfl) rfl
theorem Sy.done7 (cell : Nat → Nat → AV) : CallTo Try.prog 28 [rdA 7 cell] M0 fun v _ => v = boo true :=
  toXV [] 400 60 8 (.auto 1 .done) (.leaf (boo true)) (by kernel_rfl) rfl
theorem Sy.done8 (cell : Nat → Nat → AV) : CallTo Try.prog 28 [rdA 8 cell] M0 fun v _ => v = boo true :=
  toXV [] 400 60 8 (.auto 1 .done) (.leaf (boo true)) (by kernel_rfl) rfl
theorem Sy.done_n (n : Nat) (cell : Nat → Nat → AV) (h : 5 ≤ n ∧ n ≤ 8) : CallTo Try.prog 28 [rdA n cell] M0 fun v _ => v = boo true := by
  match n, h with
  | 5, _ => exact done5 cell
  | 6, _ => exact done6 cell
  | 7, _ => exact done7 cell
  | 8, _ => exact done8 cell
noncomputable abbrev Sy.cDone : Con Try.prog := atM 28 (fun args M => match args with | [.ptr b _] => (match M.get b with | some ⟨[.view n _ cell, .lit (.int .i64 at_)], _, _⟩ => (match Nat.beq n at_.toNat with | true => some ((⟨n, cell⟩ : VX), b) | false => none) | _ => none) | _ => none) (fun x => [rdA x.1.n x.1.cell]) (fun _ => boo true) (fun x => 5 ≤ x.1.n ∧ x.1.n ≤ 8) fun x hx => ⟨⟨_, rfl⟩, done_n x.1.n x.1.cell hx⟩
/-- a node that lies in a block -/
noncomputable def Sy.nodeIn (M : Mem) (b : Nat) : Option QNodeV := match M.get b with
  | some B => match intsA B.cells with
    | some [k, c, f, lo, ln, ld, ho, hn, hd] => some ⟨k, c, f, lo, ln, ld, ho, hn, hd⟩
    | _ => none
  | none => none
abbrev Sy.q1 (f lo ln ld ho hn hd : Int) : AV := .agg [.lit (.string ⟨#[]⟩), .view 1 9 (fun i j => [int 4, int 0, int f, int lo, int ln, int ld, int ho, int hn, int hd].getD j (.lit undef))]
abbrev Sy.v1 (f lo ln ld ho hn hd : Int) : AV := .view 1 9 (fun i j => [int 4, int 0, int f, int lo, int ln, int ld, int ho, int hn, int hd].getD j (.lit undef))
theorem Sy.v1_free (f lo ln ld ho hn hd : Int) : Free (v1 f lo ln ld ho hn hd) := by
  show ∀ i j : Nat, Free ([int 4, int 0, int f, int lo, int ln, int ld, int ho, int hn, int hd].getD j (.lit undef))
  intro i j
  match j with
  | 0 | 1 | 2 | 3 | 4 | 5 | 6 | 7 | 8 => exact trivial
  | j + 9 => exact trivial
/-sy cont1
fun (f lo ln ld ho hn hd : Int) (d : D) => callK Try.prog (tableX (P := Try.prog) [cRight1] (fun _ _ => none) 400 60 8) (fun _ _ => none) 400 60 32 [v1 f lo ln ld ho hn hd, .fn (.func 33) [] []] M0 d (fun v _ d' => .leaf (v, d'))
-/
theorem Sy.cont1 (f lo ln ld ho hn hd : Int) : CallTo Try.prog 32 [v1 f lo ln ld ho hn hd, .fn (.func 33) [] []] M0 fun v _ => v = boo (!rightV 4 0 f lo ln ld ho hn hd) :=
  toXV [cRight1] 400 60 8 (.auto 1 (.br .done (.auto 0 .done))) (.fork (!(@rightV (4 : Int) (0 : Int) f lo ln ld ho hn hd)) (.leaf (boo true)) (.leaf (boo false))) (by kernel_rfl) (by
    refine fork_ok (fun h => ?_) (fun h => ?_)
    · rw [Bool.not_eq_true'] at h; rw [h]; exact rfl
    · rw [Bool.not_eq_false'] at h; rw [h]; exact rfl)
noncomputable abbrev Sy.cCont1 (f lo ln ld ho hn hd : Int) : Con Try.prog := at1 32 [v1 f lo ln ld ho hn hd, .fn (.func 33) [] []] (boo (!rightV 4 0 f lo ln ld ho hn hd)) True fun _ => ⟨⟨⟨v1_free f lo ln ld ho hn hd, ⟨trivial, trivial⟩, trivial⟩, trivial⟩, cont1 f lo ln ld ho hn hd⟩
/-sy span1
fun (f lo ln ld ho hn hd : Int) (d : D) => callK Try.prog (tableX (P := Try.prog) [cHas] (fun _ _ => none) 400 60 8) (fun _ _ => none) 400 60 31 [q1 f lo ln ld ho hn hd, int 0] M0 d (fun v _ d' => .leaf (v, d'))
-/
theorem Sy.span1 (f lo ln ld ho hn hd : Int) : CallTo Try.prog 31 [q1 f lo ln ld ho hn hd, int 0] M0 fun v _ => v = int 1 :=
  toXV [cHas] 400 60 8 (.auto 13 .done) (.leaf (int (1 : Int))) (by kernel_rfl) rfl
theorem Sy.q1_free (f lo ln ld ho hn hd : Int) : Free (q1 f lo ln ld ho hn hd) := ⟨trivial, v1_free f lo ln ld ho hn hd, trivial⟩
noncomputable abbrev Sy.cSpan1 (f lo ln ld ho hn hd : Int) : Con Try.prog := at1 31 [q1 f lo ln ld ho hn hd, int 0] (int 1) True fun _ => ⟨⟨⟨q1_free f lo ln ld ho hn hd, trivial, trivial⟩, trivial⟩, span1 f lo ln ld ho hn hd⟩
/-sy right1
fun (f lo ln ld ho hn hd : Int) (d : D) => callK Try.prog (tableX (P := Try.prog) [cCont1 f lo ln ld ho hn hd, cSpan1 f lo ln ld ho hn hd] (fun _ _ => none) 400 60 8) (fun _ _ => none) 400 60 17 [q1 f lo ln ld ho hn hd] M0 d (fun v _ d' => .leaf (v, d'))
-/
theorem Sy.right1 (f lo ln ld ho hn hd : Int) : CallTo Try.prog 17 [q1 f lo ln ld ho hn hd] M0 fun v _ => v = boo (rightV 4 0 f lo ln ld ho hn hd) :=
  toXV [cCont1 f lo ln ld ho hn hd, cSpan1 f lo ln ld ho hn hd] 400 60 8 (.auto 17 (.yes (.auto 5 (.yes .done)))) (.need (@isSo (@And ([(@AV.agg [(@AV.lit (@Value.string (@ByteArray.mk (@Array.mk _ [])))), (@AV.view 1 9 (fun x970922 => (fun x82237 => ([(int (4 : Int)), (int (0 : Int)), (int f), (int lo), (int ln), (int ld), (int ho), (int hn), (int hd)].getD x82237 (@AV.lit (@Value.tuple (@Array.mk _ [])))))))]), (int (0 : Int))] = [(@AV.agg [(@AV.lit (@Value.string (@ByteArray.mk (@Array.mk _ [])))), (@AV.view 1 9 (fun x108581 => (fun x890840 => ([(int (4 : Int)), (int (0 : Int)), (int f), (int lo), (int ln), (int ld), (int ho), (int hn), (int hd)].getD x890840 (@AV.lit (@Value.tuple (@Array.mk _ [])))))))]), (int (0 : Int))]) True)) (.need (@isSo (@And ([(@AV.view 1 9 (fun x428816 => (fun x966087 => ([(int (4 : Int)), (int (0 : Int)), (int f), (int lo), (int ln), (int ld), (int ho), (int hn), (int hd)].getD x966087 (@AV.lit (@Value.tuple (@Array.mk _ []))))))), (@AV.fn (@Fn.func 33) [] [])] = [(@AV.view 1 9 (fun x580950 => (fun x843170 => ([(int (4 : Int)), (int (0 : Int)), (int f), (int lo), (int ln), (int ld), (int ho), (int hn), (int hd)].getD x843170 (@AV.lit (@Value.tuple (@Array.mk _ []))))))), (@AV.fn (@Fn.func 33) [] [])]) True)) (.leaf (boo (!(!(@rightV (4 : Int) (0 : Int) f lo ln ld ho hn hd))))))) (by kernel_rfl) (need_so ⟨rfl, trivial⟩ (need_so ⟨rfl, trivial⟩ (by
    show boo (!(!(rightV 4 0 f lo ln ld ho hn hd))) = boo (rightV 4 0 f lo ln ld ho hn hd)
    rw [Bool.not_not])))
theorem Sy.conv_v1 {M : Mem} {b e : Nat} {cp : Option Nat} {R : Option Rw} (f lo ln ld ho hn hd : Int) (cs : List AV) (hcs : cs = [int 4, int 0, int f, int lo, int ln, int ld, int ho, int hn, int hd]) (hb : M.get b = some ⟨cs, e, R⟩) : Conv1 M (.sl b 0 1 cp 9) (v1 f lo ln ld ho hn hd) :=
  Conv1.sl hb fun i j hi hj => by
    have : i = 0 := by omega
    subst this
    simp only
    rw [hcs]
    have : j = 0 ∨ j = 1 ∨ j = 2 ∨ j = 3 ∨ j = 4 ∨ j = 5 ∨ j = 6 ∨ j = 7 ∨ j = 8 := by omega
    rcases this with rfl | rfl | rfl | rfl | rfl | rfl | rfl | rfl | rfl <;> exact ⟨_, rfl, trivial, rfl, rfl⟩
theorem Sy.conv_q1 {M : Mem} {b e : Nat} {cp : Option Nat} {R : Option Rw} (f lo ln ld ho hn hd : Int) (cs : List AV) (hcs : cs = [int 4, int 0, int f, int lo, int ln, int ld, int ho, int hn, int hd]) (hb : M.get b = some ⟨cs, e, R⟩) : Conv M [.agg [.lit (.string ⟨#[]⟩), .sl b 0 1 cp 9]] [q1 f lo ln ld ho hn hd] :=
  Conv.cons (Conv1.agg (Conv.cons (Conv1.lit _ _) (Conv.cons (conv_v1 f lo ln ld ho hn hd cs hcs hb) (Conv.nil _)))) (Conv.nil _)
/-- whether a query of one feature may be; its node lies in a block of the run's own -/
noncomputable abbrev Sy.cRightM : Con Try.prog := atM 17 (fun args M => match args with | [.agg [_, .sl b _ _ _ _]] => nodeIn M b | _ => none) (fun n => [q1 n.feat n.lo n.ln n.ld n.ho n.hn n.hd]) (fun n => boo (rightV 4 0 n.feat n.lo n.ln n.ld n.ho n.hn n.hd)) (fun _ => True) fun n _ => ⟨⟨_, rfl⟩, right1 n.feat n.lo n.ln n.ld n.ho n.hn n.hd⟩
abbrev Sy.tv (n : Nat) (l : List TokV) : AV := .view n 3 (fun i j => .lit ((TokV.cells (List.getD l i tok0)).getD j undef))
def aS (l : List Nat) : ByteArray := ⟨(l.map UInt8.ofNat).toArray⟩
end Go.Proofs.Ytfcijfngcplodaa
