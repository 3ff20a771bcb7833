/-
  Layer 8's law QueryTurns: contracts that owe little.
-/
import Derived.Test.YtfcijfngcplodaaTurnsU
namespace Go.Proofs.Ytfcijfngcplodaa
open Go Go.RowKit Sy Pl
set_option linter.unusedVariables false
set_option linter.unusedSimpArgs false
namespace Sy
/-- tokens -/
structure TokOk (cell : Nat → Nat → AV) : Prop where
  is : ∃ c : Nat → TokV, cell = fun i j => .lit ((TokV.cells (c i)).getD j undef)
theorem TokOk.isTok {cell : Nat → Nat → AV} (h : TokOk cell) : IsTok cell := by
  obtain ⟨c, rfl⟩ := h.is
  exact isTok_of c
theorem TokOk.free {cell : Nat → Nat → AV} (h : TokOk cell) (i j : Nat) : Free (cell i j) := by
  obtain ⟨c, rfl⟩ := h.is
  exact trivial
theorem TokOk.of (c : Nat → TokV) : TokOk (fun i j => .lit ((TokV.cells (c i)).getD j undef)) := ⟨c, rfl⟩
noncomputable def atX2 {X : Type} (f : FuncId) (get : List AV → Option X) (args0 : X → List AV) (v0 : X → AV) (C : X → Prop) (hget : ∀ args x, get args = some x → args = args0 x) (h : ∀ x, C x → (Frees (args0 x) ∧ Free (v0 x)) ∧ CallTo Try.prog f (args0 x) M0 fun v _ => v = v0 x) : Con Try.prog :=
  Con.pure f (fun args => match get args with | some x => some (v0 x) | none => none) (fun args => match get args with | some x => some (isSo (C x)) | none => none) fun args v hv hob => by
    cases hg : get args with
    | none => rw [hg] at hv; cases hv
    | some x =>
      rw [hg] at hv hob
      simp at hv
      subst hv
      have h1 := hob _ rfl
      rw [isSo_t] at h1
      obtain ⟨⟨q1, q2⟩, q3⟩ := h x h1
      rw [hget args x hg]
      exact ⟨q1, q3.mono fun v _ e => ⟨e ▸ q2, e⟩⟩
noncomputable def atM2 {X : Type} (f : FuncId) (get : List AV → Mem → Option X) (args1 : X → List AV) (v0 : X → AV) (C : X → Prop) (hconv : ∀ args M x, get args M = some x → C x → Conv M args (args1 x)) (h : ∀ x, C x → (∃ u, toVal (v0 x) = some u) ∧ CallTo Try.prog f (args1 x) M0 fun v _ => v = v0 x) : Con Try.prog where
  f := f
  run := fun args M => match get args M with | some x => some (v0 x, M) | none => none
  ob := fun args M => match get args M with | some x => some (isSo (C x)) | none => none
  ok := fun args M v M' hr hob => by
    cases hg : get args M with
    | none => rw [hg] at hr; cases hr
    | some x =>
      rw [hg] at hr hob
      have h1 := hob _ rfl
      rw [isSo_t] at h1
      exact (atM f get args1 v0 C h).ok args M v M' (by show (match get args M with | some x => some (v0 x, M) | none => none) = _; rw [hg]; exact hr) (fun b hb => by
        have e : b = isSo (Conv M args (args1 x) ∧ C x) := by
          have hb' : (match get args M with | some x => some (isSo (Conv M args (args1 x) ∧ C x)) | none => none) = some b := hb
          rw [hg] at hb'
          simp at hb'; exact hb'.symm
        rw [e, isSo_t]
        exact ⟨hconv args M x hg h1, h1⟩)
def getT : List AV → Option VX := fun args => match args with
  | [.view n s cell] => match Nat.beq s 3 && Nat.ble n 100000 with
    | true => some ⟨n, cell⟩
    | false => none
  | _ => none
theorem getT_eq {args : List AV} {x : VX} (h : getT args = some x) : args = [.view x.n 3 x.cell] ∧ x.n ≤ 100000 := by
  unfold getT at h
  split at h
  · split at h
    · rename_i n s cell hc
      simp only [Bool.and_eq_true, Nat.ble_eq] at hc
      have := Nat.eq_of_beq_eq_true hc.1
      simp at h; subst h; subst this
      exact ⟨rfl, hc.2⟩
    · cases h
  · cases h
theorem clone_any (n : Nat) (cell : Nat → Nat → AV) (h1 : IsTok cell) (h2 : n ≤ 100000) : (Frees [.view n 3 cell] ∧ Free (.view n 3 cell)) ∧ CallTo Try.prog 24 [.view n 3 cell] M0 fun v _ => v = .view n 3 cell := by
  have hfree : Free (.view n 3 cell) := by rw [h1]; exact fun i j => trivial
  refine ⟨⟨⟨hfree, trivial⟩, hfree⟩, ?_⟩
  have hl : (toks n cell).length = n := toks_len n cell
  have hC : limC (toks n cell) := by unfold limC; rw [hl]; exact h2
  have key : ∀ ρ u, rel ρ (.view n 3 cell) u ↔ rel ρ (kv (toks n cell)) u := fun ρ u => by
    have e : ∀ i j, i < n → j < 3 → cell i j = .lit ((TokV.cells ((toks n cell).getD i tok0)).getD j undef) := fun i j hi hj => by
      rw [toks_get n cell hi]; exact congrFun (congrFun h1 i) j
    show rel ρ (.view n 3 cell) u ↔ rel ρ (.view (toks n cell).length 3 _) u
    rw [hl]
    exact ⟨fun h => rel_view_congr e h, fun h => rel_view_congr (fun i j hi hj => (e i j hi hj).symm) h⟩
  have := (of_walkV (d := tok0) (toks n cell) (toks n cell) [] (fun x => x.len) tok_one (by decide) hC.lim (fun w a cap hR => clone_toks hR hC) M0).mono fun v M' hv => hv.1
  refine CallTo.as ((this.congr fun ρ us hr => ?_).mono fun v _ hv => ?_)
  · simp only [rels] at hr ⊢
    obtain ⟨u, us', rfl, r1, r2⟩ := hr
    exact ⟨u, us', rfl, (key ρ u).1 r1, r2⟩
  · subst hv
    exact fun ρ u hr => (key ρ u).2 hr
structure CloneOk (x : VX) : Prop where
  tok : TokOk x.cell
  n : x.n ≤ 100000
noncomputable abbrev cClone2 : Con Try.prog := atX2 24 getT (fun x => [.view x.n 3 x.cell]) (fun x => .view x.n 3 x.cell) CloneOk (fun args x h => (getT_eq h).1) fun x h => clone_any x.n x.cell h.tok.isTok h.n
structure DoneOk (x : VX) : Prop where
  tok : TokOk x.cell
  n : 5 ≤ x.n ∧ x.n ≤ 8
noncomputable def getD (args : List AV) (M : Mem) : Option VX := match args with
  | [.ptr b o] => match Nat.beq o 0 with
    | true => match M.get b with
      | some ⟨[.view n s cell, .lit (.int .i64 k)], _, _⟩ => match Nat.beq s 3 && (Nat.beq n k.toNat && Nat.ble 1 n) with
        | true => some ⟨n, cell⟩
        | false => none
      | _ => none
    | false => none
  | _ => none
theorem getD_conv {args : List AV} {M : Mem} {x : VX} (h : getD args M = some x) (hf : ∀ i j, Free (x.cell i j)) : Conv M args [rdA x.n x.cell] := by
  unfold getD at h
  split at h
  · split at h
    · rename_i b o ho
      have := Nat.eq_of_beq_eq_true ho
      subst this
      split at h
      · rename_i n s cell k e R hb
        split at h
        · rename_i hc
          simp only [Bool.and_eq_true, Nat.ble_eq] at hc
          have h1 := Nat.eq_of_beq_eq_true hc.1
          have h2 := Nat.eq_of_beq_eq_true hc.2.1
          simp at h; subst h; subst h1
          exact Conv.rd hb hf (by have := hc.2.2; simp only at *; omega)
        · cases h
      · cases h
    · cases h
  · cases h
noncomputable abbrev cDone2 : Con Try.prog := atM2 28 getD (fun x => [rdA x.n x.cell]) (fun _ => boo true) DoneOk (fun args M x h hC => getD_conv h hC.tok.free) fun x hx => ⟨⟨_, rfl⟩, done_n x.n x.cell hx.n⟩
structure RightOk (x : QNodeV) : Prop where
  k : x.kind = 4
  c : x.count = 0
noncomputable def getR (args : List AV) (M : Mem) : Option QNodeV := match args with
  | [.agg [.lit (.string s), .sl b o n _ w]] => match Nat.beq s.size 0 && (Nat.beq o 0 && (Nat.beq n 1 && Nat.beq w 9)) with
    | true => nodeIn M b
    | false => none
  | _ => none
theorem nodeIn_get {M : Mem} {b : Nat} {x : QNodeV} (h : nodeIn M b = some x) : ∃ e R, M.get b = some ⟨[int x.kind, int x.count, int x.feat, int x.lo, int x.ln, int x.ld, int x.ho, int x.hn, int x.hd], e, R⟩ := by
  unfold nodeIn at h
  split at h
  · rename_i B hB
    split at h
    · rename_i k c f lo ln ld ho hn hd hi
      simp at h; subst h
      have := intsA_eq hi
      refine ⟨B.elem, B.rows, ?_⟩
      rw [hB]
      congr 1
      obtain ⟨cs, e, R⟩ := B
      simp only at this
      rw [this]
      rfl
    · cases h
  · cases h
theorem size0 {s : ByteArray} (h : s.size = 0) : s = ⟨#[]⟩ := by
  apply ByteArray.ext
  exact Array.eq_empty_of_size_eq_zero h
theorem getR_conv {args : List AV} {M : Mem} {x : QNodeV} (h : getR args M = some x) (hk : RightOk x) : Conv M args [q1 x.feat x.lo x.ln x.ld x.ho x.hn x.hd] := by
  unfold getR at h
  split at h
  · rename_i s b o n c w
    split at h
    · rename_i hc
      simp only [Bool.and_eq_true] at hc
      have e1 := size0 (Nat.eq_of_beq_eq_true hc.1)
      have e2 := Nat.eq_of_beq_eq_true hc.2.1
      have e3 := Nat.eq_of_beq_eq_true hc.2.2.1
      have e4 := Nat.eq_of_beq_eq_true hc.2.2.2
      subst e1 e2 e3 e4
      obtain ⟨e, R, hb⟩ := nodeIn_get h
      rw [hk.k, hk.c] at hb
      exact conv_q1 _ _ _ _ _ _ _ _ rfl hb
    · cases h
  · cases h
noncomputable abbrev cRight2 : Con Try.prog := atM2 17 getR (fun n => [q1 n.feat n.lo n.ln n.ld n.ho n.hn n.hd]) (fun n => boo (rightV 4 0 n.feat n.lo n.ln n.ld n.ho n.hn n.hd)) RightOk (fun args M x h hC => getR_conv h hC) fun n _ => ⟨⟨_, rfl⟩, right1 n.feat n.lo n.ln n.ld n.ho n.hn n.hd⟩
end Sy
end Go.Proofs.Ytfcijfngcplodaa
