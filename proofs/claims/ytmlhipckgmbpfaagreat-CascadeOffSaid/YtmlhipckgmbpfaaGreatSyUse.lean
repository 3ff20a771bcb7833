/-
  The symbolic interpreter, used on this program.
-/
import Derived.Test.YtmlhipckgmbpfaaGreatSyC
import Derived.Test.YtmlhipckgmbpfaaGreatProg
namespace Go.Proofs.YtmlhipckgmbpfaaGreat
open Go Go.RowKit
set_option linter.unusedVariables false
theorem Sy.plainly_of {P : Program} (h : (P.funcs.toList.all fun fn => !(fn.name == "runtime.NumGoroutine")) = true) : Sy.Plainly P := fun f fn hf => by
  have := List.all_eq_true.1 h fn (by
    have := Array.mem_of_getElem? hf
    simpa using this)
  simpa using this
namespace Sy
theorem plain : Plainly Tryz.prog := plainly_of (by kernel_rfl)
theorem mixed : Tryz.prog.follows .mixedOrders = true := by kernel_rfl
/-- a contract out of a tree, of this program -/
theorem to (l : List (Con Tryz.prog)) (lp : List (Lp Tryz.prog)) (n m : Nat) {f : FuncId} {args : List AV} {M : Mem} (d : D) (t : Tr (AV × Mem)) {G : AV × Mem → Prop}
    (h : callK Tryz.prog (table l) (lpOf lp) n m f args M d (fun v M' _ => .leaf (v, M')) = t) (ht : t.Ok G) : CallTo Tryz.prog f args M fun v M' => G (v, M') :=
  call_to plain mixed (table_ok l) (lps_ok lp) (h ▸ ht)
/-- the same, where no place is given or taken -/
theorem toV (l : List (Con Tryz.prog)) (lp : List (Lp Tryz.prog)) (n m : Nat) {f : FuncId} {args : List AV} {M : Mem} (d : D) (t : Tr AV) {G : AV → Prop}
    (h : callK Tryz.prog (table l) (lpOf lp) n m f args M d (fun v _ _ => .leaf v) = t) (ht : t.Ok G) : CallTo Tryz.prog f args M fun v _ => G v := fun w0 ρ us w h1 h2 =>
  (callK_ok plain mixed (table_ok l) (lps_ok lp) n m f args M d (fun v _ _ => .leaf v) G (h ▸ ht) w0 ρ us w h1 h2).mono fun e w' ⟨ρ', u, v, M', q1, q2, q3, q4, _, q5⟩ => ⟨ρ', u, v, M', q1, q2, q3, q4, q5⟩
/-- a fixed call, reckoned: also calls inside of regions that draw, so deep -/
theorem closed (n m j : Nat) {f : FuncId} {G : AV → Prop} (v0 : AV)
    (h : callK Tryz.prog (tableX (P := Tryz.prog) [] (fun _ _ => none) n m j) (fun _ _ => none) n m f [] ⟨0, 0, []⟩ (.auto 100000000 .done) (fun v _ _ => .leaf v) = .leaf v0) (hG : G v0) : CallTo Tryz.prog f [] ⟨0, 0, []⟩ fun v _ => G v := fun w0 ρ us w h1 h2 =>
  have hlp : AllLoops Tryz.prog (fun _ _ => none) := lps_ok []
  (callK_ok plain mixed (tableX_ok plain mixed [] hlp n m j) hlp n m f [] ⟨0, 0, []⟩ (.auto 100000000 .done) (fun v _ _ => .leaf v) G (h ▸ hG) w0 ρ us w h1 h2).mono fun e w' ⟨ρ', u, v, M', q1, q2, q3, q4, _, q5⟩ => ⟨ρ', u, v, M', q1, q2, q3, q4, q5⟩
/-- what a run finds -/
noncomputable abbrev reckV (l : List (Con Tryz.prog)) (lp : List (Lp Tryz.prog)) (n m : Nat) (f : FuncId) (args : List AV) (M : Mem) (d : D) : Tr (AV × D) := callK Tryz.prog (table l) (lpOf lp) n m f args M d (fun v _ d' => .leaf (v, d'))
noncomputable abbrev reck (l : List (Con Tryz.prog)) (lp : List (Lp Tryz.prog)) (n m : Nat) (f : FuncId) (args : List AV) (M : Mem) (d : D) : Tr ((AV × Mem) × D) := callK Tryz.prog (table l) (lpOf lp) n m f args M d (fun v M' d' => .leaf ((v, M'), d'))
/-- a loop's round, reckoned -/
noncomputable abbrev reckL (l : List (Con Tryz.prog)) (lp : List (Lp Tryz.prog)) (k m : Nat) (f : FuncId) (key : Nat) (p : List Bool) (F : Fr) (M : Mem) (d : D) : Tr ((Ex × Fr × Mem) × D) := codeK Tryz.prog (table l) (callK Tryz.prog (table l) (lpOf lp) k m) (lpOf lp f) k (theBody Tryz.prog f key) F M d fun ex F' M' d' => .leaf ((ex, maskF p F', M'), d')
theorem roundL (l : List (Con Tryz.prog)) (lp : List (Lp Tryz.prog)) (k m : Nat) (f : FuncId) (key : Nat) {fn : Func} {c : Code} (hf : Tryz.prog.funcs[f]? = some fn) (hb : fn.body = some c) (hin : Nat.beq (loopsIn Tryz.prog f key).length 1 = true) (p : List Bool) {n : Nat} {F : Fr} {M : Mem} (d : D) (t : Tr (Ex × Fr × Mem)) {G : Ex → Fr → Mem → Prop}
    (h : codeK Tryz.prog (table l) (callK Tryz.prog (table l) (lpOf lp) k m) (lpOf lp f) k (theBody Tryz.prog f key) F M d (fun ex F' M' _ => .leaf (ex, maskF p F', M')) = t)
    (ht : t.Ok fun r => match r.1 with | .norm => LoopTo Tryz.prog (theBody Tryz.prog f key) n r.2.1 r.2.2 G | .exit id => G (.exit id) r.2.1 r.2.2 | .ret => G .ret r.2.1 r.2.2) : LoopTo Tryz.prog (theBody Tryz.prog f key) (n + 1) F M G :=
  roundP plain mixed l lp k m f key hf hb hin p d t h ht
noncomputable abbrev probeV (pr : Nat → Fr → Mem → Tr (Ex × Fr × Mem)) (l : List (Con Tryz.prog)) (n m : Nat) (f : FuncId) (args : List AV) (M : Mem) (d : D) : Tr (AV × D) := callK Tryz.prog (table l) (fun _ key => some (pr key)) n m f args M d (fun v _ d' => .leaf (v, d'))
abbrev int (n : Int) : AV := .lit (.int .i64 n)
abbrev boo (b : Bool) : AV := .lit (.bool b)
abbrev M0 : Mem := ⟨0, 0, []⟩

theorem eqI_t {a b : Int} : (eqI a b = true) = (a = b) := by rw [eqI_eq]; simp
theorem eqI_f {a b : Int} : (eqI a b = false) = ¬ (a = b) := by rw [eqI_eq]; simp
theorem leI_t {a b : Int} : (leI a b = true) = (a ≤ b) := by rw [leI_eq]; simp
theorem leI_f {a b : Int} : (leI a b = false) = ¬ (a ≤ b) := by rw [leI_eq]; simp
theorem inR_t {k : Int} {n : Nat} : (inR k n = true) = (0 ≤ k ∧ k < n) := by rw [inR_eq]; simp
theorem inR_f {k : Int} {n : Nat} : (inR k n = false) = ¬ (0 ≤ k ∧ k < n) := by rw [inR_eq]; simp
theorem eqI_d (a b : Int) : eqI a b = decide (a = b) := by rw [eqI_eq, Bool.eq_iff_iff]; simp
theorem leI_d (a b : Int) : leI a b = decide (a ≤ b) := by rw [leI_eq]
theorem inR_d (k : Int) (n : Nat) : inR k n = decide (0 ≤ k ∧ k < n) := inR_eq k n

theorem boo_iff (a b : Bool) : (AV.lit (Value.bool a) = AV.lit (Value.bool b)) = (a = true ↔ b = true) := by cases a <;> cases b <;> simp
theorem int_iff (a b : Int) : (AV.lit (Value.int .i64 a) = AV.lit (Value.int .i64 b)) = (a = b) := by simp
/-! ### Contracts of plain values -/
def intA : AV → Option Int
  | .lit (.int .i64 n) => some n
  | _ => none
theorem intA_eq {v : AV} {n : Int} (h : intA v = some n) : v = int n := by
  unfold intA at h
  split at h
  · simp at h; subst h; rfl
  · cases h
/-- a cell, or all cells of a struct, as numbers -/
def intsA : List AV → Option (List Int)
  | [] => some []
  | v :: vs => match intA v, intsA vs with
    | some n, some l => some (n :: l)
    | _, _ => none
theorem intsA_eq : ∀ {vs : List AV} {l : List Int}, intsA vs = some l → vs = l.map int
  | [], l, h => by simp [intsA] at h; subst h; rfl
  | v :: vs, l, h => by
    simp only [intsA] at h
    split at h
    · rename_i n l' h1 h2
      simp at h; subst h
      rw [intA_eq h1, intsA_eq h2]; rfl
    · cases h
theorem frees_ints : ∀ l : List Int, Frees (l.map int)
  | [] => trivial
  | _ :: l => ⟨trivial, frees_ints l⟩
noncomputable def int1 (f : FuncId) (g : Int → AV) (hg : ∀ x, Free (g x)) (h : ∀ x, CallTo Tryz.prog f [int x] M0 fun v _ => v = g x) : Con Tryz.prog :=
  Con.pure f (fun args => match args with | [a] => (intA a).map g | _ => none) (fun _ => none) fun args v hv _ => by
    split at hv
    · rename_i a
      cases ha : intA a with
      | none => rw [ha] at hv; cases hv
      | some x =>
        rw [ha] at hv
        simp at hv; subst hv
        rw [intA_eq ha]
        exact ⟨⟨trivial, trivial⟩, (h x).mono fun v _ e => ⟨e ▸ hg x, e⟩⟩
    · cases hv
noncomputable def int2 (f : FuncId) (g : Int → Int → AV) (hg : ∀ x y, Free (g x y)) (h : ∀ x y, CallTo Tryz.prog f [int x, int y] M0 fun v _ => v = g x y) : Con Tryz.prog :=
  Con.pure f (fun args => match args with | [a, b] => (match intA a, intA b with | some x, some y => some (g x y) | _, _ => none) | _ => none) (fun _ => none) fun args v hv _ => by
    split at hv
    · rename_i a b
      split at hv
      · rename_i x y hx hy
        simp at hv; subst hv
        rw [intA_eq hx, intA_eq hy]
        exact ⟨⟨trivial, trivial, trivial⟩, (h x y).mono fun v _ e => ⟨e ▸ hg x y, e⟩⟩
      · cases hv
    · cases hv
noncomputable def int3 (f : FuncId) (g : Int → Int → Int → AV) (hg : ∀ x y z, Free (g x y z)) (h : ∀ x y z, CallTo Tryz.prog f [int x, int y, int z] M0 fun v _ => v = g x y z) : Con Tryz.prog :=
  Con.pure f (fun args => match args with | [a, b, c] => (match intA a, intA b, intA c with | some x, some y, some z => some (g x y z) | _, _, _ => none) | _ => none) (fun _ => none) fun args v hv _ => by
    split at hv
    · rename_i a b c
      split at hv
      · rename_i x y z hx hy hz
        simp at hv; subst hv
        rw [intA_eq hx, intA_eq hy, intA_eq hz]
        exact ⟨⟨trivial, trivial, trivial, trivial⟩, (h x y z).mono fun v _ e => ⟨e ▸ hg x y z, e⟩⟩
      · cases hv
    · cases hv
/-- arguments as numbers: '0' a number, 'k + 1' a struct of k numbers -/
def rd : List Nat → List AV → Option (List Int)
  | [], [] => some []
  | 0 :: s, a :: xs => match intA a, rd s xs with
    | some n, some l => some (n :: l)
    | _, _ => none
  | (k + 1) :: s, .agg cs :: xs => match intsA cs, rd s xs with
    | some l1, some l2 => match Nat.beq l1.length k with
      | true => some (l1 ++ l2)
      | false => none
    | _, _ => none
  | _, _ => none
def wr : List Nat → List Int → List AV
  | 0 :: s, n :: l => int n :: wr s l
  | (k + 1) :: s, l => .agg ((l.take k).map int) :: wr s (l.drop k)
  | _, _ => []
theorem rd_eq : ∀ {s : List Nat} {xs : List AV} {l : List Int}, rd s xs = some l → wr s l = xs ∧ Frees xs
  | [], [], l, h => by simp [rd] at h; subst h; exact ⟨rfl, trivial⟩
  | 0 :: s, a :: xs, l, h => by
    simp only [rd] at h
    split at h
    · rename_i n l' h1 h2
      simp at h; subst h
      obtain ⟨q1, q2⟩ := rd_eq h2
      rw [intA_eq h1]
      exact ⟨by simp only [wr, q1], trivial, q2⟩
    · cases h
  | (k + 1) :: s, a :: xs, l, h => by
    cases a <;> simp only [rd] at h <;> try (cases h; done)
    rename_i cs
    split at h
    · rename_i l1 l2 h1 h2
      split at h
      · rename_i hk
        simp at h; subst h
        obtain ⟨q1, q2⟩ := rd_eq h2
        have hk' := Nat.eq_of_beq_eq_true hk
        rw [intsA_eq h1]
        exact ⟨by simp [wr, ← hk', q1], frees_ints l1, q2⟩
      · cases h
    · cases h
  | [], _ :: _, l, h => by simp [rd] at h
  | 0 :: _, [], l, h => by simp [rd] at h
  | (k + 1) :: _, [], l, h => by simp [rd] at h
noncomputable def ints (f : FuncId) (s : List Nat) (g : List Int → Option AV) (h : ∀ l v, g l = some v → Free v ∧ CallTo Tryz.prog f (wr s l) M0 fun v' _ => v' = v) : Con Tryz.prog :=
  Con.pure f (fun args => match rd s args with | some l => g l | none => none) (fun _ => none) fun args v hv _ => by
    split at hv
    · rename_i l hl
      obtain ⟨q1, q2⟩ := rd_eq hl
      obtain ⟨q3, q4⟩ := h l v hv
      rw [q1] at q4
      exact ⟨q2, q4.mono fun v' _ e => ⟨e ▸ q3, e⟩⟩
    · cases hv
noncomputable def ints4 (f : FuncId) (s : List Nat) (g : Int → Int → Int → Int → AV) (hg : ∀ a b c d, Free (g a b c d)) (h : ∀ a b c d, CallTo Tryz.prog f (wr s [a, b, c, d]) M0 fun v' _ => v' = g a b c d) : Con Tryz.prog :=
  ints f s (fun l => match l with | [a, b, c, d] => some (g a b c d) | _ => none) fun l v hv => by
    split at hv
    · simp at hv; subst hv; exact ⟨hg _ _ _ _, h _ _ _ _⟩
    · cases hv
noncomputable def ints9 (f : FuncId) (s : List Nat) (g : Int → Int → Int → Int → Int → Int → Int → Int → Int → AV) (hg : ∀ a b c d x y z u t, Free (g a b c d x y z u t)) (h : ∀ a b c d x y z u t, CallTo Tryz.prog f (wr s [a, b, c, d, x, y, z, u, t]) M0 fun v' _ => v' = g a b c d x y z u t) : Con Tryz.prog :=
  ints f s (fun l => match l with | [a, b, c, d, x, y, z, u, t] => some (g a b c d x y z u t) | _ => none) fun l v hv => by
    split at hv
    · simp at hv; subst hv; exact ⟨hg _ _ _ _ _ _ _ _ _, h _ _ _ _ _ _ _ _ _⟩
    · cases hv
/-- at those arguments alone, where that is so -/
noncomputable def at1 (f : FuncId) (args0 : List AV) (v0 : AV) (C : Prop) (h : C → (Frees args0 ∧ Free v0) ∧ CallTo Tryz.prog f args0 M0 fun v _ => v = v0) : Con Tryz.prog :=
  Con.pure f (fun _ => some v0) (fun args => some (isSo (args = args0 ∧ C))) fun args v hv hob => by
    simp at hv
    subst hv
    have h1 := hob _ rfl
    rw [isSo_t] at h1
    obtain ⟨rfl, hC⟩ := h1
    obtain ⟨⟨q1, q2⟩, q3⟩ := h hC
    exact ⟨q1, q3.mono fun v _ e => ⟨e ▸ q2, e⟩⟩
/-- at arguments of a form, where that is so -/
noncomputable def atX {X : Type} (f : FuncId) (get : List AV → Option X) (args0 : X → List AV) (v0 : X → AV) (C : X → Prop) (h : ∀ x, C x → (Frees (args0 x) ∧ Free (v0 x)) ∧ CallTo Tryz.prog f (args0 x) M0 fun v _ => v = v0 x) : Con Tryz.prog :=
  Con.pure f (fun args => match get args with | some x => some (v0 x) | none => none) (fun args => match get args with | some x => some (isSo (args = args0 x ∧ C x)) | none => none) fun args v hv hob => by
    cases hg : get args with
    | none => rw [hg] at hv; cases hv
    | some x =>
      rw [hg] at hv hob
      simp at hv
      subst hv
      have h1 := hob _ rfl
      rw [isSo_t] at h1
      obtain ⟨rfl, hC⟩ := h1
      obtain ⟨⟨q1, q2⟩, q3⟩ := h x hC
      exact ⟨q1, q3.mono fun v _ e => ⟨e ▸ q2, e⟩⟩
/-- a callee that is given a block that nobody writes any more: it is forgotten behind -/
noncomputable def atP (f : FuncId) (b : Nat) (B : Blk) (rest : List AV) (v0 : AV) (C : Prop) (h : C → (Frees rest ∧ Free v0 ∧ Frees B.cells) ∧ CallTo Tryz.prog f (.vptr B.cells.length (fun j => B.cells.getD j (.lit undef)) :: rest) M0 fun v _ => v = v0) : Con Tryz.prog where
  f := f
  run := fun _ M => some (v0, M.put b none)
  ob := fun args M => some (isSo (args = .ptr b 0 :: rest ∧ M.get b = some B ∧ C))
  ok := fun args M v M' hr hob => by
    have h1 := hob _ rfl
    rw [isSo_t] at h1
    obtain ⟨rfl, hb, hC⟩ := h1
    simp at hr
    obtain ⟨rfl, rfl⟩ := hr
    obtain ⟨⟨q1, q2, q3⟩, q4⟩ := h hC
    exact ⟨Grow.put M b none, (CallTo.thaw (q4.mono fun v _ e => ⟨e ▸ q2, e⟩) q3 q1 hb).mono fun v' M' ⟨r1, r2⟩ => ⟨r2, r1⟩⟩
/-- of a text -/
noncomputable def str1 (f : FuncId) (g : ByteArray → AV) (C : ByteArray → Prop) (hg : ∀ s, Free (g s)) (h : ∀ s, C s → CallTo Tryz.prog f [.lit (.string s)] M0 fun v _ => v = g s) : Con Tryz.prog :=
  Con.pure f (fun args => match args with | [.lit (.string s)] => some (g s) | _ => none) (fun args => match args with | [.lit (.string s)] => some (isSo (C s)) | _ => none) fun args v hv hob => by
    split at hv
    · rename_i s
      simp at hv; subst hv
      have h1 := hob _ rfl
      rw [isSo_t] at h1
      exact ⟨⟨trivial, trivial⟩, (h s h1).mono fun v _ e => ⟨e ▸ hg s, e⟩⟩
    · cases hv
/-- a contract of the walks -/
theorem old {f : FuncId} {us : List Value} {u : Value} (h : ∀ w, Calls Tryz.prog f us.toArray w fun e w' => e = .returned u ∧ w = w') : CallTo Tryz.prog f (us.map .lit) M0 fun v _ => v = .lit u :=
  (CallTo.of_calls (us := us) (fun w => (h w).mono fun e w' ⟨h1, h2⟩ => ⟨h1, h2 ▸ Below.refl _ _⟩) M0).mono fun _ _ ⟨h, _⟩ => h
end Sy
end Go.Proofs.YtmlhipckgmbpfaaGreat
