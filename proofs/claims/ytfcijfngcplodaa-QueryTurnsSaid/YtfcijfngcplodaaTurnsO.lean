/-
  Layer 8's law QueryTurns: the tokens of a comparison.
-/
import Derived.Test.YtfcijfngcplodaaTurnsC
import Derived.Test.YtfcijfngcplodaaKnown08
namespace Go.Proofs.Ytfcijfngcplodaa
open Go Go.RowKit Sy Pl
set_option linter.unusedVariables false
set_option linter.unusedSimpArgs false
namespace Sy
abbrev dl (c : UInt8) : TokV := ⟨19, ⟨#[c]⟩, 0⟩
/-- the tokens of a comparison -/
def opN (k : Nat) : List TokV := List.getD [[], [dl 60], [dl 60, dl 61], [dl 61], [dl 62, dl 61], [dl 62]] k []
abbrev opV (k : Nat) : AV := .view (opN k).length 3 (fun i j => .lit ((TokV.cells (List.getD (opN k) i tok0)).getD j undef))
abbrev opC (k : Nat) : List AV := (opN k).flatMap fun t => t.cells.map .lit
/-sy optok1
fun (d : D) => callK Try.prog (tableX (P := Try.prog) [] (fun _ _ => none) 400 60 8) (fun _ _ => none) 400 60 6 [int 1] M0 d (fun v M' d' => .leaf (pack v M', d'))
-/
/-sy optok2
fun (d : D) => callK Try.prog (tableX (P := Try.prog) [] (fun _ _ => none) 400 60 8) (fun _ _ => none) 400 60 6 [int 2] M0 d (fun v M' d' => .leaf (pack v M', d'))
-/
/-sy optok3
fun (d : D) => callK Try.prog (tableX (P := Try.prog) [] (fun _ _ => none) 400 60 8) (fun _ _ => none) 400 60 6 [int 3] M0 d (fun v M' d' => .leaf (pack v M', d'))
-/
/-sy optok4
fun (d : D) => callK Try.prog (tableX (P := Try.prog) [] (fun _ _ => none) 400 60 8) (fun _ _ => none) 400 60 6 [int 4] M0 d (fun v M' d' => .leaf (pack v M', d'))
-/
/-sy optok5
fun (d : D) => callK Try.prog (tableX (P := Try.prog) [] (fun _ _ => none) 400 60 8) (fun _ _ => none) 400 60 6 [int 5] M0 d (fun v M' d' => .leaf (pack v M', d'))
-/
/-- new tokens, read alone -/
theorem toks_back {f : FuncId} {args : List AV} {m : Nat} {c : Option Nat} {cs : List AV} {cell : Nat → Nat → AV} (h : CallTo Try.prog f args M0 fun v M => ∃ b, pack v M = .tup [.sl b 0 m c 3, .agg cs]) (hc : ∀ i j, i < m → j < 3 → ∃ x, cs[i * 3 + j]? = some (.lit x) ∧ x.oneCell' = true ∧ cell i j = .lit x) (hm : 0 < m) {w : World} {us : List Value} (hr : rels (rho0 w) args us) :
    Calls Try.prog f us.toArray w fun e w' => ∃ (u : Value) (st : Nat → Nat → Option Value), e = .returned u ∧ (∀ g o v, st g o = some v → w.heap.size ≤ g ∧ w'.cell? ⟨g, o, none⟩ = some v) ∧ (∀ ρ : Rho, (∀ g o v, st g o = some v → ρ.still g o = some v) → rel ρ (.view m 3 cell) u) ∧ Below w.heap.size w w' := by
  refine (h w (rho0 w) us w hr (WR.start w)).mono ?_
  rintro e w' ⟨ρ', u, v, M', rfl, hE, hv, hW', b, hG⟩
  have hB : Below w.heap.size w w' := by
    have := hW'.keep
    rw [hE.mine] at this
    exact Keep.below this
  refine ⟨u, fun g o => if w.heap.size ≤ g then w'.cell? ⟨g, o, none⟩ else none, rfl, fun g o v hs => ?_, fun ρ hρ => ?_, hB⟩
  · simp only at hs
    split at hs
    · rename_i hh; exact ⟨hh, hs⟩
    · cases hs
  · unfold pack at hG
    simp only [AV.tup.injEq, List.cons.injEq, AV.agg.injEq, and_true] at hG
    obtain ⟨rfl, hG⟩ := hG
    unfold cellsOf at hG
    simp only at hG
    cases hb : M'.get b with
    | none =>
      rw [hb] at hG
      simp only at hG
      obtain ⟨x, hx, _⟩ := hc 0 0 hm (by decide)
      rw [← hG] at hx
      simp at hx
    | some B =>
      rw [hb] at hG
      simp only at hG
      simp only [rel] at hv ⊢
      obtain ⟨g, tot, cap, hg, rfl, p1, p2, p3, p4⟩ := hv
      obtain ⟨q2, cur, q3, q4, q5⟩ := hW'.holds hb hg
      have hge : w.heap.size ≤ g := by
        rcases q2 with q2 | q2
        · exact q2
        · rw [hE.mine] at q2; cases q2
      refine ⟨_, cap, rfl, p1, p2, (fun h => by cases h), fun _ => ⟨g, 0, rfl, fun i j hi hj => ?_⟩⟩
      obtain ⟨x, k1, k2, k3⟩ := hc i j hi hj
      obtain ⟨y, r5, r6⟩ := q5.1 _ _ (by rw [hG]; exact k1)
      simp only [rel] at r6
      subst r6
      refine ⟨y, hρ _ _ _ ?_, by rw [k3]; simp only [rel], k2⟩
      simp only [if_pos hge]
      rw [cell_at q3, Nat.zero_add]
      exact r5
theorem op_back (k : Nat) (hk : 1 ≤ k ∧ k ≤ 5) {w : World} {us : List Value} (hr : rels (rho0 w) [int (k : Int)] us) :
    Calls Try.prog 6 us.toArray w fun e w' => ∃ (u : Value) (st : Nat → Nat → Option Value), e = .returned u ∧ (∀ g o v, st g o = some v → w.heap.size ≤ g ∧ w'.cell? ⟨g, o, none⟩ = some v) ∧ (∀ ρ : Rho, (∀ g o v, st g o = some v → ρ.still g o = some v) → rel ρ (opV k) u) ∧ Below w.heap.size w w' := by
  have one : ∀ (i j m : Nat), m ≤ 2 → i < m → j < 3 → (i = 0 ∨ i = 1) ∧ (j = 0 ∨ j = 1 ∨ j = 2) := fun i j m h1 h2 h3 => by omega
  match k, hk with
  | 1, _ => exact toks_back (m := 1) (c := none) (cs := opC 1) (cell := fun i j => .lit ((TokV.cells (List.getD (opN 1) i tok0)).getD j undef)) (toP [] 400 60 8 (G := fun x => ∃ b, x = .tup [.sl b 0 1 none 3, .agg (opC 1)]) (.auto 8 .done) (.leaf (@AV.tup [(@AV.sl 2 0 1 none 3), (@AV.agg [(int (19 : Int)), (@AV.lit (@Value.string (@ByteArray.mk (@Array.mk _ [(60 : UInt8)])))), (int (0 : Int))])])) (by kernel_rfl) ⟨_, rfl⟩) (fun i j hi hj => by
      obtain ⟨rfl, rfl | rfl | rfl⟩ : i = 0 ∧ (j = 0 ∨ j = 1 ∨ j = 2) := by have h : i < 1 := hi; omega
      all_goals exact ⟨_, rfl, rfl, rfl⟩) (by decide) hr
  | 2, _ => exact toks_back (m := 2) (c := none) (cs := opC 2) (cell := fun i j => .lit ((TokV.cells (List.getD (opN 2) i tok0)).getD j undef)) (toP [] 400 60 8 (G := fun x => ∃ b, x = .tup [.sl b 0 2 none 3, .agg (opC 2)]) (.auto 8 .done) (.leaf (@AV.tup [(@AV.sl 5 0 2 none 3), (@AV.agg [(int (19 : Int)), (@AV.lit (@Value.string (@ByteArray.mk (@Array.mk _ [(60 : UInt8)])))), (int (0 : Int)), (int (19 : Int)), (@AV.lit (@Value.string (@ByteArray.mk (@Array.mk _ [(61 : UInt8)])))), (int (0 : Int))])])) (by kernel_rfl) ⟨_, rfl⟩) (fun i j hi hj => by
      obtain ⟨rfl | rfl, rfl | rfl | rfl⟩ := one i j 2 (by omega) hi hj <;> exact ⟨_, rfl, rfl, rfl⟩) (by decide) hr
  | 3, _ => exact toks_back (m := 1) (c := none) (cs := opC 3) (cell := fun i j => .lit ((TokV.cells (List.getD (opN 3) i tok0)).getD j undef)) (toP [] 400 60 8 (G := fun x => ∃ b, x = .tup [.sl b 0 1 none 3, .agg (opC 3)]) (.auto 8 .done) (.leaf (@AV.tup [(@AV.sl 2 0 1 none 3), (@AV.agg [(int (19 : Int)), (@AV.lit (@Value.string (@ByteArray.mk (@Array.mk _ [(61 : UInt8)])))), (int (0 : Int))])])) (by kernel_rfl) ⟨_, rfl⟩) (fun i j hi hj => by
      obtain ⟨rfl, rfl | rfl | rfl⟩ : i = 0 ∧ (j = 0 ∨ j = 1 ∨ j = 2) := by have h : i < 1 := hi; omega
      all_goals exact ⟨_, rfl, rfl, rfl⟩) (by decide) hr
  | 4, _ => exact toks_back (m := 2) (c := none) (cs := opC 4) (cell := fun i j => .lit ((TokV.cells (List.getD (opN 4) i tok0)).getD j undef)) (toP [] 400 60 8 (G := fun x => ∃ b, x = .tup [.sl b 0 2 none 3, .agg (opC 4)]) (.auto 8 .done) (.leaf (@AV.tup [(@AV.sl 5 0 2 none 3), (@AV.agg [(int (19 : Int)), (@AV.lit (@Value.string (@ByteArray.mk (@Array.mk _ [(62 : UInt8)])))), (int (0 : Int)), (int (19 : Int)), (@AV.lit (@Value.string (@ByteArray.mk (@Array.mk _ [(61 : UInt8)])))), (int (0 : Int))])])) (by kernel_rfl) ⟨_, rfl⟩) (fun i j hi hj => by
      obtain ⟨rfl | rfl, rfl | rfl | rfl⟩ := one i j 2 (by omega) hi hj <;> exact ⟨_, rfl, rfl, rfl⟩) (by decide) hr
  | 5, _ => exact toks_back (m := 1) (c := none) (cs := opC 5) (cell := fun i j => .lit ((TokV.cells (List.getD (opN 5) i tok0)).getD j undef)) (toP [] 400 60 8 (G := fun x => ∃ b, x = .tup [.sl b 0 1 none 3, .agg (opC 5)]) (.auto 8 .done) (.leaf (@AV.tup [(@AV.sl 2 0 1 none 3), (@AV.agg [(int (19 : Int)), (@AV.lit (@Value.string (@ByteArray.mk (@Array.mk _ [(62 : UInt8)])))), (int (0 : Int))])])) (by kernel_rfl) ⟨_, rfl⟩) (fun i j hi hj => by
      obtain ⟨rfl, rfl | rfl | rfl⟩ : i = 0 ∧ (j = 0 ∨ j = 1 ∨ j = 2) := by have h : i < 1 := hi; omega
      all_goals exact ⟨_, rfl, rfl, rfl⟩) (by decide) hr
noncomputable def atMW2 {X : Type} (f : FuncId) (get : List AV → Mem → Option X) (args1 : X → List AV) (v0 : X → AV) (C : X → Prop) (hconv : ∀ args M x, get args M = some x → C x → Conv M args (args1 x)) (h : ∀ x, C x → ∀ w us, rels (rho0 w) (args1 x) us → Calls Try.prog f us.toArray w fun e w' => ∃ (u : Value) (st : Nat → Nat → Option Value), e = .returned u ∧ (∀ g o v, st g o = some v → w.heap.size ≤ g ∧ w'.cell? ⟨g, o, none⟩ = some v) ∧ (∀ ρ : Rho, (∀ g o v, st g o = some v → ρ.still g o = some v) → rel ρ (v0 x) u) ∧ Below w.heap.size w w') : Con Try.prog where
  f := f
  run := fun args M => match get args M with | some x => some (v0 x, M) | none => none
  ob := fun args M => match get args M with | some x => some (isSo (C x)) | none => none
  ok := fun args M v M' hr hob => by
    cases hg : get args M with
    | none => rw [hg] at hr; cases hr
    | some x =>
      rw [hg] at hr hob
      have h1 := hob _ rfl
      rw [isSo_t] at h1
      exact (atMW f get args1 v0 C h).ok args M v M' (by show (match get args M with | some x => some (v0 x, M) | none => none) = _; rw [hg]; exact hr) (fun b hb => by
        have e : b = isSo (Conv M args (args1 x) ∧ C x) := by
          have hb' : (match get args M with | some x => some (isSo (Conv M args (args1 x) ∧ C x)) | none => none) = some b := hb
          rw [hg] at hb'
          simp at hb'; exact hb'.symm
        rw [e, isSo_t]
        exact ⟨hconv args M x hg h1, h1⟩)
structure OpOk (o : Int) : Prop where
  is : 1 ≤ o ∧ o ≤ 5
noncomputable abbrev cOp : Con Try.prog := atMW2 6 (fun args _ => match args with | [.lit (.int .i64 o)] => some o | _ => none) (fun o => [int o]) (fun o => opV o.toNat) OpOk (fun args M x h _ => by
    split at h
    · simp at h; subst h; exact Conv.cons (Conv1.lit _ _) (Conv.nil _)
    · cases h) fun o ho w us hr => op_back o.toNat (by have := ho.is; omega) (by rw [Int.toNat_of_nonneg (by have := ho.is; omega)]; exact hr)
abbrev qV (m : Nat) (f o n : Int) : AV := .agg [.lit (.string ⟨#[]⟩), .view m 9 (fun i j => [int 4, int 0, int f, int 0, int 0, int 0, int o, int n, int 0].getD j (.lit undef))]
/-sy same0
fun (f o n : Int) (d : D) => callK Try.prog (tableX (P := Try.prog) [] (fun _ _ => none) 400 60 8) (fun _ _ => none) 400 60 8 [qV 0 f o n, qV 0 f o n] M0 d (fun v M' d' => .leaf (v, d'))
-/
/-sy same1
fun (f o n : Int) (d : D) => callK Try.prog (tableX (P := Try.prog) [] (fun _ _ => none) 400 60 8) (fun _ _ => none) 400 60 8 [qV 1 f o n, qV 1 f o n] M0 d (fun v M' d' => .leaf (v, d'))
-/
theorem same_0 (f o n : Int) : CallTo Try.prog 8 [qV 0 f o n, qV 0 f o n] M0 fun v _ => v = boo true :=
  toXV [] 400 60 8 (.auto 9 .done) (.leaf (boo true)) (by kernel_rfl) rfl
theorem eqI_same (a : Int) : eqI a a = true := by rw [eqI_t]
theorem same_1 (f o n : Int) : CallTo Try.prog 8 [qV 1 f o n, qV 1 f o n] M0 fun v _ => v = boo true :=
  toXV [] 400 60 8 (.auto 11 (.br .done (.auto 0 .done))) (.fork (!(true && (true && ((eqI f f) && (true && (((eqI o o) && ((eqI n n) && true)) && true)))))) (.leaf (boo false)) (.leaf (boo true))) (by kernel_rfl) (fork_ok (fun h => by simp [eqI_same] at h) (fun h => rfl))
theorem same_n (f o n : Int) : CallTo Try.prog 8 [qV (cntV f o n) f o n, qV (cntV f o n) f o n] M0 fun v _ => v = boo true := by
  have h : cntV f o n = 0 ∨ cntV f o n = 1 := by
    unfold cntV; split
    · exact .inr rfl
    · exact .inl rfl
  rcases h with h | h <;> rw [h]
  · exact same_0 f o n
  · exact same_1 f o n
theorem qV_free (m : Nat) (f o n : Int) : Free (qV m f o n) := by
  refine ⟨trivial, ?_, trivial⟩
  show ∀ i j : Nat, Free ([int 4, int 0, int f, int 0, int 0, int 0, int o, int n, int 0].getD j (.lit undef))
  intro i j
  match j with
  | 0 | 1 | 2 | 3 | 4 | 5 | 6 | 7 | 8 => exact trivial
  | j + 9 => exact trivial
noncomputable abbrev cSameN (f o n : Int) : Con Try.prog := at1 8 [qV (cntV f o n) f o n, qV (cntV f o n) f o n] (boo true) True fun _ => ⟨⟨⟨qV_free _ f o n, qV_free _ f o n, trivial⟩, trivial⟩, same_n f o n⟩
noncomputable abbrev cKnown08 : Con Try.prog := at1 5 [] (boo true) True fun _ => ⟨⟨trivial, trivial⟩, (CallTo.of_calls (us := []) known08 M0).mono fun _ _ h => h.1⟩
structure WX where
  turned : Bool
  n : Int
  len : Nat
  cell : Nat → Nat → AV
/-- which of both the tokens are, and their value -/
noncomputable def getW (args : List AV) (M : Mem) : Option WX := match args with
  | [.own b n s] => match M.get b with
    | some B => match B.rows with
      | some R => match Nat.beq s 3 && (Nat.beq R.s 3 && Nat.ble n R.n) with
        | true => match R.cell 1 0 with
          | .lit (.int .i64 k) => match Nat.beq k.toNat 9 with
            | true => match R.cell 1 2 with
              | .lit (.int .i64 n') => some ⟨true, n', n, R.cell⟩
              | _ => none
            | false => match R.cell (n - 2) 2 with
              | .lit (.int .i64 n') => some ⟨false, n', n, R.cell⟩
              | _ => none
          | _ => none
        | false => none
      | none => none
    | none => none
  | _ => none
theorem getW_get {args : List AV} {M : Mem} {x : WX} (h : getW args M = some x) : ∃ b B R, args = [.own b x.len 3] ∧ M.get b = some B ∧ B.rows = some R ∧ R.s = 3 ∧ x.len ≤ R.n ∧ x.cell = R.cell := by
  unfold getW at h
  split at h
  · rename_i b n s
    split at h
    · rename_i B hB
      split at h
      · rename_i R hR
        split at h
        · rename_i hc
          simp only [Bool.and_eq_true, Nat.ble_eq] at hc
          have e1 := Nat.eq_of_beq_eq_true hc.1
          have e2 := Nat.eq_of_beq_eq_true hc.2.1
          subst e1
          have key : ∃ t n', x = ⟨t, n', n, R.cell⟩ := by
            split at h
            · split at h
              · split at h
                · simp at h; exact ⟨_, _, h.symm⟩
                · cases h
              · split at h
                · simp at h; exact ⟨_, _, h.symm⟩
                · cases h
            · cases h
          obtain ⟨t, n', rfl⟩ := key
          exact ⟨b, B, R, rfl, hB, hR, e2, hc.2.2, rfl⟩
        · cases h
      · cases h
    · cases h
  · cases h
structure WOk (m : Nat) (want : WX → List TokV) (x : WX) : Prop where
  len : x.len = m
  cells : ∀ i j, i < m → j < 3 → ∃ u, x.cell i j = .lit u ∧ AV.lit ((TokV.cells (List.getD (want x) i tok0)).getD j undef) = .lit u
theorem Conv1.ownL {M : Mem} {b n s : Nat} {B : Blk} {R : Rw} {cell : Nat → Nat → AV} (hb : M.get b = some B) (hR : B.rows = some R) (hn : n ≤ R.n) (hs : R.s = s) (hc : ∀ i j, i < n → j < s → ∃ x, R.cell i j = .lit x ∧ cell i j = .lit x) : Conv1 M (.own b n s) (.view n s cell) :=
  Conv1.own hb hR hn hs fun i j hi hj => by
    obtain ⟨x, h1, h2⟩ := hc i j hi hj
    rw [h1, h2]
    exact ⟨trivial, rfl⟩
theorem getW_conv {args : List AV} {M : Mem} {x : WX} {m : Nat} {want : WX → List TokV} (h : getW args M = some x) (hk : WOk m want x) : Conv M args [tv m (want x)] := by
  obtain ⟨b, B, R, rfl, hB, hR, hs, hn, hc⟩ := getW_get h
  have hl := hk.len
  subst hl
  exact Conv.cons (Conv1.ownL hB hR hn hs fun i j hi hj => by
    obtain ⟨u, h1, h2⟩ := hk.cells i j hi hj
    exact ⟨u, by rw [← hc]; exact h1, h2⟩) (Conv.nil _)
theorem turn_a {f o n : Int} (hf : 1 ≤ f ∧ f ≤ 4) (ho : 1 ≤ o ∧ o ≤ 5) (h : leI (-1073741824) n = true) : eqI (errV f o n) 0 = leI n 1073741824 := by
  rw [leI_t] at h
  rw [Bool.eq_iff_iff, eqI_t, leI_t, errV_zero hf ho]
  omega
theorem turn_b {f o n : Int} (hf : 1 ≤ f ∧ f ≤ 4) (ho : 1 ≤ o ∧ o ≤ 5) (h : leI (-1073741824) n = false) : eqI (errV f o n) 0 = false := by
  rw [leI_f] at h
  rw [eqI_f, errV_zero hf ho]
  omega
end Sy
end Go.Proofs.Ytfcijfngcplodaa
