/-
  Lemmas for MarkupAgain, part 2; no conditions.
-/
import Derived.Scope
import Derived.Test.YtglkdhmikpejnaaProg
import Derived.WalkKit
import Derived.WalkLawsBesides
import Derived.WalkSpells
import Derived.WalkSmall
import Derived.Laws.AppendOwnNone
import Derived.Lib.Hide
import Derived.BigQuiet
import Derived.Deep.QuietTactic
import Derived.Deep.RegionWith
import Derived.Deep.RegionHeld3
import Derived.Deep.LoopGhost
import Derived.Deep.DeepFit
import Derived.Test.YtglkdhmikpejnaaMapA
set_option linter.unusedVariables false
set_option linter.unusedSimpArgs false
set_option linter.unusedSectionVars false
namespace Go.Proofs.Ytglkdhmikpejnaa.Sy
open Go Go.RowKit
variable [Dfs]
def effIdx (ops : Array Oper) : List Nat := (ops.toList.zipIdx.filter fun oi => isEff oi.1).map (·.2)
def adm (ms E : List Nat) (i p : Nat) : Bool := E.all fun e => (!(ms.getD i 0).testBit e || decide (e < p)) && (!(ms.getD e 0).testBit i || decide (p ≤ e))
noncomputable def calm (F : Fr) (o : Oper) (M M' : Mem) : Bool := match o.op with
  | .load _ x => match evX F x with
    | some (.vptr _ _) => true
    | some (.ptr b _) => Nat.beq M.stamp M'.stamp && (Nat.blt b M.top && Nat.blt b M'.top)
    | some (.rptr b _ _ _) => Nat.beq M.stamp M'.stamp && (Nat.blt b M.top && Nat.blt b M'.top)
    | _ => false
  | _ => false
def blkA : AV → Option Nat
  | .sl b _ _ _ _ => some b
  | .own b _ _ => some b
  | _ => none
noncomputable def stays (ops : Array Oper) (es : List (AV × Mem)) (F : Fr) (M : Mem) (b k : Nat) : Bool :=
  (Nat.beq (memAt es M k).stamp (memAt es M (k + 1)).stamp && Nat.blt b (memAt es M k).top) || (match ops[k]? with
    | some o => match o.op with
      | .store _ x _ => match evX (frAt ops.toList es F k) x with
        | some (.ptr b' _) => !(Nat.beq b' b)
        | some (.rptr b' _ _ _) => !(Nat.beq b' b)
        | _ => false
      | .call c => match c.callee with
        | .builtin .append => match c.args.toList with
          | [x, _] => match evX (frAt ops.toList es F k) x with
            | some v => match blkA v with
              | some b' => !(Nat.beq b' b) && Nat.blt b (memAt es M k).top
              | none => false
            | none => false
          | _ => false
        | _ => false
      | _ => false
    | none => false)
noncomputable def staysTo (ops : Array Oper) (es : List (AV × Mem)) (F : Fr) (M : Mem) (b lo : Nat) : Nat → Bool
  | 0 => true
  | n + 1 => stays ops es F M b (lo + n) && staysTo ops es F M b lo n
noncomputable def calmB (ops : Array Oper) (es : List (AV × Mem)) (F : Fr) (M : Mem) (o : Oper) (i p : Nat) : Bool := match o.op with
  | .load _ x => match evX (frAt ops.toList es F i) x with
    | some (.ptr b _) => staysTo ops es F M b p (i - p) && staysTo ops es F M b i (p - i)
    | some (.rptr b _ _ _) => staysTo ops es F M b p (i - p) && staysTo ops es F M b i (p - i)
    | _ => false
  | _ => false
noncomputable def loadOk (P : Program) (ops : Array Oper) (es : List (AV × Mem)) (F : Fr) (M : Mem) (o : Oper) (i p : Nat) : Bool := match es[i]? with
  | some (.tup _, _) => true
  | some (v', _) => match calm (frAt ops.toList es F i) o (memAt es M p) (memAt es M i) with
    | true => true
    | false => match calmB ops es F M o i p with
      | true => true
      | false => match evRead P (frAt ops.toList es F i) (memAt es M p) o with
        | some v => match obRead (frAt ops.toList es F i) (memAt es M p) o with
          | none => aeq v v'
          | some _ => false
        | none => false
  | none => false
noncomputable def flOk (P : Program) (ops : Array Oper) (es : List (AV × Mem)) : Bool :=
  ops.toList.zipIdx.all fun oi => !fl P ops oi.2 || (match es[oi.2]? with | some (.lit _, _) => false | _ => true)
noncomputable def veqL : Value → Value → Option (List Bool)
  | .int k x, .int k' y => (match decide (k = k') with | true => some [eqI x y] | false => none)
  | .string s, .string t => some [bytesEq s.data.toList t.data.toList]
  | a, b => (match veq a b with | true => some [] | false => none)
theorem veqL_ok {a b : Value} {l : List Bool} (h : veqL a b = some l) (hl : ∀ x ∈ l, x = true) : a = b := by
  unfold veqL at h
  split at h
  · split at h
    · rename_i hk
      simp only [Option.some.injEq] at h
      subst h
      have h1 := hl _ (List.mem_singleton.2 rfl)
      rw [eqI_eq] at h1
      rw [of_decide_eq_true hk, eq_of_beq h1]
    · cases h
  · simp only [Option.some.injEq] at h
    subst h
    have h1 := hl _ (List.mem_singleton.2 rfl)
    rw [bytesEq_eq, decide_eq_true_eq] at h1
    rename_i s t
    have : s = t := by
      cases s; cases t
      congr 1
      exact Array.toList_inj.1 h1
    rw [this]
  · split at h
    · rename_i hv
      exact veq_eq hv
    · cases h
noncomputable def veqsL : List AV → List AV → Option (List Bool)
  | [], [] => some []
  | .lit a :: as1, .lit b :: bs => (match veqL a b with
    | some x => (match veqsL as1 bs with | some y => some (x ++ y) | none => none)
    | none => none)
  | _, _ => none
theorem veqsL_ok : ∀ {a b : List AV} {l : List Bool}, veqsL a b = some l → (∀ x ∈ l, x = true) → a = b
  | [], [], _, _, _ => rfl
  | [], _ :: _, _, h, _ => by simp [veqsL] at h
  | _ :: _, [], _, h, _ => by simp [veqsL] at h
  | .lit a :: as1, y :: bs, l, h, hl => by
    cases y <;> simp only [veqsL] at h <;> try (cases h; done)
    split at h
    · rename_i x hx
      split at h
      · rename_i y hy
        simp only [Option.some.injEq] at h
        subst h
        rw [veqL_ok hx (fun z hz => hl z (by simp [hz])), veqsL_ok hy (fun z hz => hl z (by simp [hz]))]
      · cases h
    · cases h
  | .ptr .. :: _, _ :: _, _, h, _ | .sl .. :: _, _ :: _, _, h, _ | .esl :: _, _ :: _, _, h, _ | .agg _ :: _, _ :: _, _, h, _ | .tup _ :: _, _ :: _, _, h, _ | .fn .. :: _, _ :: _, _, h, _ | .view .. :: _, _ :: _, _, h, _ | .vptr .. :: _, _ :: _, _, h, _ | .own .. :: _, _ :: _, _, h, _ | .rptr .. :: _, _ :: _, _, h, _ => by simp [veqsL] at h
noncomputable def aeqL : AV → AV → Option (List Bool)
  | .lit a, .lit b => veqL a b
  | .agg a, .agg b => veqsL a b
  | .own b n s, .own b' n' s' => (match Nat.beq b b' && Nat.beq s s' with | true => some [eqI (n : Int) (n' : Int)] | false => none)
  | a, b => (match aeq a b with | true => some [] | false => none)
theorem aeqL_ok {a b : AV} {l : List Bool} (h : aeqL a b = some l) (hl : ∀ x ∈ l, x = true) : a = b := by
  unfold aeqL at h
  split at h
  · rw [veqL_ok h hl]
  · rw [veqsL_ok h hl]
  · split at h
    · rename_i hb
      rw [Bool.and_eq_true] at hb
      simp only [Option.some.injEq] at h
      subst h
      have h1 := hl _ (List.mem_singleton.2 rfl)
      rw [eqI_eq] at h1
      have h1 := eq_of_beq h1
      rw [Nat.eq_of_beq_eq_true hb.1, Nat.eq_of_beq_eq_true hb.2, Int.ofNat.inj h1]
    · cases h
  · split at h
    · rename_i hv
      exact aeq_eq hv
    · cases h
noncomputable def loadOb (P : Program) (ops : Array Oper) (es : List (AV × Mem)) (F : Fr) (M : Mem) (o : Oper) (i p : Nat) : Option (List Bool) := match es[i]? with
  | some (.tup _, _) => some []
  | some (v', _) => (match calm (frAt ops.toList es F i) o (memAt es M p) (memAt es M i) with
    | true => some []
    | false => match calmB ops es F M o i p with
      | true => some []
      | false => match evRead P (frAt ops.toList es F i) (memAt es M p) o with
        | some v => (match obRead (frAt ops.toList es F i) (memAt es M p) o with
          | none => aeqL v v'
          | some _ => none)
        | none => none)
  | none => none
def LoadOk (P : Program) (ops : Array Oper) (es : List (AV × Mem)) (F : Fr) (M : Mem) (o : Oper) (i p : Nat) : Prop := loadOk P ops es F M o i p = true ∨ ∃ l, loadOb P ops es F M o i p = some l ∧ ∀ x ∈ l, x = true
noncomputable def catO {α : Type} (f : α → Option (List Bool)) : List α → Option (List Bool)
  | [] => some []
  | a :: as1 => (match f a with
    | some x => (match catO f as1 with | some y => some (x ++ y) | none => none)
    | none => none)
theorem catO_ok {α : Type} {f : α → Option (List Bool)} : ∀ {as1 : List α} {l : List Bool}, catO f as1 = some l → (∀ x ∈ l, x = true) → ∀ a ∈ as1, ∃ x, f a = some x ∧ ∀ y ∈ x, y = true
  | [], _, _, _, a, ha => (by cases ha)
  | b :: as1, l, h, hl, a, ha => by
    unfold catO at h
    split at h
    · rename_i x hx
      split at h
      · rename_i y hy
        simp only [Option.some.injEq] at h
        subst h
        rcases List.mem_cons.1 ha with rfl | ha
        · exact ⟨x, hx, fun z hz => hl z (by simp [hz])⟩
        · exact catO_ok hy (fun z hz => hl z (by simp [hz])) a ha
      · cases h
    · cases h
noncomputable def loadsOb (P : Program) (ops : Array Oper) (es : List (AV × Mem)) (F : Fr) (M : Mem) : Option (List Bool) := match flOk P ops es with
  | true => catO (fun oi => match isLoad oi.1 with
    | false => some []
    | true => catO (fun p => match adm (masks ops.toList []) (effIdx ops) oi.2 p with
      | false => some []
      | true => loadOb P ops es F M oi.1 oi.2 p) (0 :: (effIdx ops).map (· + 1))) ops.toList.zipIdx
  | false => none
def LoadsOk (P : Program) (ops : Array Oper) (es : List (AV × Mem)) (F : Fr) (M : Mem) : Prop := flOk P ops es = true ∧ ∀ oi ∈ ops.toList.zipIdx, isLoad oi.1 = true → ∀ p ∈ (0 :: (effIdx ops).map (· + 1)), adm (masks ops.toList []) (effIdx ops) oi.2 p = true → LoadOk P ops es F M oi.1 oi.2 p
theorem LoadsOk.ob {P : Program} {ops : Array Oper} {es : List (AV × Mem)} {F : Fr} {M : Mem} {l : List Bool} (h : loadsOb P ops es F M = some l) (hl : ∀ x ∈ l, x = true) : LoadsOk P ops es F M := by
  unfold loadsOb at h
  split at h
  · rename_i hf
    refine ⟨hf, fun oi ho hld p hp ha => .inr ?_⟩
    obtain ⟨x, h1, h2⟩ := catO_ok h hl oi ho
    rw [hld] at h1
    obtain ⟨y, h3, h4⟩ := catO_ok h1 h2 p hp
    rw [ha] at h3
    exact ⟨y, h3, h4⟩
  · cases h
theorem calm_spec {P : Program} {F F' : Fr} {o : Oper} {M M' : Mem} (hF : ∀ x ∈ o.op.operands, evX F' x = evX F x) (h : calm F o M M' = true) (hG : Grow M M' ∨ Grow M' M) : evRead P F' M o = evRead P F' M' o ∧ obRead F' M o = obRead F' M' o := by
  have same : ∀ b, (Nat.beq M.stamp M'.stamp && (Nat.blt b M.top && Nat.blt b M'.top)) = true → M.get b = M'.get b := fun b hb => by
    simp only [Bool.and_eq_true, Nat.blt_eq] at hb
    have he := Nat.eq_of_beq_eq_true hb.1
    rcases hG with hG | hG
    · exact (hG.same he.symm b hb.2.1).symm
    · exact hG.same he b hb.2.2
  unfold calm at h
  split at h
  · rename_i t x ho
    have hx := hF x (by simp [ho, Op.operands])
    have key : (obind (evX F' x) fun v => evLoad P M t v) = (obind (evX F' x) fun v => evLoad P M' t v) ∧ (obind (evX F' x) fun v => obLoad M v) = (obind (evX F' x) fun v => obLoad M' v) := by
      rw [hx]
      split at h
      · rename_i m c hv; rw [hv]; exact ⟨rfl, rfl⟩
      · rename_i b k hv; rw [hv]; simp only [obind, evLoad, obLoad, same b h, and_self]
      · rename_i b i s k hv; rw [hv]; simp only [obind, evLoad, obLoad, same b h, and_self]
      · cases h
    constructor
    · rw [evRead_def, evRead_def]
      unfold evRead' fLoad
      rw [ho]
      simp only
      rw [key.1]
    · unfold obRead
      rw [ho]
      exact key.2
  · cases h
theorem mem_effIdx {ops : Array Oper} {e : Nat} {o : Oper} (h : ops[e]? = some o) (he : isEff o = true) : e ∈ effIdx ops := by
  unfold effIdx
  exact List.mem_map.2 ⟨(o, e), List.mem_filter.2 ⟨mem_zipIdx h, he⟩, rfl⟩
theorem obRead_mem {F : Fr} {M M' : Mem} {o : Oper} (h : isLoad o = false) : obRead F M o = obRead F M' o := by
  unfold obRead
  cases ho : o.op <;> first | rfl | (exfalso; simp [isLoad, ho] at h; done)
theorem evRead_mem {P : Program} {F : Fr} {M M' : Mem} {o : Oper} (h : isLoad o = false) : evRead P F M o = evRead P F M' o := by
  have key : evRead' P F M o = evRead' P F M' o := by
    unfold evRead'
    cases ho : o.op <;> first | rfl | (exfalso; simp [isLoad, ho] at h; done)
  rw [evRead_def, evRead_def, key]
def rst (F : Fr) (ts : List Tmp) : Fr := F.mapIdx fun t x => if ts.contains t then x else none
theorem rst_get (F : Fr) (ts : List Tmp) (t : Nat) (h : t ∈ ts) : (rst F ts)[t]? = F[t]? := by
  simp only [rst, List.getElem?_mapIdx]
  cases F[t]? with
  | none => rfl
  | some x => simp [h]
theorem rst_some {F : Fr} {ts : List Tmp} {t : Nat} {v : AV} (h : (rst F ts)[t]? = some (some v)) : t ∈ ts ∧ F[t]? = some (some v) := by
  simp only [rst, List.getElem?_mapIdx] at h
  cases hx : F[t]? with
  | none => simp [hx] at h
  | some x =>
    simp only [hx, Option.map_some, Option.some.injEq] at h
    split at h
    · rename_i hc
      exact ⟨by simpa using hc, by rw [h]⟩
    · cases h
theorem rst_ev {F : Fr} {o : Oper} {ops : Array Oper} : ∀ x ∈ o.op.operands, evX (rst F (o.looksAt ops)) x = evX F x := fun x hx => by
  cases x with
  | tmp t =>
    rw [evX_tmp, evX_tmp]
    have ht : t ∈ o.looksAt ops := List.mem_append_left _ (List.mem_filterMap.2 ⟨Operand.tmp t, by simpa using hx, rfl⟩)
    rw [rst_get F (o.looksAt ops) t ht]
  | _ => rfl
structure Lone (w0 : World) (ρ : Rho) (M : Mem) (w : World) (g : Nat) : Prop where
  ge : w0.heap.size ≤ g
  lt : g < w.heap.size
  still : ∀ o, ρ.still g o = none
  dead : ∀ b B t, M.get b = some B → ρ b = some (g, t) → False
noncomputable def reb (ρ : Rho) (M : Mem) : Rho := { ρ with base := ρ.still, mine := fun k => @decide (∃ b B t, M.get b = some B ∧ ρ b = some (k, t)) (Classical.propDecidable _) }
theorem reb_ext0 (ρ : Rho) (M : Mem) : Ext0 ρ (reb ρ M) := ⟨fun _ _ h => h, fun _ h => h, fun _ _ _ h => h⟩
theorem reb_mine {ρ : Rho} {M : Mem} {k : Nat} : (reb ρ M).mine k = true ↔ ∃ b B t, M.get b = some B ∧ ρ b = some (k, t) := by simp [reb]
theorem reb_wr {w0 : World} {ρ : Rho} {M : Mem} {w : World} (h : WR w0 ρ M w) : WR w (reb ρ M) M w :=
  ⟨Keep.refl _ _, h.dom, h.nild, fun b B g tot h1 h2 => by
    obtain ⟨_, cur, q3, q4, q5⟩ := h.holds h1 h2
    exact ⟨.inr (reb_mine.2 ⟨b, B, tot, h1, h2⟩), cur, q3, q4, (by
      refine ⟨fun i v hv => ?_, fun R hR i j hi hj => ?_⟩
      · obtain ⟨u, r1, r2⟩ := q5.1 i v hv
        exact ⟨u, r1, r2.ext0 (reb_ext0 ρ M)⟩
      · obtain ⟨u, r1, r2, r3⟩ := q5.2 R hR i j hi hj
        exact ⟨u, r1, r2.ext0 (reb_ext0 ρ M), r3⟩)⟩, h.has, h.inj, h.still, fun g o v _ _ h => h, h.apart⟩
def back (ρ ρ2 : Rho) : Rho := { ρ2 with base := ρ.base, mine := ρ.mine }
theorem back_wr {w0 : World} {ρ ρ2 : Rho} {M M' : Mem} {w w' : World} (h : WR w0 ρ M w) (hE : Ext (reb ρ M) ρ2) (h2 : WR w ρ2 M' w') : Ext ρ (back ρ ρ2) ∧ WR w0 (back ρ ρ2) M' w' ∧ Ext0 ρ2 (back ρ ρ2) ∧ ∀ g, Lone w0 ρ M w g → w'.heap[g]? = w.heap[g]? ∧ Lone w0 (back ρ ρ2) M' w' g := by
  have hM : ∀ k, ρ2.mine k = (reb ρ M).mine k := fun k => by rw [hE.mine]
  have e0 : Ext0 ρ2 (back ρ ρ2) := ⟨fun _ _ h => h, fun _ h => h, fun _ _ _ h => h⟩
  have old : ∀ k, k < w0.heap.size → ρ.mine k = false → (reb ρ M).mine k = false := fun k hk hm => by
    cases hc : (reb ρ M).mine k with
    | false => rfl
    | true =>
      obtain ⟨b, B, t, q1, q2⟩ := reb_mine.1 hc
      obtain ⟨q3, _⟩ := h.blk b B k t q1 q2
      rcases q3 with q3 | q3
      · omega
      · rw [hm] at q3; cases q3
  refine ⟨⟨fun b g hb => hE.blk b g hb, fun b hb => hE.nil b hb, fun g o v hv => hE.still g o v hv, rfl, rfl⟩, ⟨?_, h2.dom, h2.nild, fun b B g tot h3 h4 => ?_, h2.has, h2.inj, h2.still, fun g o v hg hm hv => ?_, h2.apart⟩, e0, fun g hL => ?_⟩
  · refine ⟨h2.keep.os.trans h.keep.os, h2.keep.tape.trans h.keep.tape, h2.keep.output.trans h.keep.output, Nat.le_trans h.keep.size h2.keep.size, fun k hk hm => ?_⟩
    rw [h2.keep.block k (Nat.lt_of_lt_of_le hk h.keep.size) (by rw [hM]; exact old k hk hm)]
    exact h.keep.block k hk hm
  · obtain ⟨q1, cur, q3, q4, q5⟩ := h2.holds h3 h4
    refine ⟨?_, cur, q3, q4, (by
      refine ⟨fun i v hv => ?_, fun R hR i j hi hj => ?_⟩
      · obtain ⟨u, r1, r2⟩ := q5.1 i v hv
        exact ⟨u, r1, r2.ext0 e0⟩
      · obtain ⟨u, r1, r2, r3⟩ := q5.2 R hR i j hi hj
        exact ⟨u, r1, r2.ext0 e0, r3⟩)⟩
    rcases q1 with q1 | q1
    · have := h.keep.size; left; omega
    · rw [hM] at q1
      obtain ⟨b', B', t', r1, r2⟩ := reb_mine.1 q1
      exact (h.blk b' B' g t' r1 r2).1
  · have h3 := h2.first g o v (Nat.lt_of_lt_of_le hg h.keep.size) (by rw [hM]; exact old g hg hm) hv
    rw [hE.base] at h3
    exact h.first g o v hg hm h3
  · have hmf : ρ2.mine g = false := by
      rw [hM]
      cases hc : (reb ρ M).mine g with
      | false => rfl
      | true =>
        obtain ⟨b, B, t, q1, q2⟩ := reb_mine.1 hc
        exact (hL.dead b B t q1 q2).elim
    refine ⟨h2.keep.block g hL.lt hmf, hL.ge, Nat.lt_of_lt_of_le hL.lt h2.keep.size, fun o => ?_, fun b B t q1 q2 => ?_⟩
    · cases hs : ρ2.still g o with
      | none => exact hs
      | some v =>
        have h3 := h2.first g o v hL.lt hmf hs
        rw [hE.base] at h3
        have h4 := hL.still o
        have h5 : ρ.still g o = some v := h3
        rw [h4] at h5; cases h5
    · obtain ⟨q3, _⟩ := h2.blk b B g t q1 q2
      rcases q3 with q3 | q3
      · have := hL.lt; omega
      · rw [hmf] at q3; cases q3
theorem evOp1_framed {P : Program} (hP : Plainly P) {call : CallT} (hcall : CallOk P call) {w0 : World} {ρ : Rho} {M M' : Mem} {w : World} {F : Fr} {a : Act} (hF : FR ρ F a) (hW : WR w0 ρ M w) {o : Oper} {v : AV} (he : evOp1 P call F M o = some (v, M')) (hob : owed (obOp1 P call F M o))
    {K : Act → World → Prop} {Q : Exit → Act → World → Prop} (hK : ∀ ρ' u w', Ext ρ ρ' → rel ρ' v u → WR w0 ρ' M' w' → (∀ g, Lone w0 ρ M w g → w'.heap[g]? = w.heap[g]? ∧ Lone w0 ρ' M' w' g) → K (a.put o.dst u) w') : o.wp P a w K Q := by
  have hF' : FR (reb ρ M) F a := ⟨hF.len, fun t v hv => (hF.val t v hv).ext0 (reb_ext0 ρ M), hF.defers⟩
  refine evOp1_sound hP hcall hF' (reb_wr hW) he hob fun ρ2 u w' q1 q2 q3 => ?_
  obtain ⟨r1, r2, r3, r4⟩ := back_wr hW q1 q3
  exact hK _ u w' r1 (q2.ext0 r3) r2 r4
theorem run_alloc {P : Program} {ev : Operand → Value} {o : Oper} {t : TypeId} {z : Value} (ho : o.op = .alloc t) (hz : zeroA P t = some z) (w : World) : (execOp ev o).run P w = .ok (.value (.pointer (some ⟨w.heap.size, 0, none⟩))) (w.alloc (.cells z.cells t (0, 0))) := by
  unfold execOp
  simp only [ho]
  simp [Instr.alloc, run_zeroA hz, newVar, newRow]
theorem ev_alloc {P : Program} {call : CallT} {F : Fr} {M : Mem} {o : Oper} {t : TypeId} {z : Value} (ho : o.op = .alloc t) (hz : zeroA P t = some z) (w : World) : evOp1 P call F M o = some (.ptr M.top 0, M.push ⟨cellsA (.lit z), t, none⟩) := by
  have hno : ∀ x ∈ o.op.operands, evX F x = evX [] x := fun x hx => by simp [ho, Op.operands] at hx
  have hr : evRead P F M o = none := by
    cases hr : evRead P F M o with
    | none => rfl
    | some v =>
      exfalso
      rw [evRead_congr hno, evRead_mem (M' := ⟨0, 0, []⟩) (by simp [isLoad, ho])] at hr
      obtain ⟨u, _, h2⟩ := evRead_sound (F := []) (a := ⟨#[], Dfs.ds⟩) ⟨rfl, fun t v h => by simp at h, rfl⟩ (WR.start w) hr (by unfold obRead; rw [ho]; intro b e; cases e)
      have h3 := h2 w rfl
      rw [run_alloc ho hz w] at h3
      simp only [Result.ok.injEq] at h3
      have h4 := congrArg (fun w => w.heap.size) h3.2
      simp at h4
  unfold evOp1
  split
  · rename_i c hc; rw [ho] at hc; cases hc
  · rw [evOp_def, hr]
    simp only
    unfold evEff
    rw [ho]
    simp only [eAlloc, hz, obind]
structure Made (es : List (AV × Mem)) (M0 : Mem) (ρ : Rho) (e : Nat) (g : Nat) (B : Blk) (cur : Array Value) (u : Value) : Prop where
  mem : memAt es M0 (e + 1) = (memAt es M0 e).push B
  holds : Holds ρ B cur
  val : ∀ v M', es[e]? = some (v, M') → ∀ ρ' : Rho, ρ' (memAt es M0 e).top = some (g, cur.size) → rel ρ' v u
theorem Made.ext {es : List (AV × Mem)} {M0 : Mem} {ρ ρ' : Rho} {e g : Nat} {B : Blk} {cur : Array Value} {u : Value} (h : Made es M0 ρ e g B cur u) (he : Ext ρ ρ') : Made es M0 ρ' e g B cur u := ⟨h.mem, h.holds.ext he, h.val⟩
theorem build_make {P : Program} {ρ : Rho} {M M' : Mem} {t : TypeId} {len : Nat} {ps : List (Nat × AV)} {ups : Array (Nat × Value)} {v : AV} (hl : ps.length = ups.toList.length)
    (hp : ∀ (i : Nat) (p : Nat × AV) (q : Nat × Value), ps[i]? = some p → ups.toList[i]? = some q → p.1 = q.1 ∧ rel ρ p.2 q.2) (he : evBuildSlice P M t len ps = some (v, M')) :
    ∃ cur B, (∀ w : World, (Instr.buildSlice t len ups).run P w = .ok (.slice (some ⟨w.heap.size, 0, none⟩) len len) (w.alloc (.cells cur B.elem (0, 0)))) ∧ M' = M.push B ∧ Holds ρ B cur ∧ ∀ (ρ' : Rho) (g : Nat), ρ' M.top = some (g, cur.size) → rel ρ' v (.slice (some ⟨g, 0, none⟩) len len) := by
  unfold evBuildSlice at he
  split at he
  · rename_i e s hse
    obtain ⟨hu, hs⟩ := sliceElem_spec hse
    split at he
    · rename_i z hz
      split at he
      · rename_i hsm
        split at he
        · rename_i cs hf
          split at he
          · rename_i hlen
            simp at he
            obtain ⟨rfl, rfl⟩ := he
            obtain ⟨uo, h1, h2⟩ := fillA_sound ps ups.toList _ ((Array.range (len * s)).map (fun i => z.cells[i % z.cells.size]!)) cs hl hp (rels.lits _) hf
            have h3 := h2.len
            refine ⟨uo, ⟨cs, e, none⟩, fun w => ?_, rfl, .plain fun i x hx => (by obtain ⟨y, h4, h5⟩ := h2.get i x hx; exact ⟨y, by simpa using h4, h5⟩), fun ρ' g hg => ?_⟩
            · have h16 : ¬ (len * s > 2 ^ 24) := by omega
              by_cases h0 : len * s = 0
              · have hb : ((Array.range (len * s)).map (fun i => z.cells[i % z.cells.size]!)) = #[] := by simp [h0]
                rw [hb] at h1
                have hr : (Array.map (fun (x : Nat) => (default : Value)) (Array.range 0)) = #[] := Array.eq_empty_of_size_eq_zero (by simp)
                simp [Instr.buildSlice, run_underlying hu, run_szT hs, h0, newRow]
                rw [hr, h1]
                simp
              · have h16' : ¬ (16777216 < len * s) := by omega
                simp [Instr.buildSlice, run_underlying hu, run_szT hs, h0, run_zeroA hz, h16', h1, newRow]
            · simp only [rel]
              refine ⟨_, _, len, hg, rfl, Nat.le_refl _, ?_, fun k hk => by simpa using hk, ?_⟩
              · have := hsm.2; unfold maxLen; omega
              · simp only [Array.length_toList] at h3; omega
          · cases he
        · cases he
      · cases he
    · cases he
  · cases he
theorem early_make {P : Program} {call : CallT} {ρ : Rho} {M M' : Mem} {F : Fr} {a : Act} (hF : FR ρ F a) {o : Oper} (hc : (∃ t z, o.op = .alloc t ∧ zeroA P t = some z) ∨ ∃ t n ps, o.op = .buildSlice t n ps) {v : AV} (he : evOp1 P call F M o = some (v, M')) (hnl : ∀ u, v ≠ .lit u) (w : World) :
    ∃ u cur B, (execOp a.eval o).run P w = .ok (.value u) (w.alloc (.cells cur B.elem (0, 0))) ∧ M' = M.push B ∧ Holds ρ B cur ∧ ∀ ρ' : Rho, ρ' M.top = some (w.heap.size, cur.size) → rel ρ' v u := by
  rcases hc with ⟨t, z, hop, hz⟩ | ⟨t, n, ps, hop⟩
  · rw [ev_alloc hop hz w] at he
    simp only [Option.some.injEq, Prod.mk.injEq] at he
    obtain ⟨rfl, rfl⟩ := he
    refine ⟨_, z.cells, ⟨cellsA (.lit z), t, none⟩, run_alloc hop hz w, rfl, .plain fun k x hx => ?_, fun ρ' hr => ?_⟩
    · obtain ⟨y, r1, r2⟩ := (show rel ρ (.lit z) z by simp [rel]).cells.get k x hx
      exact ⟨y, by simpa using r1, r2⟩
    · simp only [rel]
      exact ⟨_, _, hr, rfl⟩
  · unfold evOp1 at he
    split at he
    · rename_i c hc; rw [hop] at hc; cases hc
    · rw [evOp_def] at he
      split at he
      · rename_i v' hr
        exfalso
        simp at he
        obtain ⟨rfl, _⟩ := he
        rw [evRead_def] at hr
        have e1 : evRead' P F M o = none := by unfold evRead'; rw [hop]
        rw [e1] at hr
        simp only at hr
        unfold evPure at hr
        split at hr
        · split at hr
          · simp at hr; exact hnl _ hr.symm
          · cases hr
        · cases hr
      · unfold evEff at he
        rw [hop] at he
        simp only [eSlice] at he
        obtain ⟨l, hl, he⟩ := obind_some he
        obtain ⟨h1, h2⟩ := partsX_sound hF _ _ hl
        have e : (ps.map fun (p : Nat × Operand) => (p.1, a.eval p.2)).toList = ps.toList.map fun p => (p.1, a.eval p.2) := by simp
        obtain ⟨cur, B, k1, k2, k3, k4⟩ := build_make (ups := ps.map fun (p : Nat × Operand) => (p.1, a.eval p.2)) (ρ := ρ) (by rw [e]; exact h1) (by rw [e]; exact h2) he
        refine ⟨_, cur, B, ?_, k2, k3, fun ρ' hr => k4 ρ' _ hr⟩
        unfold execOp
        rw [hop]
        simp only [Sem.run_bind]
        rw [show (ps.map fun (x : Nat × Operand) => (x.1, a.eval x.2)) = ps.map fun (p : Nat × Operand) => (p.1, a.eval p.2) from rfl, k1 w]
        rfl
theorem WR.adopt {w0 : World} {ρ : Rho} {M : Mem} {w : World} (h : WR w0 ρ M w) (B : Blk) {us : Array Value} {g : Nat} (hg : w.heap[g]? = some (.cells us B.elem (0, 0))) (hL : Lone w0 ρ M w g) (hx : Holds ρ B us) : WR w0 (upd ρ M.top (g, us.size)) (M.push B) w := by
  have hE := h.fresh (g, us.size)
  have key : ∀ (b : Nat) (C : Blk) (g' t : Nat), (M.push B).get b = some C → upd ρ M.top (g, us.size) b = some (g', t) → (b = M.top ∧ C = B ∧ g' = g ∧ t = us.size) ∨ (b < M.top ∧ M.get b = some C ∧ ρ b = some (g', t)) := fun b C g' t hb hr => by
    rcases Mem.get_push hb with ⟨rfl, rfl⟩ | ⟨hlt, hb'⟩
    · rw [upd_same] at hr; simp at hr; exact .inl ⟨rfl, rfl, hr.1.symm, hr.2.symm⟩
    · rw [upd_other _ _ (by omega)] at hr
      exact .inr ⟨hlt, hb', hr⟩
  refine ⟨h.keep, fun b x hb => ?_, fun b hb => ?_, fun b C g' tot hb hg' => ?_, fun b C hb => ?_, fun b b' C C' g' t t' h1 h2 h3 h4 => ?_, fun g' o v hv => h.still g' o v hv, h.first, fun b C g' t hb hg' o => ?_⟩
  · simp only [Mem.push]
    by_cases e : b = M.top
    · omega
    · rw [upd_other _ _ e] at hb
      have := h.dom b x hb; omega
  · have h1 := h.nild b hb
    refine ⟨by simp only [Mem.push]; omega, ?_⟩
    rw [upd_other _ _ (by omega)]; exact h1.2
  · rcases key b C g' tot hb hg' with ⟨rfl, rfl, rfl, rfl⟩ | ⟨_, e1, e2⟩
    · exact ⟨.inl hL.ge, us, hg, rfl, hx.ext hE⟩
    · obtain ⟨h2, cur, h3, h4, h5⟩ := h.holds e1 e2
      exact ⟨h2, cur, h3, h4, h5.ext hE⟩
  · rcases Mem.get_push hb with ⟨rfl, rfl⟩ | ⟨hlt, hb'⟩
    · exact .inl ⟨_, _, upd_same _ _ _⟩
    · rcases h.has b C hb' with ⟨g', t, e⟩ | e
      · exact .inl ⟨g', t, hE.blk _ _ e⟩
      · exact .inr e
  · rcases key b C g' t h1 h3 with ⟨e1, _, e2, _⟩ | ⟨e1, e2, e3⟩ <;> rcases key b' C' g' t' h2 h4 with ⟨f1, _, f2, _⟩ | ⟨f1, f2, f3⟩
    · omega
    · subst e2; exact (hL.dead b' C' t' f2 f3).elim
    · subst f2; exact (hL.dead b C t e2 e3).elim
    · exact h.inj b b' C C' g' t t' e2 f2 e3 f3
  · rcases key b C g' t hb hg' with ⟨_, _, rfl, _⟩ | ⟨_, e1, e2⟩
    · exact hL.still o
    · exact h.apart b C g' t e1 e2 o
theorem WR.extra {w0 : World} {ρ : Rho} {M : Mem} {w : World} (h : WR w0 ρ M w) (o : Obj) : WR w0 ρ M (w.alloc o) :=
  ⟨h.keep.alloc o, h.dom, h.nild, fun b B g tot h1 h2 => by
    obtain ⟨q1, cur, q3, q4, q5⟩ := h.holds h1 h2
    exact ⟨q1, cur, by rw [heap_alloc_old w _ (Array.getElem?_eq_some_iff.1 q3).1]; exact q3, q4, q5⟩, h.has, h.inj, fun g o' v hv => by
    have hlt := h.still_lt hv
    have := h.still g o' v hv
    simp only [World.cell?] at this ⊢
    rw [heap_alloc_old w _ hlt]; exact this, h.first, h.apart⟩
structure Done (P : Program) (ops : Array Oper) (es : List (AV × Mem)) (F0 : Fr) (listed : Array Bool) (i0 : Nat) (ρ : Rho) (a : Act) : Prop where
  size : F0.length = a.tmps.size
  defers : a.defers = Dfs.ds
  wrote : ∀ (j : Nat) (o : Oper) (t : Nat) (v : AV) (M : Mem), ops[j]? = some o → o.dst = some t → listed.getD j false = true → (fl P ops j = true → j < i0) → es[j]? = some (v, M) → t < a.tmps.size → rel ρ v (a.tmps.getD t undef)
  stood : ∀ (t : Nat) (v : AV), (∀ (j : Nat) (o : Oper), ops[j]? = some o → o.dst = some t → listed.getD j false = false) → F0[t]? = some (some v) → rel ρ v (a.tmps.getD t undef)
theorem Done.ext {P : Program} {ops : Array Oper} {es : List (AV × Mem)} {F0 : Fr} {listed : Array Bool} {i0 : Nat} {ρ ρ' : Rho} {a : Act} (h : Done P ops es F0 listed i0 ρ a) (he : Ext ρ ρ') : Done P ops es F0 listed i0 ρ' a :=
  ⟨h.size, h.defers, fun j o t v M h1 h2 h3 h6 h4 h5 => (h.wrote j o t v M h1 h2 h3 h6 h4 h5).ext he, fun t v h1 h2 => (h.stood t v h1 h2).ext he⟩
def Closed (ops : Array Oper) (listed : Array Bool) : Prop := ∀ (i : Nat) (o : Oper), ops[i]? = some o → listed.getD i false = true → ∀ p ∈ preds o, listed.getD p false = true
theorem Closed.reach {ops : Array Oper} {listed : Array Bool} (h : Closed ops listed) {i j : Nat} (hr : Reach ops i j) : listed.getD i false = true → listed.getD j false = true := by
  induction hr with
  | one ho hp => exact fun hi => h _ _ ho hi _ hp
  | more ho hp _ ih => exact fun hi => ih (h _ _ ho hi _ hp)
theorem Closed.ready {ops : Array Oper} {listed : Array Bool} (h : Closed ops listed) {i j : Nat} {o : Oper} (ho : ops[i]? = some o) (hp : ∀ p ∈ preds o, listed.getD p false = true) (hr : Reach ops i j) : listed.getD j false = true := by
  cases hr with
  | one ho' hj => rw [ho] at ho'; simp at ho'; subst ho'; exact hp _ hj
  | more ho' hq hr' => rw [ho] at ho'; simp at ho'; subst ho'; exact h.reach hr' (hp _ hq)
theorem getD_setB (listed : Array Bool) (i j : Nat) (d : Bool) : (listed.setIfInBounds i true).getD j d = if i = j ∧ i < listed.size then true else listed.getD j d := by
  rw [Array.getD_eq_getD_getElem?, Array.getElem?_setIfInBounds, Array.getD_eq_getD_getElem?]
  by_cases h : i = j
  · subst h
    by_cases h2 : i < listed.size
    · simp [h2]
    · simp [h2]
  · simp [h]
theorem Done.at {P : Program} {ops : Array Oper} (hS : StatOk P ops) {es : List (AV × Mem)} {F0 : Fr} {listed : Array Bool} {i0 : Nat} {ρ : Rho} {a : Act} (h : Done P ops es F0 listed i0 ρ a) (hl : es.length = ops.size) (hc : Closed ops listed) {i : Nat} {o : Oper} (ho : ops[i]? = some o)
    (hi : listed.getD i false = false) (hp : ∀ p ∈ preds o, listed.getD p false = true) (hnf : ∀ (j : Nat) (p : Oper) (d : Tmp), ops[j]? = some p → j < i → fl P ops j = true → p.dst = some d → d ∈ o.looksAt ops → j < i0) : FR ρ (rst (frAt ops.toList es F0 i) (o.looksAt ops)) a := by
  have hlt : i < ops.size := (Array.getElem?_eq_some_iff.1 ho).1
  have h0 := (frAt_get ops.toList es F0 i 0 (by simp; omega) (by simpa using hl)).1
  refine ⟨by simp [rst, h0, h.size], fun t v hv => ?_, h.defers⟩
  obtain ⟨ht, hv'⟩ := rst_some hv
  rcases (frAt_get ops.toList es F0 i t (by simp; omega) (by simpa using hl)).2 with ⟨j, p, v', M', q1, q2, q3, q4, q5⟩ | ⟨q1, q2⟩
  · have e := q5 v hv'
    subst e
    have hj : ops[j]? = some p := by simpa using q2
    have hd : listed.getD j false = true := by
      rcases hS.look i o j p t ho hj (by omega) q3 ht with hr | hr
      · exact hc.ready ho hp hr
      · have := hr.lt hS; omega
    have hsz : t < a.tmps.size := by
      rw [← h.size, ← h0]
      exact (List.getElem?_eq_some_iff.1 hv').1
    exact h.wrote j p t v M' hj q3 hd (fun hf => hnf j p t hj q1 hf q3 ht) q4 hsz
  · rw [q2] at hv'
    refine h.stood t v (fun j p hj hd => ?_) hv'
    by_cases hji : j = i
    · subst hji; exact hi
    · have hge : ¬ j < i := fun hlt' => q1 j p hlt' (by simpa using hj) hd
      rcases hS.look i o j p t ho hj hji hd ht with hr | hr
      · have := hr.lt hS; omega
      · cases hlj : listed.getD j false with
        | false => rfl
        | true => rw [hc.reach hr hlj] at hi; cases hi
theorem Done.step {P : Program} {ops : Array Oper} (hS : StatOk P ops) {es : List (AV × Mem)} {F0 : Fr} {listed : Array Bool} {i0 : Nat} {ρ : Rho} {a : Act} (h : Done P ops es F0 listed i0 ρ a) {i : Nat} {o : Oper} (ho : ops[i]? = some o) (hlt : i < listed.size) {v : AV} {M : Mem} (hv : es[i]? = some (v, M)) {u : Value} (hu : (fl P ops i = true → i < i0) → rel ρ v u) :
    Done P ops es F0 (listed.setIfInBounds i true) i0 ρ (a.put o.dst u) := by
  have hsz : (a.put o.dst u).tmps.size = a.tmps.size := by cases o.dst <;> simp [Act.put]
  refine ⟨by rw [hsz]; exact h.size, by cases hd : o.dst <;> simp [Act.put, h.defers], fun j p t v' M' hj hd hl hfl he ht => ?_, fun t v' hn hF => ?_⟩
  · rw [hsz] at ht
    by_cases hji : j = i
    · subst hji
      rw [ho] at hj; simp at hj; subst hj
      rw [hv] at he; simp at he
      obtain ⟨rfl, rfl⟩ := he
      rw [hd]
      simp only [Act.put, Array.getD_eq_getD_getElem?, Array.getElem?_setIfInBounds, if_true, if_pos ht]
      exact hu hfl
    · rw [getD_setB, if_neg (by omega)] at hl
      have := h.wrote j p t v' M' hj hd hl hfl he ht
      cases hod : o.dst with
      | none => exact this
      | some d =>
        have hne : d ≠ t := fun e => by
          subst e
          exact hS.apart i o j p d ho hj hji hd hod
        simp only [Act.put, Array.getD_eq_getD_getElem?, Array.getElem?_setIfInBounds]
        rw [if_neg hne, ← Array.getD_eq_getD_getElem?]
        exact this
  · have hno : o.dst ≠ some t := fun e => by
      have := hn i o ho e
      rw [getD_setB, if_pos ⟨rfl, hlt⟩] at this
      cases this
    have := h.stood t v' (fun j p hj hd => by
      have := hn j p hj hd
      rw [getD_setB] at this
      split at this
      · cases this
      · exact this) hF
    cases hod : o.dst with
    | none => exact this
    | some d =>
      simp only [Act.put, Array.getD_eq_getD_getElem?, Array.getElem?_setIfInBounds]
      rw [if_neg (fun e => hno (by rw [hod, e])), ← Array.getD_eq_getD_getElem?]
      exact this
def Early (P : Program) (ops : Array Oper) (listed : Array Bool) (i0 e : Nat) : Prop := fl P ops e = true ∧ i0 ≤ e ∧ listed.getD e false = true
structure St (P : Program) (ops : Array Oper) (es : List (AV × Mem)) (F0 : Fr) (M0 : Mem) (w0 : World) (ρ0 : Rho) (listed : Array Bool) (a : Act) (w : World) (ρ : Rho) (i0 : Nat) (G : Nat → Nat) : Prop where
  ext : Ext ρ0 ρ
  wr : WR w0 ρ (memAt es M0 i0) w
  done : Done P ops es F0 listed i0 ρ a
  early : ∀ (e : Nat) (o : Oper), ops[e]? = some o → Early P ops listed i0 e → ∃ u cur B, (∀ d, o.dst = some d → d < a.tmps.size → a.tmps.getD d undef = u) ∧ w.heap[G e]? = some (.cells cur B.elem (0, 0)) ∧ Lone w0 ρ (memAt es M0 i0) w (G e) ∧ Made es M0 ρ e (G e) B cur u
  two : ∀ e e', Early P ops listed i0 e → Early P ops listed i0 e' → G e = G e' → e = e'
structure Inv (P : Program) (ops : Array Oper) (es : List (AV × Mem)) (F0 : Fr) (M0 : Mem) (w0 : World) (ρ0 : Rho) (listed : Array Bool) (a : Act) (w : World) : Prop where
  size : listed.size = ops.size
  closed : Closed ops listed
  st : ∃ (ρ : Rho) (i0 : Nat) (G : Nat → Nat), (i0 = 0 ∨ ∃ (e : Nat) (o : Oper), ops[e]? = some o ∧ isEff o = true ∧ i0 = e + 1) ∧
    (∀ (e : Nat) (o : Oper), ops[e]? = some o → isEff o = true → e < i0 → listed.getD e false = true) ∧
    (∀ (e : Nat) (o : Oper), ops[e]? = some o → isEff o = true → fl P ops e = false → listed.getD e false = true → e < i0) ∧
    St P ops es F0 M0 w0 ρ0 listed a w ρ i0 G
theorem mem_same {P : Program} {call : CallT} {ops : Array Oper} {es : List (AV × Mem)} {F0 : Fr} {M0 : Mem} (hs : evSeq P call ops ops.toList F0 M0 = some es) : ∀ (k i : Nat), i + k ≤ ops.size → (∀ (e : Nat) (o : Oper), i ≤ e → e < i + k → ops[e]? = some o → isEff o = false) → memAt es M0 (i + k) = memAt es M0 i
  | 0, i, _, _ => rfl
  | k + 1, i, hle, hn => by
    have ih := mem_same hs k i (by omega) (fun e o h1 h2 h3 => hn e o h1 (by omega) h3)
    have hlt : i + k < ops.size := by omega
    have ho : ops.toList[i + k]? = some ops[i + k] := by simp [hlt]
    obtain ⟨_, h2⟩ := evSeq_spec _ _ _ _ hs
    obtain ⟨v, _, h3⟩ := h2 (i + k) _ ho
    have hne := hn (i + k) ops[i + k] (by omega) (by omega) (by simp [hlt])
    have : memAt es M0 (i + k + 1) = memAt es M0 (i + k) := by
      rcases h3 with ⟨_, h4, _⟩ | ⟨_, _, _, h4⟩ | ⟨_, _, h4⟩
      · rw [hne] at h4; cases h4
      · exact h4.1
      · exact h4
    rw [← ih, ← this]; rfl
theorem grow_at {P : Program} {call : CallT} (hcall : CallGrow call) {ops : Array Oper} {es : List (AV × Mem)} {F0 : Fr} {M0 : Mem} (hs : evSeq P call ops ops.toList F0 M0 = some es) (hO : ∀ x ∈ obSeq P call ops ops.toList es F0 M0, x = true) : ∀ (k i : Nat), i + k ≤ ops.size → Grow (memAt es M0 i) (memAt es M0 (i + k))
  | 0, i, _ => Grow.refl _
  | k + 1, i, hle => by
    have ih := grow_at hcall hs hO k i (by omega)
    have hlt : i + k < ops.size := by omega
    have ho : ops.toList[i + k]? = some ops[i + k] := by simp [hlt]
    obtain ⟨h1, h2⟩ := evSeq_spec _ _ _ _ hs
    obtain ⟨v, _, h3⟩ := h2 (i + k) _ ho
    have hob := obSeq_spec _ _ _ _ hO h1 (i + k) _ ho
    refine ih.trans ?_
    show Grow (memAt es M0 (i + k)) (memAt es M0 (i + k + 1))
    rcases h3 with ⟨h4, _, h5⟩ | ⟨_, _, _, h4⟩ | ⟨_, _, h4⟩
    · exact evOp1_grow hcall h5 (hob h4)
    · rw [h4.1]; exact Grow.refl _
    · rw [h4]; exact Grow.refl _
theorem Mem.get_put_ne {M : Mem} {b b' : Nat} (B : Option Blk) (hb : b' < M.top) (hne : b ≠ b') : (M.put b' B).get b = M.get b := by
  rw [Mem.put_def, Mem.get_def, Mem.get_def]
  by_cases h : b < M.top
  · simp only [h, if_true, List.getElem?_set]
    rw [if_neg (by omega)]
  · simp only [h, if_false]
theorem get_put_push {M : Mem} {b b' : Nat} {C : Option Blk} {B : Blk} (h : b < M.top) (hb : b' < M.top) (hne : b ≠ b') : ((M.put b' C).push B).get b = M.get b := by
  rw [Mem.get_push_old _ _ (by simpa [Mem.put] using h)]
  exact Mem.get_put_ne _ hb hne
theorem evAppend_keeps {P : Program} {M M' : Mem} {t : TypeId} {x y v : AV} {b b' : Nat} (he : evAppend P M t x y = some (v, M')) (hx : blkA x = some b') (hne : b ≠ b') (h : b < M.top) : M'.get b = M.get b := by
  unfold evAppend at he
  split at he
  · split at he
    · cases he
    · split at he
      · split at he
        · split at he
          · simp at he; rw [← he.2]
          · simp at he; rw [← he.2]
          · cases he
        · split at he
          · split at he
            · cases hx
            · split at he
              · split at he
                · simp at he; rw [← he.2]; exact Mem.get_push_old _ _ h
                · cases he
              · cases he
            · simp only [blkA, Option.some.injEq] at hx
              subst hx
              split at he
              · rename_i B hB
                split at he
                · simp at he; rw [← he.2]; exact get_put_push h (Mem.get_lt hB) hne
                · cases he
              · cases he
            · cases he
          · cases he
      · cases he
  · cases he
theorem evAppendS_keeps {P : Program} {M M' : Mem} {t : TypeId} {x y v : AV} {b b' : Nat} (he : evAppendS P M t x y = some (v, M')) (hx : blkA x = some b') (hne : b ≠ b') (h : b < M.top) : M'.get b = M.get b := by
  unfold evAppendS at he
  split at he
  · split at he
    · cases he
    · split at he
      · split at he
        · split at he
          · cases hx
          · simp only [blkA, Option.some.injEq] at hx
            subst hx
            split at he
            · rename_i B hB
              split at he
              · split at he
                · simp at he; rw [← he.2]; exact get_put_push h (Mem.get_lt hB) hne
                · cases he
              · cases he
            · cases he
          · cases he
        · cases he
      · cases he
  · cases he
theorem evAppend2_keeps {P : Program} {M M' : Mem} {t : TypeId} {x y v : AV} {b b' : Nat} (he : evAppend2 P M t x y = some (v, M')) (hx : blkA x = some b') (hne : b ≠ b') (h : b < M.top) : M'.get b = M.get b := by
  rw [evAppend2_def] at he
  split at he
  · rename_i r hr
    simp at he; subst he
    exact evAppend_keeps hr hx hne h
  · unfold evAppendT at he
    split at he
    · rename_i Mx hr
      unfold slRows at hr
      split at hr
      · rename_i b2 o n c s
        simp only [blkA, Option.some.injEq] at hx
        subst hx
        split at hr
        · rename_i B hB
          split at hr
          · simp at hr
            subst hr
            rw [evAppendS_keeps he rfl hne (by simpa [Mem.put] using h)]
            exact Mem.get_put_ne _ (Mem.get_lt hB) hne
          · cases hr
        · cases hr
      · cases hr
    · exact evAppendS_keeps he hx hne h
theorem append_keeps {P : Program} {call : CallT} {F : Fr} {M M' : Mem} {o : Oper} {c : Call} {x y : Operand} {u v : AV} {b b' : Nat} (hop : o.op = .call c) (hc : c.callee = .builtin .append) (ha : c.args.toList = [x, y]) (hx : evX F x = some u) (he : evOp1 P call F M o = some (v, M')) (hb : blkA u = some b') (hne : b ≠ b') (h : b < M.top) : M'.get b = M.get b := by
  unfold evOp1 at he
  rw [hop] at he
  simp only at he
  have e1 : calleeA F c = none := by unfold calleeA; rw [hc]
  rw [e1] at he
  simp only at he
  rw [evOp_def] at he
  split at he
  · simp at he; rw [← he.2]
  · unfold evEff at he
    rw [hop] at he
    simp only [eAppend, hc, ha] at he
    split at he
    · rename_i x' y' t t' e1 e2
      simp at e1
      obtain ⟨rfl, rfl⟩ := e1
      split at he
      · obtain ⟨u', h1, he⟩ := obind_some he
        obtain ⟨v', h2, he⟩ := obind_some he
        rw [hx] at h1
        simp at h1; subst h1
        exact evAppend2_keeps he hb hne h
      · cases he
    · cases he
theorem stays_spec {P : Program} {call : CallT} (hcall : CallGrow call) {ops : Array Oper} {es : List (AV × Mem)} {F0 : Fr} {M0 : Mem} (hs : evSeq P call ops ops.toList F0 M0 = some es) (hO : ∀ x ∈ obSeq P call ops ops.toList es F0 M0, x = true) {b k : Nat} (hk : k < ops.size) (h : stays ops es F0 M0 b k = true) : (memAt es M0 (k + 1)).get b = (memAt es M0 k).get b := by
  unfold stays at h
  rw [Bool.or_eq_true] at h
  rcases h with h | h
  · simp only [Bool.and_eq_true, Nat.blt_eq] at h
    exact (grow_at hcall hs hO 1 k (by omega)).same (Nat.eq_of_beq_eq_true h.1).symm b h.2
  · obtain ⟨_, hspec⟩ := evSeq_spec _ _ _ _ hs
    have ho : ops[k]? = some ops[k] := by simp [hk]
    obtain ⟨v, _, hstep⟩ := hspec k ops[k] (by simp [hk])
    rw [ho] at h
    simp only at h
    split at h
    · rename_i t x y hop
      split at h
      · rename_i b' q hx
        have hne : b ≠ b' := fun e => by subst e; simp at h
        rcases hstep with ⟨_, _, h3⟩ | ⟨_, _, _, h4, _⟩ | ⟨_, _, h4⟩
        · unfold evOp1 at h3
          rw [hop] at h3
          simp only at h3
          rw [evOp_def] at h3
          split at h3
          · simp at h3; rw [← h3.2]
          · unfold evEff at h3
            rw [hop] at h3
            simp only [eStore, hx, obind] at h3
            obtain ⟨u, _, h3⟩ := obind_some h3
            obtain ⟨M2, h5, h3⟩ := obind_some h3
            simp at h3
            have h5 : evStore P (memAt es M0 k) t (.ptr b' q) u = some M2 := by
              rw [evStore2_def] at h5
              split at h5
              · rename_i r hr; simp at h5; subst h5; exact hr
              · unfold evStoreR at h5
                split at h5
                · rename_i e1 _; cases e1
                · cases h5
            unfold evStore at h5
            split at h5
            · rename_i b2 o2 n2 e1 e2
              simp at e1
              obtain ⟨rfl, rfl⟩ := e1
              split at h5
              · rename_i B hB
                split at h5
                · simp at h5
                  rw [← h3.2, ← h5]
                  exact Mem.get_put_ne _ (Mem.get_lt hB) hne
                · cases h5
              · cases h5
            · cases h5
        · rw [h4]
        · rw [h4]
      · rename_i b' qi qs q hx
        have hne : b ≠ b' := fun e => by subst e; simp at h
        rcases hstep with ⟨_, _, h3⟩ | ⟨_, _, _, h4, _⟩ | ⟨_, _, h4⟩
        · unfold evOp1 at h3
          rw [hop] at h3
          simp only at h3
          rw [evOp_def] at h3
          split at h3
          · simp at h3; rw [← h3.2]
          · unfold evEff at h3
            rw [hop] at h3
            simp only [eStore, hx, obind] at h3
            obtain ⟨u, _, h3⟩ := obind_some h3
            obtain ⟨M2, h5, h3⟩ := obind_some h3
            simp at h3
            rw [evStore2_def] at h5
            split at h5
            · rename_i r hr
              unfold evStore at hr
              split at hr
              · rename_i e1 _; cases e1
              · cases hr
            · unfold evStoreR at h5
              split at h5
              · rename_i b2 i2 s2 o2 n2 e1 e2
                simp at e1
                obtain ⟨rfl, rfl, rfl, rfl⟩ := e1
                split at h5
                · rename_i B hB
                  split at h5
                  · split at h5
                    · simp at h5
                      rw [← h3.2, ← h5]
                      exact Mem.get_put_ne _ (Mem.get_lt hB) hne
                    · cases h5
                  · cases h5
                · cases h5
              · cases h5
        · rw [h4]
        · rw [h4]
      · cases h
    · rename_i c hop
      split at h
      · rename_i hcal
        split at h
        · rename_i x y hargs
          split at h
          · rename_i u hx
            split at h
            · rename_i b' hb'
              rw [Bool.and_eq_true] at h
              have hne : b ≠ b' := fun e => by subst e; simp at h
              have hlt : b < (memAt es M0 k).top := by simpa [Nat.blt_eq] using h.2
              rcases hstep with ⟨_, _, h3⟩ | ⟨_, _, _, h4, _⟩ | ⟨_, _, h4⟩
              · exact append_keeps hop hcal hargs hx h3 hb' hne hlt
              · rw [h4]
              · rw [h4]
            · cases h
          · cases h
        · cases h
      · cases h
    · cases h
theorem staysTo_spec {P : Program} {call : CallT} (hcall : CallGrow call) {ops : Array Oper} {es : List (AV × Mem)} {F0 : Fr} {M0 : Mem} (hs : evSeq P call ops ops.toList F0 M0 = some es) (hO : ∀ x ∈ obSeq P call ops ops.toList es F0 M0, x = true) {b lo : Nat} : ∀ n, lo + n ≤ ops.size → staysTo ops es F0 M0 b lo n = true → (memAt es M0 (lo + n)).get b = (memAt es M0 lo).get b
  | 0, _, _ => rfl
  | n + 1, hn, h => by
    simp only [staysTo, Bool.and_eq_true] at h
    rw [← staysTo_spec hcall hs hO n (by omega) h.2]
    exact stays_spec hcall hs hO (k := lo + n) (by omega) h.1
theorem load_same {P : Program} {F' : Fr} {o : Oper} {M M' : Mem} {t : TypeId} {x : Operand} (ho : o.op = .load t x) {b : Nat} (hv : (∃ q, evX F' x = some (.ptr b q)) ∨ ∃ i s q, evX F' x = some (.rptr b i s q)) (same : M.get b = M'.get b) : evRead P F' M o = evRead P F' M' o ∧ obRead F' M o = obRead F' M' o := by
  have key : (obind (evX F' x) fun v => evLoad P M t v) = (obind (evX F' x) fun v => evLoad P M' t v) ∧ (obind (evX F' x) fun v => obLoad M v) = (obind (evX F' x) fun v => obLoad M' v) := by
    rcases hv with ⟨q, hv⟩ | ⟨i, s, q, hv⟩
    · rw [hv]; simp only [obind, evLoad, obLoad, same, and_self]
    · rw [hv]; simp only [obind, evLoad, obLoad, same, and_self]
  constructor
  · rw [evRead_def, evRead_def]
    unfold evRead' fLoad
    rw [ho]
    simp only
    rw [key.1]
  · unfold obRead
    rw [ho]
    exact key.2
theorem calmB_spec {P : Program} {call : CallT} (hcall : CallGrow call) {ops : Array Oper} {es : List (AV × Mem)} {F0 : Fr} {M0 : Mem} (hs : evSeq P call ops ops.toList F0 M0 = some es) (hO : ∀ x ∈ obSeq P call ops ops.toList es F0 M0, x = true) {o : Oper} {i p : Nat} (hi : i ≤ ops.size) (hp : p ≤ ops.size) (h : calmB ops es F0 M0 o i p = true) :
    evRead P (frAt ops.toList es F0 i) (memAt es M0 p) o = evRead P (frAt ops.toList es F0 i) (memAt es M0 i) o ∧ obRead (frAt ops.toList es F0 i) (memAt es M0 p) o = obRead (frAt ops.toList es F0 i) (memAt es M0 i) o := by
  have same : ∀ b, (staysTo ops es F0 M0 b p (i - p) && staysTo ops es F0 M0 b i (p - i)) = true → (memAt es M0 p).get b = (memAt es M0 i).get b := fun b hb => by
    rw [Bool.and_eq_true] at hb
    rcases Nat.le_total p i with hh | hh
    · have := staysTo_spec hcall hs hO (i - p) (by omega) hb.1
      rw [show p + (i - p) = i by omega] at this
      exact this.symm
    · have := staysTo_spec hcall hs hO (p - i) (by omega) hb.2
      rwa [show i + (p - i) = p by omega] at this
  unfold calmB at h
  split at h
  · rename_i t x ho
    split at h
    · rename_i b q hv; exact load_same ho (.inl ⟨q, hv⟩) (same b h)
    · rename_i b i' s q hv; exact load_same ho (.inr ⟨i', s, q, hv⟩) (same b h)
    · cases h
  · cases h
theorem noEff_ob {P : Program} {call : CallT} {F : Fr} {M : Mem} {o : Oper} {v : AV} (he : isEff o = false) (hr : evRead P F M o = some v) : obOp1 P call F M o = obRead F M o := by
  have : obOp P F M o = obRead F M o := by unfold obOp; rw [hr]
  unfold obOp1
  split
  · rename_i c ho
    split
    · rename_i f args hc
      exfalso
      simp only [isEff, ho] at he
      unfold calleeA at hc
      split at hc
      · rename_i x hcx; rw [hcx] at he; cases he
      · cases hc
    · exact this
  · exact this
theorem Lone.extra {w0 : World} {ρ : Rho} {M : Mem} {w : World} {g : Nat} (h : Lone w0 ρ M w g) (o : Obj) : Lone w0 ρ M (w.alloc o) g := ⟨h.ge, by have := h.lt; simp; omega, h.still, h.dead⟩
theorem Done.up {P : Program} {ops : Array Oper} {es : List (AV × Mem)} {F0 : Fr} {listed : Array Bool} {i0 : Nat} {ρ : Rho} {a : Act} (h : Done P ops es F0 listed i0 ρ a) (hf : fl P ops i0 = false) : Done P ops es F0 listed (i0 + 1) ρ a :=
  ⟨h.size, h.defers, fun j o t v M h1 h2 h3 h6 h4 h5 => h.wrote j o t v M h1 h2 h3 (fun hh => by
    have := h6 hh
    have hne : j ≠ i0 := fun e => by subst e; rw [hf] at hh; cases hh
    omega) h4 h5, h.stood⟩
theorem St.next {P : Program} {call : CallT} {ops : Array Oper} (hS : StatOk P ops) {es : List (AV × Mem)} {F0 : Fr} {M0 : Mem} {w0 : World} {ρ0 : Rho} (hs : evSeq P call ops ops.toList F0 M0 = some es) {listed : Array Bool} {a : Act} {w : World} {ρ : Rho} {i0 : Nat} {G : Nat → Nat}
    (h : St P ops es F0 M0 w0 ρ0 listed a w ρ i0 G) {o : Oper} (ho : ops[i0]? = some o) (hc : isEff o = false ∨ (fl P ops i0 = true ∧ listed.getD i0 false = true)) : ∃ ρ', St P ops es F0 M0 w0 ρ0 listed a w ρ' (i0 + 1) G := by
  obtain ⟨hlen, hspec⟩ := evSeq_spec _ _ _ _ hs
  have hlt : i0 < ops.size := (Array.getElem?_eq_some_iff.1 ho).1
  have down : ∀ e, Early P ops listed (i0 + 1) e → Early P ops listed i0 e := fun e he => ⟨he.1, by have := he.2.1; omega, he.2.2⟩
  rcases hc with hc | ⟨hf, hl⟩
  · have hm : memAt es M0 (i0 + 1) = memAt es M0 i0 := mem_same hs 1 i0 (by omega) (fun e o' h1 h2 h3 => by
      have e' : e = i0 := by omega
      subst e'
      rw [ho] at h3; simp at h3; subst h3
      exact hc)
    have hnf : fl P ops i0 = false := by
      cases hh : fl P ops i0 with
      | false => rfl
      | true => rw [fl_eff ho hh] at hc; cases hc
    refine ⟨ρ, h.ext, by rw [hm]; exact h.wr, h.done.up hnf, fun e o' h1 he => ?_, fun e e' h1 h2 h3 => h.two e e' (down e h1) (down e' h2) h3⟩
    rw [hm]
    exact h.early e o' h1 (down e he)
  · have hEff := fl_eff ho hf
    obtain ⟨v, hv, hstep⟩ := hspec i0 o (by simpa using ho)
    have hE0 : Early P ops listed i0 i0 := ⟨hf, Nat.le_refl _, hl⟩
    obtain ⟨u, cur, B, q1, q2, q3, q4⟩ := h.early i0 o ho hE0
    have hm : (memAt es M0 i0).push B = memAt es M0 (i0 + 1) := q4.mem.symm
    have hfr := h.wr.fresh (G i0, cur.size)
    refine ⟨upd ρ (memAt es M0 i0).top (G i0, cur.size), h.ext.trans hfr, ?_, ⟨h.done.size, h.done.defers, fun j p d v' M' h1 h2 h3 h6 h4 h5 => ?_, fun d v' h1 h2 => (h.done.stood d v' h1 h2).ext hfr⟩, fun e o' h1 he => ?_, fun e e' h1 h2 h3 => h.two e e' (down e h1) (down e' h2) h3⟩
    · rw [← hm]
      exact h.wr.adopt B q2 q3 q4.holds
    · by_cases hj : j = i0
      · subst hj
        rw [ho] at h1; simp at h1; subst h1
        rw [q1 d h2 h5]
        exact q4.val v' M' h4 _ (upd_same _ _ _)
      · exact (h.done.wrote j p d v' M' h1 h2 h3 (fun hh => by have := h6 hh; omega) h4 h5).ext hfr
    · obtain ⟨u', cur', B', r1, r2, r3, r4⟩ := h.early e o' h1 (down e he)
      refine ⟨u', cur', B', r1, r2, ⟨r3.ge, r3.lt, r3.still, fun b C tt hb hr => ?_⟩, r4.ext hfr⟩
      rw [← hm] at hb
      rcases Mem.get_push hb with ⟨rfl, _⟩ | ⟨hlt', hb'⟩
      · rw [upd_same] at hr
        simp at hr
        have := h.two i0 e hE0 (down e he) hr.1
        have := he.2.1
        omega
      · rw [upd_other _ _ (by omega)] at hr
        exact r3.dead b C tt hb' hr
theorem St.upto {P : Program} {call : CallT} {ops : Array Oper} (hS : StatOk P ops) {es : List (AV × Mem)} {F0 : Fr} {M0 : Mem} {w0 : World} {ρ0 : Rho} (hs : evSeq P call ops ops.toList F0 M0 = some es) {listed : Array Bool} {a : Act} {w : World} {i0 : Nat} {G : Nat → Nat} : ∀ (k : Nat) {ρ : Rho},
    St P ops es F0 M0 w0 ρ0 listed a w ρ i0 G → i0 + k ≤ ops.size → (∀ (e : Nat) (o : Oper), i0 ≤ e → e < i0 + k → ops[e]? = some o → isEff o = false ∨ (fl P ops e = true ∧ listed.getD e false = true)) → ∃ ρ', St P ops es F0 M0 w0 ρ0 listed a w ρ' (i0 + k) G
  | 0, ρ, h, _, _ => ⟨ρ, h⟩
  | k + 1, ρ, h, hk, hc => by
    obtain ⟨ρ1, h1⟩ := St.upto hS hs k h (by omega) (fun e o q1 q2 q3 => hc e o q1 (by omega) q3)
    have hlt : i0 + k < ops.size := by omega
    exact St.next hS hs h1 (o := ops[i0 + k]) (by simp [hlt]) (hc (i0 + k) ops[i0 + k] (by omega) (by omega) (by simp [hlt]))
theorem inv_op {P : Program} (hP : Plainly P) {call callT : CallT} (hcall : CallGrow call) (hcallT : CallOk P callT) {ops : Array Oper} (hS : StatOk P ops) {es : List (AV × Mem)} {F0 : Fr} {M0 : Mem} {w0 : World} {ρ0 : Rho} (hs : evSeq P call ops ops.toList F0 M0 = some es) (hL : LoadsOk P ops es F0 M0) (hO : ∀ x ∈ obSeq P call ops ops.toList es F0 M0, x = true)
    {listed : Array Bool} {a : Act} {w : World} (h : Inv P ops es F0 M0 w0 ρ0 listed a w) {i : Nat} (hsame : ∀ o, ops[i]? = some o → ∀ F M, evOp1 P call F M o = evOp1 P callT F M o ∧ obOp1 P call F M o = obOp1 P callT F M o) (hi : i ∈ Region.ready .any ops listed) {Q : Exit → Act → World → Prop} {K : Act → World → Prop} (hK : ∀ a' w', Inv P ops es F0 M0 w0 ρ0 (listed.setIfInBounds i true) a' w' → K a' w') :
    wpOp P ops Q i K a w := by
  obtain ⟨hi0, o, ho, hpre⟩ := mem_ready.1 hi
  have hlt : i < ops.size := (Array.getElem?_eq_some_iff.1 ho).1
  have hlt' : i < listed.size := by rw [h.size]; exact hlt
  have hif : listed.getD i false = false := by
    rw [Array.getD_eq_getD_getElem?, Array.getElem?_eq_getElem hlt'] at hi0 ⊢
    simpa using hi0
  have hp : ∀ p ∈ preds o, listed.getD p false = true := fun p hp => by
    obtain ⟨e, he, hb, rfl⟩ := mem_preds.1 hp
    exact hpre e he hb
  obtain ⟨hlen, hspec⟩ := evSeq_spec _ _ _ _ hs
  have hlen' : es.length = ops.size := by simpa using hlen
  obtain ⟨ρ, i0, G, c1, ca, cb, c4⟩ := h.st
  have hi0le : i0 ≤ ops.size := by
    rcases c1 with rfl | ⟨e, o', e1, _, rfl⟩
    · omega
    · have := (Array.getElem?_eq_some_iff.1 e1).1; omega
  obtain ⟨v, hv, hstep⟩ := hspec i o (by simpa using ho)
  have hob := obSeq_spec _ _ _ _ hO hlen i o (by simpa using ho)
  have hwA : wantedA ops (rst (frAt ops.toList es F0 i) (o.looksAt ops)) o = wantedA ops (frAt ops.toList es F0 i) o := wantedA_congr fun t ht => rst_get _ _ t ht
  have hclosed : Closed ops (listed.setIfInBounds i true) := fun j p hj hl q hq => by
    rw [getD_setB] at hl ⊢
    split
    · rfl
    · split at hl
      · rename_i _ hij
        have e := hij.1
        subst e
        rw [ho] at hj; simp at hj; subst hj
        exact hp q hq
      · exact h.closed j p hj hl q hq
  have keepL : ∀ e, listed.getD e false = true → (listed.setIfInBounds i true).getD e false = true := fun e he => by
    rw [getD_setB]
    split
    · rfl
    · exact he
  have newL : ∀ e, (listed.setIfInBounds i true).getD e false = true → e = i ∨ listed.getD e false = true := fun e he => by
    rw [getD_setB] at he
    split at he
    · rename_i hh; exact .inl hh.1.symm
    · exact .inr he
  have putO : ∀ (u : Value) (e : Nat) (p : Oper) (d : Tmp), ops[e]? = some p → e ≠ i → p.dst = some d → (a.put o.dst u).tmps.getD d undef = a.tmps.getD d undef := fun u e p d h1 h2 h3 => by
    cases hod : o.dst with
    | none => rfl
    | some x =>
      have hne : x ≠ d := fun ee => by
        subst ee
        exact hS.apart i o e p x ho h1 h2 h3 hod
      simp only [Act.put, Array.getD_eq_getD_getElem?, Array.getElem?_setIfInBounds]
      rw [if_neg hne]
  have putS : ∀ u : Value, (a.put o.dst u).tmps.size = a.tmps.size := fun u => by cases o.dst <;> simp [Act.put]
  have hge : isEff o = true → i0 ≤ i := fun he => by
    rcases Nat.lt_or_ge i i0 with hh | hh
    · have := ca i o ho he hh
      rw [hif] at this; cases this
    · exact hh
  unfold wpOp
  simp only [ho]
  cases hE : isEff o with
  | false =>
    have hnf : fl P ops i = false := by
      cases hh : fl P ops i with
      | false => rfl
      | true => rw [fl_eff ho hh] at hE; cases hE
    have hF := c4.done.at hS hlen' h.closed ho hif hp (fun j p d hj hji hf hd hl => absurd hl (hS.flook i o j p d ho hj (by omega) (.inl hE) hf hd))
    have old : ∀ e, Early P ops (listed.setIfInBounds i true) i0 e → e ≠ i ∧ Early P ops listed i0 e := fun e he => by
      have hne : e ≠ i := fun ee => by
        subst ee
        have h1 := he.1
        rw [hnf] at h1; cases h1
      refine ⟨hne, he.1, he.2.1, ?_⟩
      rcases newL e he.2.2 with h1 | h1
      · exact absurd h1 hne
      · exact h1
    have after : ∀ u, rel ρ v u → Inv P ops es F0 M0 w0 ρ0 (listed.setIfInBounds i true) (a.put o.dst u) w := fun u hu =>
      ⟨by simp [h.size], hclosed, ρ, i0, G, c1, fun e o' h1 h2 h3 => keepL e (ca e o' h1 h2 h3), fun e o' h1 h2 h3 h4 => by
        rcases newL e h4 with h5 | h5
        · subst h5
          rw [ho] at h1; simp at h1; subst h1
          rw [hE] at h2; cases h2
        · exact cb e o' h1 h2 h3 h5, ⟨c4.ext, c4.wr, c4.done.step hS ho hlt' hv (fun _ => hu), fun e o' h1 he => by
        obtain ⟨hne, he'⟩ := old e he
        obtain ⟨u', cur', B', r1, r2, r3⟩ := c4.early e o' h1 he'
        exact ⟨u', cur', B', fun d hd hsz => by rw [putO u e o' d h1 hne hd]; exact r1 d hd (by rw [putS] at hsz; exact hsz), r2, r3⟩, fun e e' h1 h2 h3 => c4.two e e' (old e h1).2 (old e' h2).2 h3⟩⟩
    rcases hstep with ⟨_, h2, _⟩ | ⟨h1, h2, h3, h4⟩ | ⟨h1, h2, h3⟩
    · rw [hE] at h2; cases h2
    · rw [wantedA_sound hF (hwA.trans h1), if_pos rfl]
      left
      have hob := hob h1
      rw [noEff_ob h2 h3] at hob
      have hread : evRead P (rst (frAt ops.toList es F0 i) (o.looksAt ops)) (memAt es M0 i0) o = some v ∧ owed (obRead (rst (frAt ops.toList es F0 i) (o.looksAt ops)) (memAt es M0 i0) o) := by
        rw [evRead_congr (F' := frAt ops.toList es F0 i) (fun x hx => rst_ev x hx), obRead_congr (F' := frAt ops.toList es F0 i) (fun x hx => rst_ev x hx)]
        cases hld : isLoad o with
        | false => rw [evRead_mem (M' := memAt es M0 i) hld, obRead_mem (M' := memAt es M0 i) hld]; exact ⟨h3, hob⟩
        | true =>
          have := hL.2 (o, i) (mem_zipIdx ho) hld
          have hm : ∀ p j, ((masks ops.toList []).getD p 0).testBit j = true → Reach ops p j := masks_sound ops.toList [] (fun j => by simp) (fun p j hb => by simp at hb)
          have h5 := this i0 (by
            rcases c1 with rfl | ⟨e, o', e1, e2, rfl⟩
            · simp
            · exact List.mem_cons_of_mem _ (List.mem_map.2 ⟨e, mem_effIdx e1 e2, rfl⟩))
          have hadm : adm (masks ops.toList []) (effIdx ops) i i0 = true := by
            unfold adm
            rw [List.all_eq_true]
            intro e he
            obtain ⟨⟨o', e'⟩, hh1, rfl⟩ := List.mem_map.1 he
            obtain ⟨hh2, hh3⟩ := List.mem_filter.1 hh1
            rw [List.mem_zipIdx_iff_getElem?] at hh2
            have hoe : ops[e']? = some o' := by simpa using hh2
            simp only [Bool.and_eq_true, Bool.or_eq_true, Bool.not_eq_true', decide_eq_true_eq]
            constructor
            · cases hb : ((masks ops.toList []).getD i 0).testBit e' with
              | false => exact .inl rfl
              | true =>
                right
                cases hfe : fl P ops e' with
                | false => exact cb e' o' hoe hh3 hfe (h.closed.ready ho hp (hm _ _ hb))
                | true => rw [hS.fload i o e' o' ho hoe hE hld hfe] at hb; cases hb
            · cases hb : ((masks ops.toList []).getD e' 0).testBit i with
              | false => exact .inl rfl
              | true =>
                right
                rcases Nat.lt_or_ge e' i0 with hh | hh
                · have := h.closed.reach (hm _ _ hb) (ca e' o' hoe hh3 hh)
                  rw [hif] at this; cases this
                · exact hh
          have h5 := h5 hadm
          rcases h5 with h5 | ⟨lob, h5, h5t⟩
          rotate_left
          · simp only [loadOb, hv] at h5
            split at h5
            · rename_i cs M2 e2
              simp at e2
              have := h4.2 hld
              rw [e2.1] at this
              cases this
            · rename_i v' M2 hnt e2
              simp at e2
              obtain ⟨rfl, _⟩ := e2
              split at h5
              · rename_i hcalm
                have hG : Grow (memAt es M0 i0) (memAt es M0 i) ∨ Grow (memAt es M0 i) (memAt es M0 i0) := by
                  rcases Nat.le_total i0 i with hh | hh
                  · left
                    have := grow_at hcall hs hO (i - i0) i0 (by omega)
                    rwa [show i0 + (i - i0) = i by omega] at this
                  · right
                    have := grow_at hcall hs hO (i0 - i) i (by omega)
                    rwa [show i + (i0 - i) = i0 by omega] at this
                obtain ⟨g1, g2⟩ := calm_spec (P := P) (fun x _ => rfl) hcalm hG
                rw [g1, g2]
                exact ⟨h3, hob⟩
              · split at h5
                · rename_i hcb
                  obtain ⟨g1, g2⟩ := calmB_spec (P := P) hcall hs hO (Nat.le_of_lt hlt) hi0le hcb
                  rw [g1, g2]
                  exact ⟨h3, hob⟩
                · split at h5
                  · rename_i v1 e1
                    split at h5
                    · rename_i hnone
                      rw [e1, aeqL_ok h5 h5t, hnone]
                      exact ⟨rfl, fun _ e => by cases e⟩
                    · cases h5
                  · cases h5
            · cases h5
          simp only [loadOk, hv] at h5
          split at h5
          · rename_i cs M2 e2
            simp at e2
            have := h4.2 hld
            rw [e2.1] at this
            cases this
          · rename_i v' M2 hnt e2
            simp at e2
            obtain ⟨rfl, _⟩ := e2
            split at h5
            · rename_i hcalm
              have hG : Grow (memAt es M0 i0) (memAt es M0 i) ∨ Grow (memAt es M0 i) (memAt es M0 i0) := by
                rcases Nat.le_total i0 i with hh | hh
                · left
                  have := grow_at hcall hs hO (i - i0) i0 (by omega)
                  rwa [show i0 + (i - i0) = i by omega] at this
                · right
                  have := grow_at hcall hs hO (i0 - i) i (by omega)
                  rwa [show i + (i0 - i) = i0 by omega] at this
              obtain ⟨g1, g2⟩ := calm_spec (P := P) (fun x _ => rfl) hcalm hG
              rw [g1, g2]
              exact ⟨h3, hob⟩
            · split at h5
              · rename_i hcb
                obtain ⟨g1, g2⟩ := calmB_spec (P := P) hcall hs hO (Nat.le_of_lt hlt) hi0le hcb
                rw [g1, g2]
                exact ⟨h3, hob⟩
              · split at h5
                · rename_i v1 e1
                  split at h5
                  · rename_i hnone
                    rw [e1, aeq_eq h5, hnone]
                    exact ⟨rfl, fun _ e => by cases e⟩
                  · cases h5
                · cases h5
          · cases h5
      obtain ⟨u, q1, q2⟩ := evRead_sound hF c4.wr hread.1 hread.2
      unfold Oper.wp
      rw [q2 w rfl]
      exact hK _ _ (after u q1)
    · rw [wantedA_sound hF (hwA.trans h1)]
      simp only [Bool.false_eq_true, if_false]
      subst h2
      exact hK _ _ (after undef (rel_off _))
  | true =>
    have hge := hge hE
    cases hfl : fl P ops i with
    | true =>
      obtain ⟨hg, hcase⟩ := fl_spec ho hfl
      have hw : Region.wanted o (yielded ops a.tmps) = true := by unfold Region.wanted; rw [hg]
      rw [hw, if_pos rfl]
      left
      unfold Oper.wp
      have h3e : evOp1 P call (frAt ops.toList es F0 i) (memAt es M0 i) o = some (v, memAt es M0 (i + 1)) := by
        rcases hstep with ⟨_, _, h3⟩ | ⟨_, h2, _⟩ | ⟨h1, _⟩
        · exact h3
        · rw [hE] at h2; cases h2
        · unfold wantedA at h1; rw [hg] at h1; cases h1
      rw [← evOp1_congr (F := rst (frAt ops.toList es F0 i) (o.looksAt ops)) (F' := frAt ops.toList es F0 i) (fun x hx => rst_ev x hx)] at h3e
      have hF := c4.done.at hS hlen' h.closed ho hif hp (fun j p d hj hji hf hd hl => absurd hl (hS.flook i o j p d ho hj (by omega) (.inr hfl) hf hd))
      have hnl : ∀ u, v ≠ .lit u := fun u e => by
        subst e
        have hfo := hL.1
        unfold flOk at hfo
        rw [List.all_eq_true] at hfo
        have := hfo (o, i) (mem_zipIdx ho)
        simp [hfl, hv] at this
      obtain ⟨u, cur, B, k1, k2, k3, k4⟩ := early_make hF hcase h3e hnl w
      rw [k1]
      have old : ∀ e, e ≠ i → Early P ops (listed.setIfInBounds i true) i0 e → Early P ops listed i0 e := fun e hne he => by
        refine ⟨he.1, he.2.1, ?_⟩
        rcases newL e he.2.2 with h1 | h1
        · exact absurd h1 hne
        · exact h1
      have hpt : ∀ e, e ≠ i → Early P ops (listed.setIfInBounds i true) i0 e → G e < w.heap.size := fun e hne he => by
        have hlte : e < ops.size := by
          rcases Nat.lt_or_ge e ops.size with hh | hh
          · exact hh
          · have h1 := he.1
            unfold fl flB at h1
            rw [Array.getElem?_eq_none hh] at h1; cases h1
        obtain ⟨_, _, _, _, _, r3, _⟩ := c4.early e ops[e] (by simp [hlte]) (old e hne he)
        exact r3.lt
      refine hK (a.put o.dst u) (w.alloc (.cells cur B.elem (0, 0))) ⟨by simp [h.size], hclosed, ρ, i0, fun e => if e = i then w.heap.size else G e, c1, fun e o' h1 h2 h3 => keepL e (ca e o' h1 h2 h3), fun e o' h1 h2 h3 h4 => ?_, ⟨c4.ext, c4.wr.extra _, c4.done.step hS ho hlt' hv (fun hh => by have := hh hfl; omega), fun e o' h1 he => ?_, fun e e' h1 h2 h3 => ?_⟩⟩
      · rcases newL e h4 with h5 | h5
        · subst h5; rw [hfl] at h3; cases h3
        · exact cb e o' h1 h2 h3 h5
      · by_cases hne : e = i
        · subst hne
          rw [ho] at h1; simp at h1; subst h1
          simp only [if_true]
          refine ⟨u, cur, B, fun d hd hsz => ?_, heap_alloc_new w _, ⟨c4.wr.keep.size, by simp, fun o2 => ?_, fun b C tt hb hr => ?_⟩, ⟨k2, k3, fun v' M' hv' ρ' hr => ?_⟩⟩
          · rw [hd] at hsz ⊢
            simp only [Act.put, Array.size_setIfInBounds] at hsz
            simp only [Act.put, Array.getD_eq_getD_getElem?, Array.getElem?_setIfInBounds, if_true, if_pos hsz]
            rfl
          · cases hst : ρ.still w.heap.size o2 with
            | none => rfl
            | some x => have := c4.wr.still_lt hst; omega
          · obtain ⟨_, cur', q3, _⟩ := c4.wr.blk b C _ tt hb hr
            have := (Array.getElem?_eq_some_iff.1 q3).1
            omega
          · rw [hv] at hv'
            simp only [Option.some.injEq, Prod.mk.injEq] at hv'
            rw [← hv'.1]
            exact k4 ρ' hr
        · obtain ⟨u', cur', B', r1, r2, r3, r4⟩ := c4.early e o' h1 (old e hne he)
          rw [if_neg hne]
          exact ⟨u', cur', B', fun d hd hsz => by rw [putO _ e o' d h1 hne hd]; exact r1 d hd (by rw [putS] at hsz; exact hsz), by rw [heap_alloc_old w _ r3.lt]; exact r2, r3.extra _, r4⟩
      · by_cases hne : e = i
        · by_cases hne' : e' = i
          · rw [hne, hne']
          · rw [if_pos hne, if_neg hne'] at h3
            have := hpt e' hne' h2
            omega
        · by_cases hne' : e' = i
          · rw [if_neg hne, if_pos hne'] at h3
            have := hpt e hne h1
            omega
          · rw [if_neg hne, if_neg hne'] at h3
            exact c4.two e e' (old e hne h1) (old e' hne' h2) h3
    | false =>
      have done : ∀ (e : Nat) (o' : Oper), ops[e]? = some o' → isEff o' = true → e < i → listed.getD e false = true := fun e o' h1 h2 h3 => by
        rcases hS.eff i o e o' ho h1 h3 hE h2 with hr | hr
        · exact h.closed.ready ho hp hr
        · rw [hfl] at hr; cases hr
      obtain ⟨ρ1, s1⟩ := St.upto hS hs (i - i0) c4 (by omega) (fun e o' h1 h2 h3 => by
        cases he : isEff o' with
        | false => exact .inl rfl
        | true =>
          right
          have hl := done e o' h3 he (by omega)
          cases hfe : fl P ops e with
          | true => exact ⟨rfl, hl⟩
          | false => have := cb e o' h3 he hfe hl; omega)
      rw [show i0 + (i - i0) = i by omega] at s1
      have hF := s1.done.at hS hlen' h.closed ho hif hp (fun j p d _ hj _ _ _ => hj)
      have old : ∀ e, Early P ops (listed.setIfInBounds i true) (i + 1) e → e ≠ i ∧ Early P ops listed i e := fun e he => by
        have h1 := he.2.1
        refine ⟨by omega, he.1, by omega, ?_⟩
        rcases newL e he.2.2 with h2 | h2
        · omega
        · exact h2
      have after : ∀ ρ' u w', Ext ρ1 ρ' → rel ρ' v u → WR w0 ρ' (memAt es M0 (i + 1)) w' → (∀ g, Lone w0 ρ1 (memAt es M0 i) w g → w'.heap[g]? = w.heap[g]? ∧ Lone w0 ρ' (memAt es M0 (i + 1)) w' g) → Inv P ops es F0 M0 w0 ρ0 (listed.setIfInBounds i true) (a.put o.dst u) w' := fun ρ' u w' q1 q2 q3 q4 =>
        ⟨by simp [h.size], hclosed, ρ', i + 1, G, .inr ⟨i, o, ho, hE, rfl⟩, fun e o' h1 h2 h3 => by
          by_cases hne : e = i
          · subst hne
            rw [getD_setB, if_pos ⟨rfl, hlt'⟩]
          · exact keepL e (done e o' h1 h2 (by omega)), fun e o' h1 h2 h3 h4 => by
          rcases newL e h4 with h5 | h5
          · omega
          · have := cb e o' h1 h2 h3 h5; omega, ⟨s1.ext.trans q1, q3, ((s1.done.ext q1).step hS ho hlt' hv (fun _ => q2)).up hfl, fun e o' h1 he => by
          obtain ⟨hne, he'⟩ := old e he
          obtain ⟨u', cur', B', r1, r2, r3, r4⟩ := s1.early e o' h1 he'
          obtain ⟨f1, f2⟩ := q4 _ r3
          exact ⟨u', cur', B', fun d hd hsz => by rw [putO u e o' d h1 hne hd]; exact r1 d hd (by rw [putS] at hsz; exact hsz), by rw [f1]; exact r2, f2, r4.ext q1⟩, fun e e' h1 h2 h3 => s1.two e e' (old e h1).2 (old e' h2).2 h3⟩⟩
      rcases hstep with ⟨h1, h2, h3⟩ | ⟨h1, h2, h3, h4⟩ | ⟨h1, h2, h3⟩
      · 
        rw [wantedA_sound hF (hwA.trans h1), if_pos rfl]
        rw [← evOp1_congr (F := rst (frAt ops.toList es F0 i) (o.looksAt ops)) (F' := frAt ops.toList es F0 i) (fun x hx => rst_ev x hx)] at h3
        left
        have hob := hob h1
        rw [← obOp1_congr (F := rst (frAt ops.toList es F0 i) (o.looksAt ops)) (F' := frAt ops.toList es F0 i) (fun x hx => rst_ev x hx)] at hob
        rw [(hsame o ho _ _).1] at h3
        rw [(hsame o ho _ _).2] at hob
        exact evOp1_framed hP hcallT hF s1.wr h3 hob (Q := Q) fun ρ' u w' q1 q2 q3 q4 => hK _ _ (after ρ' u w' q1 q2 q3 q4)
      · rw [hE] at h2; cases h2
      · rw [wantedA_sound hF (hwA.trans h1)]
        simp only [Bool.false_eq_true, if_false]
        subst h2
        exact hK _ _ (after ρ1 undef w (Ext.refl _) (rel_off _) (by rw [h3]; exact s1.wr) (fun g hg => ⟨rfl, by rw [h3]; exact hg⟩))
def unl (listed : Array Bool) : Nat := (listed.toList.filter (!·)).length
theorem unl_zero {listed : Array Bool} (h : unl listed = 0) (j : Nat) : listed.getD j true = true := by
  unfold unl at h
  have h1 := List.eq_nil_of_length_eq_zero h
  rw [List.filter_eq_nil_iff] at h1
  rw [Array.getD_eq_getD_getElem?]
  cases hj : listed[j]? with
  | none => rfl
  | some b =>
    have := h1 b (by have := Array.mem_of_getElem? hj; simpa using this)
    simpa using this
theorem unl_set {listed : Array Bool} {i : Nat} (h : listed.getD i true = false) : unl (listed.setIfInBounds i true) + 1 = unl listed := by
  have hi : listed.toList[i]? = some false := by
    rw [Array.getD_eq_getD_getElem?] at h
    cases hj : listed[i]? with
    | none => rw [hj] at h; cases h
    | some b => rw [hj] at h; simp at h; subst h; simpa using hj
  unfold unl
  rw [Array.toList_setIfInBounds]
  generalize listed.toList = l at hi
  clear h
  induction l generalizing i with
  | nil => simp at hi
  | cons x l ih =>
    cases i with
    | zero => simp at hi; subst hi; simp
    | succ i =>
      have := ih (by simpa using hi)
      cases x <;> simp <;> omega
theorem all_of_ready {P : Program} {ops : Array Oper} (hS : StatOk P ops) {listed : Array Bool} (hs : listed.size = ops.size) (h : Region.ready .any ops listed = []) : ∀ j, j < ops.size → listed.getD j false = true := by
  intro j
  induction j using Nat.strongRecOn with
  | _ j ih =>
    intro hj
    cases hl : listed.getD j false with
    | true => rfl
    | false =>
      exfalso
      have hm : j ∈ Region.ready .any ops listed := mem_ready.2 ⟨by
        rw [Array.getD_eq_getD_getElem?, Array.getElem?_eq_getElem (by omega)] at hl ⊢
        simpa using hl, ops[j], by simp [hj], fun e he hb => by
        have hp : e.on ∈ preds ops[j] := mem_preds.2 ⟨e, he, hb, rfl⟩
        have hlt := hS.back j ops[j] (by simp [hj]) _ hp
        exact ih _ hlt (by omega)⟩
      rw [h] at hm
      cases hm
theorem any_of_inv {P : Program} (hP : Plainly P) {call : CallT} (hcall : CallOk P call) {ops : Array Oper} (hS : StatOk P ops) {es : List (AV × Mem)} {F0 : Fr} {M0 : Mem} {w0 : World} {ρ0 : Rho} (hs : evSeq P call ops ops.toList F0 M0 = some es) (hL : LoadsOk P ops es F0 M0) (hO : ∀ x ∈ obSeq P call ops ops.toList es F0 M0, x = true) {Q : Exit → Act → World → Prop}
    (hQ : ∀ ρ' a' w', Ext ρ0 ρ' → FR ρ' (frAt ops.toList es F0 ops.size) a' → WR w0 ρ' (memAt es M0 ops.size) w' → Q .normal a' w') :
    ∀ (fuel : Nat) (listed : Array Bool) (a : Act) (w : World), unl listed = fuel → Inv P ops es F0 M0 w0 ρ0 listed a w → wpAny P .any ops Q fuel listed a w := by
  have fin : ∀ (listed : Array Bool) (a : Act) (w : World), Inv P ops es F0 M0 w0 ρ0 listed a w → Region.ready .any ops listed = [] → Q .normal a w := fun listed a w h hr => by
    have hall := all_of_ready hS h.size hr
    obtain ⟨ρ0', i0, G, c1, ca, cb, c4⟩ := h.st
    obtain ⟨hlen, hspec⟩ := evSeq_spec _ _ _ _ hs
    have hlen' : es.length = ops.size := by simpa using hlen
    have hi0 : i0 ≤ ops.size := by
      rcases c1 with rfl | ⟨e, o, e1, _, rfl⟩
      · omega
      · have := (Array.getElem?_eq_some_iff.1 e1).1; omega
    obtain ⟨ρ, s1⟩ := St.upto hS hs (ops.size - i0) c4 (by omega) (fun e o' h1 h2 h3 => by
      cases he : isEff o' with
      | false => exact .inl rfl
      | true =>
        right
        have hl := hall e (Array.getElem?_eq_some_iff.1 h3).1
        cases hfe : fl P ops e with
        | true => exact ⟨rfl, hl⟩
        | false => have := cb e o' h3 he hfe hl; omega)
    rw [show i0 + (ops.size - i0) = ops.size by omega] at s1
    have c5 := s1.done
    have h0 := (frAt_get ops.toList es F0 ops.size 0 (by simp) (by simpa using hlen')).1
    refine hQ ρ a w s1.ext ⟨by rw [h0, c5.size], fun t v hv => ?_, c5.defers⟩ s1.wr
    rcases (frAt_get ops.toList es F0 ops.size t (by simp) (by simpa using hlen')).2 with ⟨j, p, v', M', q1, q2, q3, q4, q5⟩ | ⟨q1, q2⟩
    · have e := q5 v hv
      subst e
      exact c5.wrote j p t v M' (by simpa using q2) q3 (hall j q1) (fun _ => q1) q4 (by rw [← c5.size, ← h0]; exact (List.getElem?_eq_some_iff.1 hv).1)
    · rw [q2] at hv
      refine c5.stood t v (fun j p hj hd => ?_) hv
      exact absurd hd (q1 j p (Array.getElem?_eq_some_iff.1 hj).1 (by simpa using hj))
  intro fuel
  induction fuel with
  | zero =>
    intro listed a w hu h
    have hr : Region.ready .any ops listed = [] := by
      rcases hx : Region.ready .any ops listed with _ | ⟨x, xs⟩
      · rfl
      · have hm : x ∈ Region.ready .any ops listed := by rw [hx]; simp
        have h1 := (mem_ready.1 hm).1
        rw [unl_zero hu x] at h1
        cases h1
    exact ⟨hr, fin listed a w h hr⟩
  | succ fuel ih =>
    intro listed a w hu h
    refine ⟨fin listed a w h, fun i hi => inv_op hP hcall.grow hcall hS hs hL hO h (fun _ _ _ _ => ⟨rfl, rfl⟩) hi fun a' w' h' => ih _ a' w' ?_ h'⟩
    have := unl_set (mem_ready.1 hi).1
    omega
theorem evDraw_core {P : Program} (hP : Plainly P) (hm : P.follows .mixedOrders = true) {call : CallT} (hcall : CallOk P call) {w0 : World} {ops : Array Oper} {ρ : Rho} {F : Fr} {M : Mem} {w : World} {a : Act} (hF : FR ρ F a) (hW : WR w0 ρ M w)
    (hst : stat P ops = true) {es : List (AV × Mem)} (hs : evSeq P call ops ops.toList F M = some es) (hL : LoadsOk P ops es F M) (hO : ∀ x ∈ obSeq P call ops ops.toList es F M, x = true) {id : Nat} {Q : Exit → Act → World → Prop} (hQ : ∀ ρ' a' w', Ext ρ ρ' → FR ρ' (frAt ops.toList es F ops.size) a' → WR w0 ρ' (memAt es M ops.size) w' → Q .normal a' w') : (Code.region id ops true).wp P Q a w := by
  have hfalse : ∀ j, (Array.replicate ops.size false).getD j false = false := fun j => by
    rw [Array.getD_eq_getD_getElem?, Array.getElem?_replicate]
    split <;> rfl
  refine wp_region_any hm (any_of_inv hP hcall (stat_spec hst) hs hL hO hQ ops.size _ a _ ?_ ⟨by simp, ?_, ρ, 0, fun _ => 0, .inl rfl, ?_, ?_, ⟨Ext.refl _, ?_, ⟨hF.len, hF.defers, ?_, ?_⟩, ?_, ?_⟩⟩)
  · unfold unl
    rw [Array.toList_replicate, List.filter_replicate]
    simp
  · intro i o ho hl
    rw [hfalse] at hl; cases hl
  · intro e o ho hh hlt
    omega
  · intro e o ho hh hf hl
    rw [hfalse] at hl; cases hl
  · have : memAt es M 0 = M := by cases es <;> rfl
    rw [this]
    exact hW.drew
  · intro j o t v M2 h1 h2 h3
    rw [hfalse] at h3; cases h3
  · intro t v _ hv
    exact hF.val t v hv
  · intro e o _ he
    have := he.2.2
    rw [hfalse] at this; cases this
  · intro e e' he
    have := he.2.2
    rw [hfalse] at this; cases this
end Go.Proofs.Ytglkdhmikpejnaa.Sy
namespace Go.Proofs.Ytglkdhmikpejnaa.Sy
open Go Go.RowKit
section
variable [Dfs]
inductive D where
  | done
  | auto (n : Nat) (d : D)
  | br (t f : D)
  | yes (d : D)
  | no (d : D)
inductive Tr (β : Type) where
  | bad (why : Nat)
  | leaf (b : β)
  | fork (c : Bool) (t f : Tr β)
  | need (c : Bool) (t : Tr β)
  | ask (c : Bool)
def Tr.Ok {β : Type} : Tr β → (β → Prop) → Prop
  | .bad _, _ => False
  | .ask _, _ => False
  | .leaf b, G => G b
  | .fork c t f, G => (c = true → t.Ok G) ∧ (c = false → f.Ok G)
  | .need c t, G => c = true ∧ t.Ok G
noncomputable def ask {β : Type} (d : D) (b : Bool) (k : Bool → D → Tr β) : Tr β := match d with
  | .auto n d' => match n with
    | 0 => Bool.rec (motive := fun _ => Tr β) (k false d') (k true d') b
    | m + 1 => Bool.rec (motive := fun _ => Tr β) (k false (.auto m d')) (k true (.auto m d')) b
  | .br t f => .fork b (k true t) (k false f)
  | .yes d' => .need b (k true d')
  | .no d' => .need (!b) (k false d')
  | .done => .ask b
theorem ask_ok {β : Type} {G : β → Prop} {d : D} {b : Bool} {k : Bool → D → Tr β} (h : (ask d b k).Ok G) : ∃ d', (k b d').Ok G := by
  unfold ask at h
  split at h
  · split at h
    · cases b
      · exact ⟨_, h⟩
      · exact ⟨_, h⟩
    · cases b
      · exact ⟨_, h⟩
      · exact ⟨_, h⟩
  · cases b
    · exact ⟨_, h.2 rfl⟩
    · exact ⟨_, h.1 rfl⟩
  · obtain ⟨rfl, h⟩ := h
    exact ⟨_, h⟩
  · obtain ⟨h1, h⟩ := h
    cases b
    · exact ⟨_, h⟩
    · cases h1
  · exact h.elim
noncomputable def bindT {α β : Type} : Tr α → D → (α → D → Tr β) → Tr β
  | .bad n, _, _ => .bad n
  | .ask c, _, _ => .ask c
  | .leaf a, d, k => k a d
  | .fork c t f, d, k => ask d c fun r d' => match r with | true => bindT t d' k | false => bindT f d' k
  | .need c t, d, k => .need c (bindT t d k)
theorem bindT_ok {α β : Type} {G : β → Prop} {k : α → D → Tr β} : ∀ {t : Tr α} {d : D}, (bindT t d k).Ok G → t.Ok fun a => ∃ d', (k a d').Ok G
  | .bad _, _, h => h
  | .ask _, _, h => h
  | .leaf a, d, h => ⟨d, h⟩
  | .fork c t f, d, h => by
    obtain ⟨d', h⟩ := ask_ok h
    cases c
    · exact ⟨(fun e => by cases e), fun _ => bindT_ok h⟩
    · exact ⟨fun _ => bindT_ok h, (fun e => by cases e)⟩
  | .need c t, d, h => ⟨h.1, bindT_ok h.2⟩
noncomputable def owedK {β : Type} (b : Option Bool) (d : D) (k : D → Tr β) : Tr β := Option.rec (motive := fun _ => Tr β) (k d) (fun x => ask d x fun r d' => match r with | true => k d' | false => .bad 1) b
theorem owedK_ok {β : Type} {G : β → Prop} {b : Option Bool} {d : D} {k : D → Tr β} (h : (owedK b d k).Ok G) : owed b ∧ ∃ d', (k d').Ok G := by
  cases b with
  | none => exact ⟨(fun _ e => by cases e), d, h⟩
  | some x =>
    obtain ⟨d', h⟩ := ask_ok (k := fun r d' => match r with | true => k d' | false => .bad 1) h
    cases x with
    | true => exact ⟨(fun _ e => by cases e; rfl), d', h⟩
    | false => exact h.elim
noncomputable def gotK {β : Type} (r : Option (AV × Mem)) (k : AV → Mem → Tr β) : Tr β := Option.rec (motive := fun _ => Tr β) (.bad 2) (fun vm => k vm.1 vm.2) r
theorem gotK_ok {β : Type} {G : β → Prop} {r : Option (AV × Mem)} {k : AV → Mem → Tr β} (h : (gotK r k).Ok G) : ∃ v M', r = some (v, M') ∧ (k v M').Ok G := by
  cases r with
  | none => exact h.elim
  | some vm => exact ⟨vm.1, vm.2, rfl, h⟩
noncomputable def plainK {β : Type} (P : Program) (call : CallT) (F : Fr) (M : Mem) (d : D) (o : Oper) (k : AV → Mem → D → Tr β) : Tr β :=
  owedK (obOp1 P call F M o) d fun d' => gotK (evOp1 P call F M o) fun v M' => k v M' d'
noncomputable def pickK {β : Type} (F : Fr) (M : Mem) (d : D) (c x y : Operand) (k : AV → Mem → D → Tr β) : Tr β := match litX F c with
  | some (.bool b) => ask d b fun r d' => match r with
    | true => gotK ((evX F x).map fun v => (v, M)) fun v M' => k v M' d'
    | false => gotK ((evX F y).map fun v => (v, M)) fun v M' => k v M' d'
  | _ => .bad 3
noncomputable def stepK {β : Type} (P : Program) (call : CallT) (F : Fr) (M : Mem) (d : D) (o : Oper) (k : AV → Mem → D → Tr β) : Tr β := match o.op with
  | .pick c x y => pickK F M d c x y k
  | _ => plainK P call F M d o k
theorem stepK_ok {β : Type} {G : β → Prop} {P : Program} {call : CallT} {F : Fr} {M : Mem} {d : D} {o : Oper} {k : AV → Mem → D → Tr β} (h : (stepK P call F M d o k).Ok G) :
    ∃ v M' d', evOp1 P call F M o = some (v, M') ∧ owed (obOp1 P call F M o) ∧ (k v M' d').Ok G ∧ ∀ c x y, o.op = .pick c x y → M' = M ∧ evRead P F M o = some v := by
  unfold stepK at h
  split at h
  · rename_i c x y ho
    unfold pickK at h
    split at h
    · rename_i b hb
      obtain ⟨d', h⟩ := ask_ok h
      have key : ∀ v, (b = true → evX F x = some v) → (b = false → evX F y = some v) → evRead P F M o = some v := fun v hv hv' => by
        rw [evRead_def]
        unfold evRead'
        rw [ho]
        simp only [fPick, hb, obind, pickV]
        cases b with
        | true => simp only [hv rfl]
        | false => simp only [hv' rfl]
      have fin : ∀ v, evRead P F M o = some v → (k v M d').Ok G → ∃ v M' d', evOp1 P call F M o = some (v, M') ∧ owed (obOp1 P call F M o) ∧ (k v M' d').Ok G ∧ ∀ c x y, o.op = .pick c x y → M' = M ∧ evRead P F M o = some v := fun v hr hk => by
        refine ⟨v, M, d', ?_, ?_, hk, fun _ _ _ _ => ⟨rfl, hr⟩⟩
        · unfold evOp1
          rw [ho]
          simp only
          rw [evOp_def, hr]
        · have e1 : obOp1 P call F M o = obOp P F M o := by unfold obOp1; rw [ho]
          rw [e1]
          unfold obOp
          rw [hr]
          unfold obRead
          rw [ho]
          intro b e; cases e
      cases b with
      | true =>
        obtain ⟨v, M', hv, hk⟩ := gotK_ok h
        cases hx : evX F x with
        | none => simp [hx] at hv
        | some u =>
          simp [hx] at hv
          obtain ⟨rfl, rfl⟩ := hv
          exact fin u (key u (fun _ => hx) (fun e => by cases e)) hk
      | false =>
        obtain ⟨v, M', hv, hk⟩ := gotK_ok h
        cases hx : evX F y with
        | none => simp [hx] at hv
        | some u =>
          simp [hx] at hv
          obtain ⟨rfl, rfl⟩ := hv
          exact fin u (key u (fun e => by cases e) (fun _ => hx)) hk
    · exact h.elim
  · rename_i hne
    obtain ⟨h1, d', h2⟩ := owedK_ok h
    obtain ⟨v, M', h3, h4⟩ := gotK_ok h2
    exact ⟨v, M', d', h3, h1, h4, fun c x y e => absurd e (hne c x y)⟩
noncomputable def refG (ops : Array Oper) (F : Fr) (j : Nat) (want r : Bool) : Fr := match ops[j]? with
  | some oj => match oj.dst with
    | some t => match nth F t with
      | some (some (.lit (.bool _))) => setN F t (some (.lit (.bool (eqB r want))))
      | _ => F
    | none => F
  | none => F
theorem set_same {α : Type} {l : List α} {t : Nat} {x : α} (h : l[t]? = some x) : l.set t x = l := by
  apply List.ext_getElem?
  intro i
  rw [List.getElem?_set]
  by_cases e : t = i
  · subst e
    rw [if_pos rfl, if_pos (List.getElem?_eq_some_iff.1 h).1, h]
  · rw [if_neg e]
theorem refG_eq {ops : Array Oper} {F : Fr} {o : Oper} {j : Nat} {want b : Bool} (hg : o.guard = some (j, want)) (h : wantedA ops F o = some b) : refG ops F j want b = F := by
  unfold refG
  unfold wantedA at h
  rw [hg] at h
  simp only [nth_eq, setN_eq] at h ⊢
  split
  · rename_i oj hj
    simp only [hj] at h
    split
    · rename_i t ht
      simp only [ht] at h
      split
      · rename_i c hc
        simp only [hc, Option.some.injEq] at h
        refine set_same ?_
        rw [hc, ← h]
        cases c <;> cases want <;> rfl
      · rfl
    · rfl
  · rfl
noncomputable def wantK {β : Type} (ops : Array Oper) (F : Fr) (o : Oper) (d : D) (k : Bool → Fr → D → Tr β) : Tr β := match o.guard with
  | none => k true F d
  | some jw => match wantedA ops F o with
    | some b => ask d b fun r d' => k r (refG ops F jw.1 jw.2 r) d'
    | none => .bad 4
theorem wantK_ok {β : Type} {G : β → Prop} {ops : Array Oper} {F : Fr} {o : Oper} {d : D} {k : Bool → Fr → D → Tr β} (h : (wantK ops F o d k).Ok G) : ∃ b d', wantedA ops F o = some b ∧ (k b F d').Ok G := by
  unfold wantK at h
  split at h
  · rename_i hg
    exact ⟨true, d, by unfold wantedA; rw [hg], h⟩
  · rename_i jw hg
    split at h
    · rename_i b hb
      obtain ⟨d', h⟩ := ask_ok h
      rw [refG_eq hg hb] at h
      exact ⟨b, d', hb, h⟩
    · exact h.elim
noncomputable def refX (F : Fr) (c : Operand) (r : Bool) : Fr := match c with
  | .tmp t => match nth F t with
    | some (some (.lit (.bool _))) => setN F t (some (.lit (.bool r)))
    | _ => F
  | _ => F
theorem refX_eq {F : Fr} {c : Operand} {b : Bool} (h : litX F c = some (.bool b)) : refX F c b = F := by
  unfold refX
  split
  · rename_i t
    rw [litX_def, evX_tmp] at h
    simp only [nth_eq, setN_eq]
    split
    · rename_i x hx
      simp [hx, toVal] at h
      exact set_same (by rw [hx, h])
    · rfl
  · rfl
noncomputable def seqK {β : Type} (P : Program) (call : CallT) (ops : Array Oper) : List Oper → Fr → Mem → D → (List (AV × Mem) → D → Tr β) → Tr β
  | [], _, _, d, k => k [] d
  | o :: rest, F, M, d, k => wantK ops F o d fun b F d1 => match b with
    | true => stepK P call F M d1 o fun v M' d2 => match isLoad o && isTup v with
      | true => .bad 17
      | false => seqK P call ops rest (putF F o.dst (some v)) M' d2 fun es d3 => k ((v, M') :: es) d3
    | false => seqK P call ops rest (putF F o.dst (some off)) M d1 fun es d3 => k ((off, M) :: es) d3
theorem seqK_ok {β : Type} {G : β → Prop} {P : Program} {call : CallT} {ops : Array Oper} : ∀ (l : List Oper) (F : Fr) (M : Mem) (d : D) (k : List (AV × Mem) → D → Tr β), (∀ o ∈ l, isEff o = false → ∀ v M', evOp1 P call F M o = some (v, M') → True) → (seqK P call ops l F M d k).Ok G →
    ∃ es d', evSeq P call ops l F M = some es ∧ (∀ x ∈ obSeq P call ops l es F M, x = true) ∧ (k es d').Ok G
  | [], F, M, d, k, _, h => ⟨[], d, rfl, (fun x hx => by simp [obSeq] at hx), h⟩
  | o :: rest, F, M, d, k, _, h => by
    simp only [seqK] at h
    obtain ⟨b, d1, hw, h⟩ := wantK_ok h
    cases b with
    | true =>
      obtain ⟨v, M', d2, he, hob, h, hpick⟩ := stepK_ok h
      cases hnt : (isLoad o && isTup v) with
      | true => rw [hnt] at h; exact h.elim
      | false =>
      rw [hnt] at h
      obtain ⟨es, d3, h1, h2, h3⟩ := seqK_ok rest _ _ _ _ (fun _ _ _ _ _ _ => trivial) h
      have obs : ∀ x ∈ obSeq P call ops (o :: rest) ((v, M') :: es) F M, x = true := by
        simp only [obSeq, hw]
        cases hb : obOp1 P call F M o with
        | none => exact h2
        | some y =>
          intro x hx
          simp only [obCons, List.mem_cons] at hx
          rcases hx with rfl | hx
          · exact hob _ hb
          · exact h2 x hx
      cases hE : isEff o with
      | true => exact ⟨(v, M') :: es, d3, by simp only [evSeq, hw, hE, he, h1], obs, h3⟩
      | false =>
        have hr : evRead P F M o = some v ∧ M' = M := by
          cases hrd : evRead P F M o with
          | some u =>
            unfold evOp1 at he
            split at he
            · rename_i c ho
              split at he
              · rename_i f args hc
                exfalso
                simp only [isEff, ho] at hE
                unfold calleeA at hc
                split at hc
                · rename_i x hcx; rw [hcx] at hE; cases hE
                · cases hc
              · rw [evOp_def, hrd] at he; simp at he; exact ⟨by rw [he.1], he.2.symm⟩
            · rw [evOp_def, hrd] at he; simp at he; exact ⟨by rw [he.1], he.2.symm⟩
          | none =>
            exfalso
            have heff : evEff P F M o = some (v, M') := by
              unfold evOp1 at he
              split at he
              · rename_i c ho
                split at he
                · rename_i f args hc
                  exfalso
                  simp only [isEff, ho] at hE
                  unfold calleeA at hc
                  split at hc
                  · rename_i x hcx; rw [hcx] at hE; cases hE
                  · cases hc
                · rw [evOp_def, hrd] at he; exact he
              · rw [evOp_def, hrd] at he; exact he
            unfold evEff at heff
            unfold isEff at hE
            cases ho : o.op <;> simp only [ho] at heff hE <;> try (first | (cases heff; done) | (cases hE; done))
            rename_i c
            unfold eAppend at heff
            split at heff
            · rename_i hc; rw [hc] at hE; cases hE
            · cases heff
        obtain ⟨hr, rfl⟩ := hr
        exact ⟨(v, M') :: es, d3, by simp only [evSeq, hw, hE, hr, h1, hnt], obs, h3⟩
    | false =>
      obtain ⟨es, d3, h1, h2, h3⟩ := seqK_ok rest _ _ _ _ (fun _ _ _ _ _ _ => trivial) h
      refine ⟨(off, M) :: es, d3, by simp only [evSeq, hw, h1], ?_, h3⟩
      simp only [obSeq, hw]
      exact h2
noncomputable def needsK {β : Type} (l : List Bool) (k : D → Tr β) (d : D) : Tr β := List.rec (motive := fun _ => D → Tr β) k (fun x _ ih d => owedK (some x) d ih) l d
theorem needsK_ok {β : Type} {G : β → Prop} {k : D → Tr β} : ∀ {l : List Bool} {d : D}, (needsK l k d).Ok G → (∀ x ∈ l, x = true) ∧ ∃ d', (k d').Ok G
  | [], d, h => ⟨fun x hx => (by cases hx), d, h⟩
  | x :: l, d, h => by
    obtain ⟨h1, d1, h2⟩ := owedK_ok (b := some x) (k := needsK l k) h
    obtain ⟨h3, d2, h4⟩ := needsK_ok h2
    refine ⟨fun y hy => ?_, d2, h4⟩
    rcases List.mem_cons.1 hy with rfl | hy
    · exact h1 _ rfl
    · exact h3 y hy
noncomputable def drawK {β : Type} (P : Program) (call : CallT) (ops : Array Oper) (F : Fr) (M : Mem) (d : D) (k : Fr → Mem → D → Tr β) : Tr β := match stat P ops with
  | true => seqK P call ops ops.toList F M d fun es d' => match loadsOb P ops es F M with
    | some l => needsK l (fun d'' => k (frAt ops.toList es F ops.size) (memAt es M ops.size) d'') d'
    | none => .bad 5
  | false => .bad 6
abbrev Inl (β : Type) := FuncId → List AV → Mem → D → (AV → Mem → D → Tr β) → Tr β
noncomputable def opK {β : Type} (P : Program) (call : CallT) (inl : Inl β) (F : Fr) (M : Mem) (d : D) (o : Oper) (k : AV → Mem → D → Tr β) : Tr β := match o.op with
  | .call c => match calleeA F c with
    | some (f, args) => match call.has f args M with
      | true => plainK P call F M d o k
      | false => match P.funcs[f]? with
        | some fn => match fn.body.isSome with
          | true => inl f args M d k
          | false => .bad 7
        | none => .bad 8
    | none => plainK P call F M d o k
  | _ => stepK P call F M d o k
noncomputable def opsK {β : Type} (P : Program) (call : CallT) (inl : Inl β) (ops : Array Oper) : List Oper → Fr → Mem → D → (Fr → Mem → D → Tr β) → Tr β
  | [], F, M, d, k => k F M d
  | o :: rest, F, M, d, k => wantK ops F o d fun b F d1 => match b with
    | true => opK P call inl F M d1 o fun v M' d2 => opsK P call inl ops rest (putF F o.dst (some v)) M' d2 k
    | false => opsK P call inl ops rest (putF F o.dst (some (.lit undef))) M d1 k
def InlOk {β : Type} (P : Program) (inl : Inl β) : Prop := ∀ f args M d k (G : β → Prop), (inl f args M d k).Ok G → CallTo P f args M fun v M' => ∃ d', (k v M' d').Ok G
theorem opK_sound {β : Type} {G : β → Prop} {P : Program} (hP : Plainly P) {call : CallT} (hcall : CallOk P call) {inl : Inl β} (hinl : InlOk P inl) {w0 : World} {ρ : Rho} {F : Fr} {M : Mem} {w : World} {a : Act} {d : D} {o : Oper} {k : AV → Mem → D → Tr β}
    (hF : FR ρ F a) (hW : WR w0 ρ M w) (h : (opK P call inl F M d o k).Ok G) {K : Act → World → Prop} {Q : Exit → Act → World → Prop} (hK : ∀ v M' d' ρ' u w', (k v M' d').Ok G → Ext ρ ρ' → rel ρ' v u → WR w0 ρ' M' w' → K (a.put o.dst u) w') : o.wp P a w K Q := by
  have plain : (plainK P call F M d o k).Ok G → o.wp P a w K Q := fun h => by
    obtain ⟨h1, d', h2⟩ := owedK_ok h
    obtain ⟨v, M', h3, h4⟩ := gotK_ok h2
    exact evOp1_sound hP hcall hF hW h3 h1 fun ρ' u w' q1 q2 q3 => hK v M' d' ρ' u w' h4 q1 q2 q3
  have step : (stepK P call F M d o k).Ok G → o.wp P a w K Q := fun h => by
    obtain ⟨v, M', d', h3, h1, h4, _⟩ := stepK_ok h
    exact evOp1_sound hP hcall hF hW h3 h1 fun ρ' u w' q1 q2 q3 => hK v M' d' ρ' u w' h4 q1 q2 q3
  unfold opK at h
  split at h
  · rename_i c ho
    split at h
    · rename_i f args hc
      split at h
      · exact plain h
      · split at h
        · rename_i fn hf
          split at h
          · rename_i hb
            obtain ⟨us, h1, h2⟩ := calleeA_sound hF hc P hf hb (hP f fn hf) o.type w
            have h3 := hinl f args M d k G h w0 ρ us w h1 hW
            unfold Oper.wp execOp
            simp only [ho]
            rw [h2]
            simp only [Oper.upon_enter]
            refine h3.mono ?_
            rintro e w' ⟨ρ', u, v, M', rfl, q1, q2, q3, d', q4⟩
            exact hK v M' d' ρ' u w' q4 q1 q2 q3
          · exact h.elim
        · exact h.elim
    · exact plain h
  · exact step h
theorem opsK_sound {β : Type} {G : β → Prop} {P : Program} (hP : Plainly P) {call : CallT} (hcall : CallOk P call) {inl : Inl β} (hinl : InlOk P inl) {w0 : World} (ops : Array Oper) : ∀ (l : List Oper) {ρ : Rho} {F : Fr} {M : Mem} {w : World} {a : Act} {d : D} {k : Fr → Mem → D → Tr β},
    FR ρ F a → WR w0 ρ M w → (opsK P call inl ops l F M d k).Ok G → ∀ {Q : Exit → Act → World → Prop}, (∀ F' M' d' ρ' a' w', (k F' M' d').Ok G → Ext ρ ρ' → FR ρ' F' a' → WR w0 ρ' M' w' → Q .normal a' w') → wpList P ops Q l a w
  | [], ρ, F, M, w, a, d, k, hF, hW, h, Q, hQ => hQ F M d ρ a w h (Ext.refl _) hF hW
  | o :: rest, ρ, F, M, w, a, d, k, hF, hW, h, Q, hQ => by
    simp only [opsK] at h
    refine wpList_step fun K hK => ?_
    obtain ⟨b, d1, hw, h⟩ := wantK_ok h
    rw [wantedA_sound hF hw]
    cases b with
    | true =>
      rw [if_pos rfl]
      exact opK_sound hP hcall hinl hF hW h fun v M' d' ρ' u w' h0 h1 h2 h3 => hK _ _ (opsK_sound hP hcall hinl ops rest ((hF.ext h1).put o.dst h2) h3 h0 fun F2 M2 d2 ρ2 a2 w2 q0 q1 q2 q3 => hQ F2 M2 d2 ρ2 a2 w2 q0 (h1.trans q1) q2 q3)
    | false =>
      simp only [Bool.false_eq_true, if_false]
      exact hK _ _ (opsK_sound hP hcall hinl ops rest (hF.put o.dst (by simp [rel])) hW h hQ)
theorem drawK_sound {β : Type} {G : β → Prop} {P : Program} (hP : Plainly P) (hm : P.follows .mixedOrders = true) {call : CallT} (hcall : CallOk P call) {w0 : World} {ops : Array Oper} {ρ : Rho} {F : Fr} {M : Mem} {w : World} {a : Act} {d : D} {k : Fr → Mem → D → Tr β}
    (hF : FR ρ F a) (hW : WR w0 ρ M w) (h : (drawK P call ops F M d k).Ok G) {id : Nat} {Q : Exit → Act → World → Prop} (hQ : ∀ F' M' d' ρ' a' w', (k F' M' d').Ok G → Ext ρ ρ' → FR ρ' F' a' → WR w0 ρ' M' w' → Q .normal a' w') : (Code.region id ops true).wp P Q a w := by
  unfold drawK at h
  split at h
  · rename_i hst
    obtain ⟨es, d', h1, h2, h3⟩ := seqK_ok _ _ _ _ _ (fun _ _ _ _ _ _ => trivial) h
    split at h3
    · rename_i l hL
      obtain ⟨q1, d2, q2⟩ := needsK_ok h3
      exact evDraw_core hP hm hcall hF hW hst h1 (.ob hL q1) h2 fun ρ' a' w' r1 r2 r3 => hQ _ _ d2 ρ' a' w' q2 r1 r2 r3
    · exact h3.elim
  · exact h.elim
inductive Ex where
  | norm
  | exit (id : Nat)
  | ret
def Ex.to : Ex → Exit
  | .norm => .normal
  | .exit id => .exit id
  | .ret => .ret
def codeId : Code → Nat
  | .region id _ _ => id + 1
  | .seq a b => match codeId a with | 0 => codeId b | n + 1 => n + 1
  | .cond _ a b => match codeId a with | 0 => codeId b | n + 1 => n + 1
  | .block _ b => codeId b
  | .scope b => codeId b
  | .loop b => codeId b + 100000
  | _ => 0
abbrev Summ := Fr → Mem → Tr (Ex × Fr × Mem)
noncomputable def loopK {β : Type} (f : Fr → Mem → D → (Ex → Fr → Mem → D → Tr β) → Tr β) : Nat → Fr → Mem → D → (Ex → Fr → Mem → D → Tr β) → Tr β
  | 0, _, _, _, _ => .bad 9
  | n + 1, F, M, d, k => f F M d fun ex F' M' d' => match ex with
    | .norm => loopK f n F' M' d' k
    | .exit id => k (.exit id) F' M' d'
    | .ret => k .ret F' M' d'
noncomputable def codeK {β : Type} (P : Program) (call : CallT) (inl : Inl β) (lp : Nat → Option Summ) (n : Nat) : Code → Fr → Mem → D → (Ex → Fr → Mem → D → Tr β) → Tr β
  | .skip, F, M, d, k => k .norm F M d
  | .label _, F, M, d, k => k .norm F M d
  | .region _ ops draw, F, M, d, k => match draw with
    | true => drawK P call ops F M d fun F' M' d' => k .norm F' M' d'
    | false => opsK P call inl ops ops.toList F M d fun F' M' d' => k .norm F' M' d'
  | .seq a b, F, M, d, k => codeK P call inl lp n a F M d fun ex F' M' d' => match ex with
    | .norm => codeK P call inl lp n b F' M' d' k
    | .exit id => k (.exit id) F' M' d'
    | .ret => k .ret F' M' d'
  | .cond c t e, F, M, d, k => match litX F c with
    | some (.bool b) => ask d b fun r d' => match r with
      | true => codeK P call inl lp n t (refX F c true) M d' k
      | false => codeK P call inl lp n e (refX F c false) M d' k
    | _ => .bad 10
  | .block id body, F, M, d, k => codeK P call inl lp n body F M d fun ex F' M' d' => match ex with
    | .norm => k .norm F' M' d'
    | .exit id' => if id' = id then k .norm F' M' d' else k (.exit id') F' M' d'
    | .ret => k .ret F' M' d'
  | .loop body, F, M, d, k => match lp (codeId body) with
    | some S => bindT (S F M) d fun r d' => k r.1 r.2.1 r.2.2 d'
    | none => loopK (codeK P call inl lp n body) n F M d k
  | .scope body, F, M, d, k => codeK P call inl lp n body F M d k
  | .exit id, F, M, d, k => k (.exit id) F M d
  | .ret, F, M, d, k => k .ret F M d
  | _, _, _, _, _ => .bad 11
def LoopTo (P : Program) (body : Code) (n : Nat) (F : Fr) (M : Mem) (G : Ex → Fr → Mem → Prop) : Prop := ∀ w0 ρ a w (Q : Exit → Act → World → Prop), FR ρ F a → WR w0 ρ M w →
  (∀ ex F' M' ρ' a' w', G ex F' M' → Ext ρ ρ' → FR ρ' F' a' → WR w0 ρ' M' w' → Q ex.to a' w') → Code.rounds P body Q n a w
def Sums (P : Program) (body : Code) (S : Summ) : Prop := ∀ F M (H : Ex × Fr × Mem → Prop), (S F M).Ok H → ∃ n, LoopTo P body n F M fun ex F' M' => H (ex, F', M')
def LoopsOk (P : Program) (lp : Nat → Option Summ) : Code → Prop
  | .seq a b => LoopsOk P lp a ∧ LoopsOk P lp b
  | .cond _ a b => LoopsOk P lp a ∧ LoopsOk P lp b
  | .block _ b => LoopsOk P lp b
  | .scope b => LoopsOk P lp b
  | .loop b => match lp (codeId b) with
    | some S => Sums P b S
    | none => LoopsOk P lp b
  | _ => True
theorem codeK_sound {β : Type} {G : β → Prop} {P : Program} (hP : Plainly P) (hm : P.follows .mixedOrders = true) {call : CallT} (hcall : CallOk P call) {inl : Inl β} (hinl : InlOk P inl) {lp : Nat → Option Summ} (n : Nat) {w0 : World} : ∀ (c : Code) (hlp : LoopsOk P lp c) {ρ : Rho} {F : Fr} {M : Mem} {w : World} {a : Act} {d : D} {k : Ex → Fr → Mem → D → Tr β}, FR ρ F a → WR w0 ρ M w →
    (codeK P call inl lp n c F M d k).Ok G → ∀ {Q : Exit → Act → World → Prop}, (∀ ex F' M' d' ρ' a' w', (k ex F' M' d').Ok G → Ext ρ ρ' → FR ρ' F' a' → WR w0 ρ' M' w' → Q ex.to a' w') → c.wp P Q a w := by
  intro c
  induction c with
  | skip => intro hlp ρ F M w a d k hF hW h Q hQ; exact wp_skip (hQ .norm F M d ρ a w h (Ext.refl _) hF hW)
  | label l => intro hlp ρ F M w a d k hF hW h Q hQ; exact wp_label (hQ .norm F M d ρ a w h (Ext.refl _) hF hW)
  | exit id => intro hlp ρ F M w a d k hF hW h Q hQ; exact wp_exit (hQ (.exit id) F M d ρ a w h (Ext.refl _) hF hW)
  | ret => intro hlp ρ F M w a d k hF hW h Q hQ; exact wp_ret (hQ .ret F M d ρ a w h (Ext.refl _) hF hW)
  | region id ops draw =>
    intro hlp ρ F M w a d k hF hW h Q hQ
    cases draw with
    | true => exact drawK_sound hP hm hcall hF hW h fun F' M' d' ρ' a' w' q0 q1 q2 q3 => hQ .norm F' M' d' ρ' a' w' q0 q1 q2 q3
    | false => exact wp_region_list (opsK_sound hP hcall hinl ops ops.toList hF hW h fun F' M' d' ρ' a' w' q0 q1 q2 q3 => hQ .norm F' M' d' ρ' a' w' q0 q1 q2 q3)
  | seq x y ihx ihy =>
    intro hlp ρ F M w a d k hF hW h Q hQ
    refine wp_seq (ihx hlp.1 hF hW h fun ex F' M' d' ρ' a' w' h0 h1 h2 h3 => ?_)
    cases ex with
    | norm => exact ihy hlp.2 h2 h3 h0 fun ex2 F2 M2 d2 ρ2 a2 w2 q0 q1 q2 q3 => hQ ex2 F2 M2 d2 ρ2 a2 w2 q0 (h1.trans q1) q2 q3
    | exit id => exact hQ (.exit id) F' M' d' ρ' a' w' h0 h1 h2 h3
    | ret => exact hQ .ret F' M' d' ρ' a' w' h0 h1 h2 h3
  | cond c t e iht ihe =>
    intro hlp ρ F M w a d k hF hW h Q hQ
    simp only [codeK] at h
    split at h
    · rename_i b hc
      obtain ⟨d', h⟩ := ask_ok h
      cases b with
      | true => rw [refX_eq hc] at h; exact wp_cond_true (litX_sound hF hc) (iht hlp.1 hF hW h hQ)
      | false => rw [refX_eq hc] at h; exact wp_cond_false (litX_sound hF hc) (ihe hlp.2 hF hW h hQ)
    · exact h.elim
  | block id body ih =>
    intro hlp ρ F M w a d k hF hW h Q hQ
    refine wp_block (ih hlp hF hW h fun ex F' M' d' ρ' a' w' h0 h1 h2 h3 => ?_)
    cases ex with
    | norm => exact hQ .norm F' M' d' ρ' a' w' h0 h1 h2 h3
    | exit id' =>
      simp only at h0
      by_cases hid : id' = id
      · rw [if_pos hid] at h0
        simp only [Ex.to, Exit.inBlock, hid, if_true]
        exact hQ .norm F' M' d' ρ' a' w' h0 h1 h2 h3
      · rw [if_neg hid] at h0
        simp only [Ex.to, Exit.inBlock, hid, if_false]
        exact hQ (.exit id') F' M' d' ρ' a' w' h0 h1 h2 h3
    | ret => exact hQ .ret F' M' d' ρ' a' w' h0 h1 h2 h3
  | loop body ih =>
    intro hlp ρ F M w a d k hF hW h Q hQ
    simp only [codeK] at h
    simp only [LoopsOk] at hlp
    cases hl : lp (codeId body) with
    | some S =>
      simp only [hl] at h hlp
      obtain ⟨m, hm'⟩ := hlp F M _ (bindT_ok h)
      refine wp_loop_rounds m (hm' w0 ρ a w Q hF hW fun ex F' M' ρ' a' w' hg q1 q2 q3 => ?_)
      obtain ⟨d', hg⟩ := hg
      exact hQ ex F' M' d' ρ' a' w' hg q1 q2 q3
    | none =>
      simp only [hl] at h hlp
      have key : ∀ (m : Nat) {ρ : Rho} {F : Fr} {M : Mem} {w : World} {a : Act} {d : D}, FR ρ F a → WR w0 ρ M w → (loopK (codeK P call inl lp n body) m F M d k).Ok G →
          (∀ ex F' M' d' ρ' a' w', (k ex F' M' d').Ok G → Ext ρ ρ' → FR ρ' F' a' → WR w0 ρ' M' w' → Q ex.to a' w') → Code.rounds P body Q m a w := by
        intro m
        induction m with
        | zero => intro ρ F M w a d _ _ h; exact h.elim
        | succ m ihm =>
          intro ρ F M w a d hF hW h hQ
          rw [rounds_succ]
          refine ih hlp hF hW h fun ex F' M' d' ρ' a' w' h0 h1 h2 h3 => ?_
          cases ex with
          | norm => exact ihm h2 h3 h0 fun ex2 F2 M2 d2 ρ2 a2 w2 q0 q1 q2 q3 => hQ ex2 F2 M2 d2 ρ2 a2 w2 q0 (h1.trans q1) q2 q3
          | exit id => exact hQ (.exit id) F' M' d' ρ' a' w' h0 h1 h2 h3
          | ret => exact hQ .ret F' M' d' ρ' a' w' h0 h1 h2 h3
      exact wp_loop_rounds n (key n hF hW h hQ)
  | scope body ih =>
    intro hlp ρ F M w a d k hF hW h Q hQ
    exact wp_scope_straight (ih hlp hF hW h fun ex F' M' d' ρ' a' w' h0 h1 h2 h3 => by cases ex <;> exact hQ _ F' M' d' ρ' a' w' h0 h1 h2 h3)
  | _ => intro hlp ρ F M w a d k hF hW h; exact h.elim
noncomputable def resA (P : Program) (F : Fr) (M : Mem) : ResultVar → Option AV
  | .tmp t => match F[t]? with | some (some v) => some v | _ => none
  | .cell x t => match F[x]? with | some (some v) => match obLoad M v with | none => evLoad P M t v | some _ => none
                                  | _ => none
noncomputable def ressA (P : Program) (F : Fr) (M : Mem) : List ResultVar → Option (List AV)
  | [] => some []
  | r :: rs => match resA P F M r, ressA P F M rs with | some v, some l => some (v :: l) | _, _ => none
noncomputable def resultsA (P : Program) (F : Fr) (M : Mem) (fn : Func) : Option AV := match ressA P F M fn.results.toList with
  | some [v] => some v
  | some l => some (.tup l)
  | none => none
def resS (tmps : Array Value) : ResultVar → Sem Value
  | .tmp t => pure (tmps.getD t undef)
  | .cell x t => do loadVar t (← asAddr (tmps.getD x undef))
theorem results_eq (fn : Func) (tmps : Array Value) : results fn tmps = (do let vs ← fn.results.mapM (resS tmps); pure (if h : vs.size = 1 then vs[0] else .tuple vs)) := by
  unfold results
  congr 1
theorem resA_sound {P : Program} {w0 : World} {ρ : Rho} {M : Mem} {w : World} {F : Fr} {a : Act} (hF : FR ρ F a) (hW : WR w0 ρ M w) {r : ResultVar} {v : AV} (he : resA P F M r = some v) :
    ∃ u, rel ρ v u ∧ (resS a.tmps r).run P w = .ok u w := by
  cases r with
  | tmp t =>
    simp only [resA] at he
    split at he
    · rename_i heq
      simp at he; subst he
      exact ⟨_, hF.val _ _ heq, rfl⟩
    · cases he
  | cell x t =>
    simp only [resA] at he
    split at he
    · rename_i v' heq
      split at he
      · rename_i hob
        obtain ⟨g, o, e, u, h1, h2⟩ := evLoad_sound hW (hF.val _ _ heq) he (fun b hb => by rw [hob] at hb; cases hb)
        exact ⟨u, h1, by simp only [resS, e, asAddr, Sem.run_bind, Sem.run_pure, Result.andThen_ok, h2 w rfl]⟩
      · cases he
    · cases he
theorem ressA_sound {P : Program} {w0 : World} {ρ : Rho} {M : Mem} {w : World} {F : Fr} {a : Act} (hF : FR ρ F a) (hW : WR w0 ρ M w) : ∀ (rs : List ResultVar) (l : List AV), ressA P F M rs = some l →
    ∃ us : List Value, rels ρ l us ∧ (rs.mapM (resS a.tmps)).run P w = .ok us w
  | [], l, he => by simp [ressA] at he; subst he; exact ⟨[], by simp [rels], by simp⟩
  | r :: rs, l, he => by
    simp only [ressA] at he
    cases hr : resA P F M r with
    | none => simp [hr] at he
    | some v =>
      cases hrs : ressA P F M rs with
      | none => simp [hr, hrs] at he
      | some l' =>
        simp [hr, hrs] at he; subst he
        obtain ⟨u, h1, h2⟩ := resA_sound hF hW hr
        obtain ⟨us, h3, h4⟩ := ressA_sound hF hW rs l' hrs
        refine ⟨u :: us, by simp only [rels]; exact ⟨u, us, rfl, h1, h3⟩, ?_⟩
        simp only [List.mapM_cons, Sem.run_bind, h2, Result.andThen_ok, h4]
        rfl
theorem resultsA_sound {P : Program} {w0 : World} {ρ : Rho} {M : Mem} {w : World} {F : Fr} {a : Act} (hF : FR ρ F a) (hW : WR w0 ρ M w) {fn : Func} {v : AV} (he : resultsA P F M fn = some v) :
    ∃ u, rel ρ v u ∧ (results fn a.tmps).run P w = .ok u w := by
  unfold resultsA at he
  rw [results_eq, Array.mapM_eq_mapM_toList]
  split at he
  · rename_i v' hr
    simp at he; subst he
    obtain ⟨us, h1, h2⟩ := ressA_sound hF hW _ _ hr
    have hl := h1.len
    match us, h1, h2, hl with
    | [u], h1, h2, _ =>
      simp only [rels] at h1
      obtain ⟨y, ys, e, h3, _⟩ := h1
      simp at e
      obtain ⟨rfl, rfl⟩ := e
      refine ⟨u, h3, ?_⟩
      simp only [Sem.run_bind, Sem.run_map, h2, Result.andThen_ok]
      rfl
  · rename_i l hne hr
    simp at he; subst he
    obtain ⟨us, h1, h2⟩ := ressA_sound hF hW _ _ hr
    have hl := h1.len
    refine ⟨.tuple us.toArray, by simp only [rel]; exact ⟨us, rfl, h1⟩, ?_⟩
    have hne1 : us.length ≠ 1 := fun e => by
      match l, hl, hne with
      | [], hl, _ => simp at hl; omega
      | [v], _, hne => exact hne v rfl
      | _ :: _ :: _, hl, _ => simp at hl; omega
    simp only [Sem.run_bind, Sem.run_map, h2, Result.andThen_ok]
    simp [hne1]
  · cases he
end
def frame (args : List AV) (n : Nat) : Fr := args.map some ++ List.replicate (n - args.length) (some (.lit undef))
theorem frame_start {ρ : Rho} {args : List AV} {us : List Value} (h : rels ρ args us) (n : Nat) : FR ρ (frame args n) { tmps := us.toArray ++ Array.replicate (n - us.toArray.size) undef, defers := [] } := by
  have hl := h.len
  refine ⟨by simp [frame, hl], fun t v hv => ?_, rfl⟩
  unfold frame at hv
  rw [List.getElem?_append] at hv
  simp only [List.length_map] at hv
  rw [Array.getD_eq_getD_getElem?, Array.getElem?_append]
  simp only [List.size_toArray]
  by_cases ht : t < args.length
  · rw [if_pos ht] at hv
    rw [if_pos (by omega)]
    simp at hv
    obtain ⟨y, h1, h2⟩ := h.get t v hv
    simp [h1]; exact h2
  · rw [if_neg ht] at hv
    rw [if_neg (by omega)]
    rw [List.getElem?_replicate] at hv
    split at hv
    · simp at hv; subst hv
      rw [Array.getElem?_replicate]
      simp only [rel]
      split <;> rfl
    · cases hv
noncomputable def endK {β : Type} (r : Option AV) (k : AV → Tr β) : Tr β := Option.rec (motive := fun _ => Tr β) (.bad 12) k r
noncomputable def callK {β : Type} (P : Program) (call : CallT) (lp : FuncId → Nat → Option Summ) (n : Nat) : Nat → Inl β
  | 0 => fun _ _ _ _ _ => .bad 13
  | m + 1 => fun f args M d k => match P.funcs[f]? with
    | some fn => match fn.body with
      | some c => codeK P call (callK P call lp n m) (lp f) n c (frame args fn.ntmps) M d fun ex F' M' d' => match ex with
        | .norm => endK (resultsA P F' M' fn) fun v => k v M' d'
        | .ret => endK (resultsA P F' M' fn) fun v => k v M' d'
        | .exit _ => .bad 14
      | none => .bad 15
    | none => .bad 16
def AllLoops (P : Program) (lp : FuncId → Nat → Option Summ) : Prop := ∀ (f : FuncId) fn c, P.funcs[f]? = some fn → fn.body = some c → LoopsOk P (lp f) c
theorem callK_ok {β : Type} {P : Program} (hP : Plainly P) (hm : P.follows .mixedOrders = true) {call : CallT} (hcall : CallOk P call) {lp : FuncId → Nat → Option Summ} (hlp : AllLoops P lp) (n : Nat) : ∀ m, InlOk (β := β) P (callK P call lp n m)
  | 0 => fun f args M d k G h => h.elim
  | m + 1 => fun f args M d k G h w0 ρ us w hr hW => by
    simp only [callK] at h
    cases hf : P.funcs[f]? with
    | none => simp only [hf] at h; exact h.elim
    | some fn =>
      cases hb : fn.body with
      | none => simp only [hf, hb] at h; exact h.elim
      | some c =>
        simp only [hf, hb] at h
        refine calls_of_wp hf hb (codeK_sound hP hm hcall (callK_ok hP hm hcall hlp n m) n c (hlp f fn c hf hb) (frame_start hr fn.ntmps) hW h fun ex F' M' d' ρ' a' w' h0 h1 h2 h3 => ?_)
        have fin : (endK (resultsA P F' M' fn) fun v => k v M' d').Ok G → ∃ v u, rel ρ' v u ∧ (results fn a'.tmps).run P w' = .ok u w' ∧ (k v M' d').Ok G := fun h0 => by
          cases hres : resultsA P F' M' fn with
          | none => rw [hres] at h0; exact h0.elim
          | some v =>
            rw [hres] at h0
            obtain ⟨u, q1, q2⟩ := resultsA_sound h2 h3 hres
            exact ⟨v, u, q1, q2, h0⟩
        cases ex with
        | norm =>
          obtain ⟨v, u, q1, q2, q3⟩ := fin h0
          exact bodyPost_end q2 h2.defers ⟨ρ', u, v, M', rfl, h1, q1, h3, d', q3⟩
        | ret =>
          obtain ⟨v, u, q1, q2, q3⟩ := fin h0
          exact bodyPost_ret q2 h2.defers ⟨ρ', u, v, M', rfl, h1, q1, h3, d', q3⟩
        | exit id => exact h0.elim
end Go.Proofs.Ytglkdhmikpejnaa.Sy
namespace Go.Proofs.Ytglkdhmikpejnaa.Sy
open Go Go.RowKit
theorem CallTo.mono {P : Program} {f : FuncId} {args : List AV} {M : Mem} {G H : AV → Mem → Prop} (hc : CallTo P f args M G) (h : ∀ v M', G v M' → H v M') : CallTo P f args M H := fun w0 ρ us w h1 h2 =>
  (hc w0 ρ us w h1 h2).mono fun e w' ⟨ρ', u, v, M', q1, q2, q3, q4, q5⟩ => ⟨ρ', u, v, M', q1, q2, q3, q4, h v M' q5⟩
theorem call_to {P : Program} (hP : Plainly P) (hm : P.follows .mixedOrders = true) {call : CallT} (hcall : CallOk P call) {lp : FuncId → Nat → Option Summ} (hlp : AllLoops P lp) {n m : Nat} {f : FuncId} {args : List AV} {M : Mem} {d : D} {G : AV × Mem → Prop}
    (h : (callK P call lp n m f args M d fun v M' _ => .leaf (v, M')).Ok G) : CallTo P f args M fun v M' => G (v, M') :=
  (callK_ok hP hm hcall hlp n m f args M d (fun v M' _ => .leaf (v, M')) G h).mono fun _ _ ⟨_, h⟩ => h
mutual
def Free : AV → Prop
  | .lit _ => True
  | .esl => True
  | .agg cs => Frees cs
  | .tup cs => Frees cs
  | .fn _ a b => Frees a ∧ Frees b
  | .view _ _ cell => ∀ i j, Free (cell i j)
  | .vptr _ cell => ∀ j, Free (cell j)
  | _ => False
def Frees : List AV → Prop
  | [] => True
  | v :: vs => Free v ∧ Frees vs
end
mutual
theorem rel.free {ρ ρ' : Rho} (h : ∀ g o x, ρ.still g o = some x → ρ'.still g o = some x) : ∀ {v : AV} {u : Value}, Free v → rel ρ v u → rel ρ' v u
  | .lit v, u, _, hr => by simpa [rel] using hr
  | .esl, u, _, hr => by simpa only [rel] using hr
  | .agg cs, u, hf, hr => by
    simp only [rel] at hr ⊢
    simp only [Free] at hf
    obtain ⟨l, h1, h2⟩ := hr
    exact ⟨l, h1, rels.free h hf h2⟩
  | .tup cs, u, hf, hr => by
    simp only [rel] at hr ⊢
    simp only [Free] at hf
    obtain ⟨l, h1, h2⟩ := hr
    exact ⟨l, h1, rels.free h hf h2⟩
  | .fn f a b, u, hf, hr => by
    simp only [rel] at hr ⊢
    simp only [Free] at hf
    obtain ⟨l, m, h1, h2, h3⟩ := hr
    exact ⟨l, m, h1, rels.free h hf.1 h2, rels.free h hf.2 h3⟩
  | .view n s cell, u, hf, hr => by
    simp only [rel] at hr ⊢
    simp only [Free] at hf
    obtain ⟨a, cap, h1, h2, h3, h4, h5⟩ := hr
    refine ⟨a, cap, h1, h2, h3, h4, fun hn => ?_⟩
    obtain ⟨g, o, h6, h7⟩ := h5 hn
    refine ⟨g, o, h6, fun i j hi hj => ?_⟩
    obtain ⟨x, h8, h9, h10⟩ := h7 i j hi hj
    exact ⟨x, h _ _ _ h8, rel.free h (hf i j) h9, h10⟩
  | .vptr m cell, u, hf, hr => by
    simp only [rel] at hr ⊢
    simp only [Free] at hf
    obtain ⟨g, o, h1, h2⟩ := hr
    refine ⟨g, o, h1, fun j hj => ?_⟩
    obtain ⟨x, h8, h9⟩ := h2 j hj
    exact ⟨x, h _ _ _ h8, rel.free h (hf j) h9⟩
  | .ptr .., _, hf, _ => by simp [Free] at hf
  | .sl .., _, hf, _ => by simp [Free] at hf
  | .own .., _, hf, _ => by simp [Free] at hf
  | .rptr .., _, hf, _ => by simp [Free] at hf
theorem rels.free {ρ ρ' : Rho} (h : ∀ g o x, ρ.still g o = some x → ρ'.still g o = some x) : ∀ {v : List AV} {u : List Value}, Frees v → rels ρ v u → rels ρ' v u
  | [], u, _, hr => by simpa [rels] using hr
  | v :: vs, u, hf, hr => by
    simp only [rels] at hr ⊢
    simp only [Frees] at hf
    obtain ⟨x, xs, h1, h2, h3⟩ := hr
    exact ⟨x, xs, h1, rel.free h hf.1 h2, rels.free h hf.2 h3⟩
end
def more (ρ : Rho) (st : Nat → Nat → Option Value) : Rho := { ρ with still := fun g o => (ρ.still g o).or (st g o) }
theorem WR.grown {w0 : World} {ρ : Rho} {M : Mem} {w w' : World} (h : WR w0 ρ M w) (hb : Below w.heap.size w w') (st : Nat → Nat → Option Value) (hst : ∀ g o v, st g o = some v → w.heap.size ≤ g ∧ w'.cell? ⟨g, o, none⟩ = some v) :
    Ext ρ (more ρ st) ∧ WR w0 (more ρ st) M w' := by
  have hE : Ext ρ (more ρ st) := ⟨fun _ _ h => h, fun _ h => h, fun g o v hv => by simp [more, hv], rfl, rfl⟩
  have lt : ∀ {b B g t}, M.get b = some B → ρ b = some (g, t) → g < w.heap.size := fun {b B g t} h1 h2 => by
    obtain ⟨_, cur, h3, _⟩ := h.blk b B g t h1 h2
    exact (Array.getElem?_eq_some_iff.1 h3).1
  refine ⟨hE, ⟨hb.os.trans h.keep.os, hb.tape.trans h.keep.tape, hb.output.trans h.keep.output, Nat.le_trans h.keep.size hb.size, fun k hk hm => by rw [hb.block k (Nat.lt_of_lt_of_le hk h.keep.size)]; exact h.keep.block k hk hm⟩, h.dom, h.nild, fun b B g tot h1 h2 => ?_, h.has, h.inj, fun g o v hv => ?_, fun g o v hg hm hv => ?_, fun b B g t h1 h2 o => ?_⟩
  · obtain ⟨q2, cur, q3, q4, q5⟩ := h.holds h1 h2
    exact ⟨q2, cur, by rw [hb.block g (lt h1 h2)]; exact q3, q4, q5.ext hE⟩
  · simp only [more, Option.or_eq_some_iff] at hv
    rcases hv with hv | ⟨_, hv⟩
    · have := h.still_lt hv
      have h2 := h.still g o v hv
      simp only [World.cell?] at h2 ⊢
      rw [hb.block g this]; exact h2
    · exact (hst g o v hv).2
  · simp only [more, Option.or_eq_some_iff] at hv
    rcases hv with hv | ⟨_, hv⟩
    · exact h.first g o v hg hm hv
    · have h1 := (hst g o v hv).1
      have h2 := h.keep.size
      omega
  · simp only [more, Option.or_eq_none_iff]
    refine ⟨h.apart b B g t h1 h2 o, ?_⟩
    cases hs : st g o with
    | none => rfl
    | some v => have := (hst g o v hs).1; have := lt h1 h2; omega
theorem CallTo.frame {P : Program} {f : FuncId} {args : List AV} {G : AV → Prop} (h : CallTo P f args ⟨0, 0, []⟩ fun v _ => Free v ∧ G v) (hf : Frees args) (M : Mem) : CallTo P f args M fun v M' => M' = M ∧ G v := fun w0 ρ us w hr hW => by
  let ρb : Rho := ⟨fun _ => none, fun _ => false, ρ.still, ρ.still, fun _ => false⟩
  have hb : WR w ρb ⟨0, 0, []⟩ w := ⟨Keep.refl _ _, fun _ _ h => by simp [ρb] at h, fun _ h => by simp [ρb] at h, fun b B _ _ h => by simp [Mem.get_def] at h, fun b B h => by simp [Mem.get_def] at h, fun b b' B B' g t t' h => by simp [Mem.get_def] at h,
    fun g o v h => hW.still g o v h, fun g o v _ _ h => h, fun b B g t h => by simp [Mem.get_def] at h⟩
  refine (h w ρb us w (rels.free (ρ := ρ) (ρ' := ρb) (fun _ _ _ h => h) hf hr) hb).mono ?_
  rintro e w' ⟨ρ', u, v, M', rfl, hE, hv, hW', hfv, hG⟩
  have hbelow : Below w.heap.size w w' := by
    have := hW'.keep
    rw [hE.mine] at this
    exact Keep.below this
  obtain ⟨q1, q2⟩ := hW.grown hbelow (fun g o => if w.heap.size ≤ g then ρ'.still g o else none) (fun g o v hv => by
    split at hv
    · rename_i hh; exact ⟨hh, hW'.still g o v hv⟩
    · cases hv)
  refine ⟨_, u, v, M, rfl, q1, rel.free (fun g o x hx => ?_) hfv hv, q2, rfl, hG⟩
  simp only [more]
  rcases Nat.lt_or_ge g w.heap.size with hg | hg
  · have h1 := hW'.first g o x hg (by rw [hE.mine]) hx
    rw [hE.base] at h1
    have h2 : ρ.still g o = some x := h1
    rw [h2]; rfl
  · rw [if_pos hg, hx]
    cases hs : ρ.still g o with
    | none => rfl
    | some y => have := hW.still_lt hs; omega
theorem CallTo.of_calls {P : Program} {f : FuncId} {us : List Value} {u : Value} (h : ∀ w, Calls P f us.toArray w fun e w' => e = .returned u ∧ Below w.heap.size w w') (M : Mem) : CallTo P f (us.map .lit) M fun v M' => v = .lit u ∧ M' = M := fun w0 ρ us' w hr hW => by
  have e : us' = us := toVals_eq (by
    clear hr hW h
    induction us with
    | nil => rfl
    | cons x xs ih => simp [toVals, toVal, ih]) hr
  subst e
  refine (h w).mono ?_
  rintro e w' ⟨rfl, hb⟩
  obtain ⟨q1, q2⟩ := hW.grown hb (fun _ _ => none) (fun _ _ _ h => by cases h)
  exact ⟨_, u, .lit u, M, rfl, q1, by simp [rel], q2, rfl, rfl⟩
theorem CallTo.calls {P : Program} {f : FuncId} {args : List AV} {G : Value → Prop} (h : CallTo P f args ⟨0, 0, []⟩ fun v _ => ∃ u, v = .lit u ∧ G u) {w : World} {us : List Value} (hr : rels (rho0 w) args us) :
    Calls P f us.toArray w fun e w' => (∃ u, e = .returned u ∧ G u) ∧ Below w.heap.size w w' := by
  refine (h w (rho0 w) us w hr (WR.start w)).mono ?_
  rintro e w' ⟨ρ', u, v, M', rfl, hE, hv, hW', x, rfl, hG⟩
  simp only [rel] at hv
  subst hv
  refine ⟨⟨u, rfl, hG⟩, ?_⟩
  have := hW'.keep
  rw [hE.mine] at this
  exact Keep.below this
structure Con (P : Program) where
  f : FuncId
  run : List AV → Mem → Option (AV × Mem)
  ob : List AV → Mem → Option Bool
  ok : ∀ args M v M', run args M = some (v, M') → owed (ob args M) → Grow M M' ∧ CallTo P f args M fun v' M2 => v' = v ∧ M2 = M'
noncomputable def tableRun {P : Program} (l : List (Con P)) (f : FuncId) (args : List AV) (M : Mem) : Option (AV × Mem) := List.rec (motive := fun _ => Option (AV × Mem)) none (fun c _ ih => Bool.rec (motive := fun _ => Option (AV × Mem)) ih (c.run args M) (Nat.beq c.f f)) l
noncomputable def tableOb {P : Program} (l : List (Con P)) (f : FuncId) (args : List AV) (M : Mem) : Option Bool := List.rec (motive := fun _ => Option Bool) none (fun c _ ih => Bool.rec (motive := fun _ => Option Bool) ih (c.ob args M) (Nat.beq c.f f)) l
noncomputable def table {P : Program} (l : List (Con P)) : CallT := ⟨tableRun l, tableOb l, fun f args M => (tableRun l f args M).isSome⟩
theorem table_ok {P : Program} : ∀ l : List (Con P), CallOk P (table l)
  | [] => fun f args M v M' h => by cases h
  | c :: l => fun f args M v M' h hob => by
    cases hc : Nat.beq c.f f with
    | true =>
      have e : c.f = f := Nat.eq_of_beq_eq_true hc
      have h1 : c.run args M = some (v, M') := by
        have : (table (c :: l)).run f args M = Bool.rec (motive := fun _ => Option (AV × Mem)) (tableRun l f args M) (c.run args M) (Nat.beq c.f f) := rfl
        rw [this, hc] at h; exact h
      have h2 : owed (c.ob args M) := by
        have : (table (c :: l)).ob f args M = Bool.rec (motive := fun _ => Option Bool) (tableOb l f args M) (c.ob args M) (Nat.beq c.f f) := rfl
        rw [this, hc] at hob; exact hob
      rw [← e]
      exact c.ok args M v M' h1 h2
    | false =>
      have h1 : (table l).run f args M = some (v, M') := by
        have : (table (c :: l)).run f args M = Bool.rec (motive := fun _ => Option (AV × Mem)) (tableRun l f args M) (c.run args M) (Nat.beq c.f f) := rfl
        rw [this, hc] at h; exact h
      have h2 : owed ((table l).ob f args M) := by
        have : (table (c :: l)).ob f args M = Bool.rec (motive := fun _ => Option Bool) (tableOb l f args M) (c.ob args M) (Nat.beq c.f f) := rfl
        rw [this, hc] at hob; exact hob
      exact table_ok l f args M v M' h1 h2
noncomputable def Con.pure {P : Program} (f : FuncId) (val : List AV → Option AV) (ob : List AV → Option Bool) (h : ∀ args v, val args = some v → owed (ob args) → Frees args ∧ CallTo P f args ⟨0, 0, []⟩ fun v' _ => Free v' ∧ v' = v) : Con P where
  f := f
  run := fun args M => Option.rec (motive := fun _ => Option (AV × Mem)) none (fun v => some (v, M)) (val args)
  ob := fun args _ => ob args
  ok := fun args M v M' hr hob => by
    cases hv : val args with
    | none => rw [hv] at hr; cases hr
    | some x =>
      rw [hv] at hr
      simp at hr
      obtain ⟨rfl, rfl⟩ := hr
      obtain ⟨h1, h2⟩ := h args x hv hob
      exact ⟨Grow.refl M, (h2.frame h1 M).mono fun v' M' ⟨q1, q2⟩ => ⟨q2, q1⟩⟩
def loopsOf : Code → List Code
  | .seq a b => loopsOf a ++ loopsOf b
  | .cond _ a b => loopsOf a ++ loopsOf b
  | .block _ b => loopsOf b
  | .scope b => loopsOf b
  | .loop b => b :: loopsOf b
  | _ => []
theorem loopsOk_of {P : Program} {lp : Nat → Option Summ} : ∀ (c : Code), (∀ b ∈ loopsOf c, ∀ S, lp (codeId b) = some S → Sums P b S) → LoopsOk P lp c
  | .seq a b, h => ⟨loopsOk_of a fun x hx => h x (by simp [loopsOf, hx]), loopsOk_of b fun x hx => h x (by simp [loopsOf, hx])⟩
  | .cond _ a b, h => ⟨loopsOk_of a fun x hx => h x (by simp [loopsOf, hx]), loopsOk_of b fun x hx => h x (by simp [loopsOf, hx])⟩
  | .block _ b, h => loopsOk_of b fun x hx => h x (by simp [loopsOf, hx])
  | .scope b, h => loopsOk_of b fun x hx => h x (by simp [loopsOf, hx])
  | .loop b, h => by
    simp only [LoopsOk]
    cases hl : lp (codeId b) with
    | none => exact loopsOk_of b fun x hx => h x (by simp [loopsOf, hx])
    | some S => exact h b (by simp [loopsOf]) S hl
  | .skip, _ | .label _, _ | .region .., _ | .exit _, _ | .ret, _ | .goto _, _ | .refuse _, _ | .rangeFunc .., _ => trivial
def loopsIn (P : Program) (f : FuncId) (key : Nat) : List Code := match P.funcs[f]? with
  | some fn => match fn.body with
    | some c => (loopsOf c).filter fun b => Nat.beq (codeId b) key
    | none => []
  | none => []
def theBody (P : Program) (f : FuncId) (key : Nat) : Code := (loopsIn P f key).headD .skip
structure Lp (P : Program) where
  f : FuncId
  key : Nat
  S : Summ
  one : Nat.beq (loopsIn P f key).length 1 = true
  ok : Sums P (theBody P f key) S
noncomputable def lpOf {P : Program} (l : List (Lp P)) (f : FuncId) (key : Nat) : Option Summ := List.rec (motive := fun _ => Option Summ) none (fun c _ ih => Bool.rec (motive := fun _ => Option Summ) ih (some c.S) (Nat.beq c.f f && Nat.beq c.key key)) l
theorem lpOf_some {P : Program} : ∀ {l : List (Lp P)} {f : FuncId} {key : Nat} {S : Summ}, lpOf l f key = some S → ∃ c : Lp P, c.f = f ∧ c.key = key ∧ c.S = S
  | [], f, key, S, h => by cases h
  | c :: l, f, key, S, h => by
    have e : lpOf (c :: l) f key = Bool.rec (motive := fun _ => Option Summ) (lpOf l f key) (some c.S) (Nat.beq c.f f && Nat.beq c.key key) := rfl
    rw [e] at h
    cases hc : (Nat.beq c.f f && Nat.beq c.key key) with
    | false => rw [hc] at h; exact lpOf_some h
    | true =>
      rw [hc] at h
      simp at h
      rw [Bool.and_eq_true] at hc
      exact ⟨c, Nat.eq_of_beq_eq_true hc.1, Nat.eq_of_beq_eq_true hc.2, h⟩
theorem lps_sums {P : Program} (l : List (Lp P)) : ∀ (f : FuncId) fn c, P.funcs[f]? = some fn → fn.body = some c → ∀ b ∈ loopsOf c, ∀ S, lpOf l f (codeId b) = some S → Sums P b S := fun f fn c hf hb b hbm S hS => by
  obtain ⟨e, rfl, hk, rfl⟩ := lpOf_some hS
  have h1 := e.one
  have h2 := e.ok
  have hmem : b ∈ loopsIn P e.f e.key := by
    unfold loopsIn
    rw [hf]
    simp only [hb]
    exact List.mem_filter.2 ⟨hbm, by rw [hk]; exact Nat.beq_refl _⟩
  unfold theBody at h2
  match hl : loopsIn P e.f e.key, hmem, h1, h2 with
  | [x], hmem, _, h2 =>
    simp at hmem
    subst hmem
    exact h2
  | [], hmem, _, _ => cases hmem
  | _ :: _ :: _, _, h1, _ => cases h1
theorem lps_ok {P : Program} (l : List (Lp P)) : AllLoops P (lpOf l) := fun f fn c hf hb => loopsOk_of c (lps_sums l f fn c hf hb)
theorem loopsOk_in {P : Program} {lp : Nat → Option Summ} : ∀ (c : Code), (∀ b ∈ loopsOf c, ∀ S, lp (codeId b) = some S → Sums P b S) → ∀ b ∈ loopsOf c, ∀ x ∈ loopsOf b, ∀ S, lp (codeId x) = some S → Sums P x S := by
  intro c h b hb x hx
  have key : ∀ c b x, b ∈ loopsOf c → x ∈ loopsOf b → x ∈ loopsOf c := by
    intro c
    induction c with
    | seq p q ihp ihq => intro b x hb hx; simp only [loopsOf, List.mem_append] at hb ⊢; rcases hb with hb | hb; exact .inl (ihp b x hb hx); exact .inr (ihq b x hb hx)
    | cond _ p q ihp ihq => intro b x hb hx; simp only [loopsOf, List.mem_append] at hb ⊢; rcases hb with hb | hb; exact .inl (ihp b x hb hx); exact .inr (ihq b x hb hx)
    | block _ p ih => intro b x hb hx; simp only [loopsOf] at hb ⊢; exact ih b x hb hx
    | scope p ih => intro b x hb hx; simp only [loopsOf] at hb ⊢; exact ih b x hb hx
    | loop p ih =>
      intro b x hb hx
      simp only [loopsOf, List.mem_cons] at hb ⊢
      rcases hb with rfl | hb
      · exact .inr hx
      · exact .inr (ih b x hb hx)
    | _ => intro b x hb hx; simp [loopsOf] at hb
  exact h x (key c b x hb hx)
theorem body_ok {P : Program} (l : List (Lp P)) {f : FuncId} {key : Nat} {fn : Func} {c : Code} (hf : P.funcs[f]? = some fn) (hb : fn.body = some c) (hin : Nat.beq (loopsIn P f key).length 1 = true) : LoopsOk P (lpOf l f) (theBody P f key) := by
  have hmem : theBody P f key ∈ loopsIn P f key := by
    unfold theBody
    match h : loopsIn P f key, hin with
    | x :: _, _ => simp
    | [], hin => cases hin
  unfold loopsIn at hmem
  rw [hf] at hmem
  simp only [hb] at hmem
  exact loopsOk_of _ (loopsOk_in c (lps_sums l f fn c hf hb) _ (List.mem_filter.1 hmem).1)
theorem LoopTo.mono {P : Program} {b : Code} {n : Nat} {F : Fr} {M : Mem} {G H : Ex → Fr → Mem → Prop} (h : LoopTo P b n F M G) (hG : ∀ ex F M, G ex F M → H ex F M) : LoopTo P b n F M H := fun w0 ρ a w Q hF hW hQ => h w0 ρ a w Q hF hW fun ex F' M' ρ' a' w' hg => hQ ex F' M' ρ' a' w' (hG ex F' M' hg)
theorem loop_round {P : Program} (hP : Plainly P) (hm : P.follows .mixedOrders = true) {call : CallT} (hcall : CallOk P call) {lp : FuncId → Nat → Option Summ} (hlp : AllLoops P lp) {lq : Nat → Option Summ} {b : Code} (hlq : LoopsOk P lq b) {k m N n : Nat} {F : Fr} {M : Mem} {d : D} {G : Ex → Fr → Mem → Prop}
    (h : (codeK (β := Ex × Fr × Mem) P call (callK P call lp k m) lq N b F M d fun ex F' M' _ => .leaf (ex, F', M')).Ok fun r => match r.1 with | .norm => LoopTo P b n r.2.1 r.2.2 G | .exit id => G (.exit id) r.2.1 r.2.2 | .ret => G .ret r.2.1 r.2.2) : LoopTo P b (n + 1) F M G := fun w0 ρ a w Q hF hW hQ => by
  rw [rounds_succ]
  refine codeK_sound hP hm hcall (callK_ok hP hm hcall hlp k m) N b hlq hF hW h fun ex F' M' d' ρ' a' w' h0 h1 h2 h3 => ?_
  cases ex with
  | norm => exact h0 w0 ρ' a' w' Q h2 h3 fun ex2 F2 M2 ρ2 a2 w2 g q1 q2 q3 => hQ ex2 F2 M2 ρ2 a2 w2 g (h1.trans q1) q2 q3
  | exit id => exact hQ (.exit id) F' M' ρ' a' w' h0 h1 h2 h3
  | ret => exact hQ .ret F' M' ρ' a' w' h0 h1 h2 h3
noncomputable def maskF (p : List Bool) (F : Fr) : Fr := List.rec (motive := fun _ => List Bool → Fr) (fun _ => []) (fun x _ ih p => List.rec (motive := fun _ => Fr) (none :: ih []) (fun b q _ => Bool.rec (motive := fun _ => Fr) (none :: ih q) (x :: ih q) b) p) F p
theorem maskF_len : ∀ (F : Fr) (p : List Bool), (maskF p F).length = F.length
  | [], p => rfl
  | x :: F, [] => by
    have : maskF [] (x :: F) = none :: maskF [] F := rfl
    rw [this, List.length_cons, maskF_len F []]; rfl
  | x :: F, b :: q => by
    cases b
    · have : maskF (false :: q) (x :: F) = none :: maskF q F := rfl
      rw [this, List.length_cons, maskF_len F q]; rfl
    · have : maskF (true :: q) (x :: F) = x :: maskF q F := rfl
      rw [this, List.length_cons, maskF_len F q]; rfl
theorem maskF_get : ∀ (F : Fr) (p : List Bool) (t : Nat) (v : AV), (maskF p F)[t]? = some (some v) → F[t]? = some (some v)
  | [], p, t, v, h => by simp [maskF] at h
  | x :: F, [], t, v, h => by
    have e : maskF [] (x :: F) = none :: maskF [] F := rfl
    rw [e] at h
    cases t with
    | zero => simp at h
    | succ t => simpa using maskF_get F [] t v (by simpa using h)
  | x :: F, b :: q, t, v, h => by
    cases b
    · have e : maskF (false :: q) (x :: F) = none :: maskF q F := rfl
      rw [e] at h
      cases t with
      | zero => simp at h
      | succ t => simpa using maskF_get F q t v (by simpa using h)
    · have e : maskF (true :: q) (x :: F) = x :: maskF q F := rfl
      rw [e] at h
      cases t with
      | zero => simpa using h
      | succ t => simpa using maskF_get F q t v (by simpa using h)
theorem FR.mask {ρ : Rho} {F : Fr} {a : Act} (h : FR ρ F a) (p : List Bool) : FR ρ (maskF p F) a := ⟨by rw [maskF_len, h.len], fun t v hv => h.val t v (maskF_get F p t v hv), h.defers⟩
theorem LoopTo.mask {P : Program} {b : Code} {n : Nat} {F : Fr} {M : Mem} {G : Ex → Fr → Mem → Prop} (p : List Bool) (h : LoopTo P b n (maskF p F) M G) : LoopTo P b n F M G := fun w0 ρ a w Q hF hW hQ => h w0 ρ a w Q (hF.mask p) hW hQ
theorem LoopTo.out {P : Program} {b : Code} {n : Nat} {F : Fr} {M : Mem} {G : Ex → Fr → Mem → Prop} (p : List Bool) (h : LoopTo P b n F M G) : LoopTo P b n F M fun ex F' M' => ∃ F0, G ex F0 M' ∧ F' = maskF p F0 := fun w0 ρ a w Q hF hW hQ => h w0 ρ a w Q hF hW fun ex F' M' ρ' a' w' hg q1 q2 q3 => hQ ex (maskF p F') M' ρ' a' w' ⟨F', hg, rfl⟩ q1 (q2.mask p) q3
theorem loop_mask {P : Program} (hP : Plainly P) (hm : P.follows .mixedOrders = true) {call : CallT} (hcall : CallOk P call) {lp : FuncId → Nat → Option Summ} (hlp : AllLoops P lp) {lq : Nat → Option Summ} {b : Code} (hlq : LoopsOk P lq b) {k m N n : Nat} {F : Fr} {M : Mem} {d : D} {G : Ex → Fr → Mem → Prop} (p : List Bool)
    (h : (codeK (β := Ex × Fr × Mem) P call (callK P call lp k m) lq N b F M d fun ex F' M' _ => .leaf (ex, maskF p F', M')).Ok fun r => match r.1 with | .norm => LoopTo P b n r.2.1 r.2.2 G | .exit id => G (.exit id) r.2.1 r.2.2 | .ret => G .ret r.2.1 r.2.2) : LoopTo P b (n + 1) F M G := fun w0 ρ a w Q hF hW hQ => by
  rw [rounds_succ]
  refine codeK_sound hP hm hcall (callK_ok hP hm hcall hlp k m) N b hlq hF hW h fun ex F' M' d' ρ' a' w' h0 h1 h2 h3 => ?_
  cases ex with
  | norm => exact h0 w0 ρ' a' w' Q (h2.mask p) h3 fun ex2 F2 M2 ρ2 a2 w2 g q1 q2 q3 => hQ ex2 F2 M2 ρ2 a2 w2 g (h1.trans q1) q2 q3
  | exit id => exact hQ (.exit id) _ M' ρ' a' w' h0 h1 (h2.mask p) h3
  | ret => exact hQ .ret _ M' ρ' a' w' h0 h1 (h2.mask p) h3
theorem roundP {P : Program} (hP : Plainly P) (hm : P.follows .mixedOrders = true) (l : List (Con P)) (lp : List (Lp P)) (k m : Nat) (f : FuncId) (key : Nat) {fn : Func} {c : Code} (hf : P.funcs[f]? = some fn) (hb : fn.body = some c) (hin : Nat.beq (loopsIn P f key).length 1 = true) (p : List Bool) {n : Nat} {F : Fr} {M : Mem} (d : D) (t : Tr (Ex × Fr × Mem)) {G : Ex → Fr → Mem → Prop}
    (h : codeK P (table l) (callK P (table l) (lpOf lp) k m) (lpOf lp f) k (theBody P f key) F M d (fun ex F' M' _ => .leaf (ex, maskF p F', M')) = t)
    (ht : t.Ok fun r => match r.1 with | .norm => LoopTo P (theBody P f key) n r.2.1 r.2.2 G | .exit id => G (.exit id) r.2.1 r.2.2 | .ret => G .ret r.2.1 r.2.2) : LoopTo P (theBody P f key) (n + 1) F M G := by
  subst h
  exact loop_mask hP hm (table_ok l) (lps_ok lp) (body_ok lp hf hb hin) p ht
def Tr.sel {β : Type} : Tr β → β → Prop
  | .leaf b, r => r = b
  | .fork c t f, r => (c = true ∧ t.sel r) ∨ (c = false ∧ f.sel r)
  | .need c t, r => t.sel r
  | _, _ => False
theorem Tr.Ok.of_sel {β : Type} {H : β → Prop} : ∀ {t : Tr β} {r : β}, t.Ok H → t.sel r → H r
  | .leaf b, r, h, hs => by subst hs; exact h
  | .fork c t f, r, h, hs => by
    rcases hs with ⟨e, hs⟩ | ⟨e, hs⟩
    · exact (h.1 e).of_sel hs
    · exact (h.2 e).of_sel hs
  | .need c t, r, h, hs => h.2.of_sel hs
  | .bad _, _, h, _ => h.elim
  | .ask _, _, h, _ => h.elim
noncomputable def isSo (p : Prop) : Bool := @decide p (Classical.propDecidable p)
theorem isSo_t {p : Prop} : (isSo p = true) = p := by simp [isSo]
theorem isSo_f {p : Prop} : (isSo p = false) = ¬ p := by simp [isSo]
theorem need_so {β : Type} {p : Prop} {t : Tr β} {G : β → Prop} (hp : p) (ht : t.Ok G) : (Tr.need (isSo p) t).Ok G := ⟨by rw [isSo_t]; exact hp, ht⟩
theorem fork_ok {β : Type} {c : Bool} {t f : Tr β} {G : β → Prop} (ht : c = true → t.Ok G) (hf : c = false → f.Ok G) : (Tr.fork c t f).Ok G := ⟨ht, hf⟩
theorem leaf_boo {X Y : Bool} (h : X = true ↔ Y = true) : (Tr.leaf (AV.lit (.bool X))).Ok fun v => v = AV.lit (.bool Y) := by
  show _ = _
  cases X <;> cases Y <;> simp at h ⊢
theorem leaf_int {X Y : Int} (h : X = Y) : (Tr.leaf (AV.lit (.int .i64 X))).Ok fun v => v = AV.lit (.int .i64 Y) := by
  show _ = _
  rw [h]
theorem need_t {β : Type} {c : Bool} {t : Tr β} {G : β → Prop} (hp : c = true) (ht : t.Ok G) : (Tr.need c t).Ok G := ⟨hp, ht⟩
noncomputable def formS {X : Type} (get : Fr → Mem → Option X) (form : X → Fr) (M0 : X → Mem) (C : X → Prop) (res : X → Tr (Ex × Fr × Mem)) (p : List Bool) : Summ := fun F M => match get F M with
  | some x => .need (isSo (maskF p F = form x ∧ M = M0 x)) (.need (isSo (C x)) (res x))
  | none => .bad 20
theorem formS_ok {P : Program} {b : Code} {X : Type} {get : Fr → Mem → Option X} {form : X → Fr} {M0 : X → Mem} {C : X → Prop} {res : X → Tr (Ex × Fr × Mem)} {p : List Bool} (h : ∀ x, C x → ∃ n, LoopTo P b n (form x) (M0 x) fun ex F' M' => (res x).sel (ex, F', M')) : Sums P b (formS get form M0 C res p) := fun F M H hok => by
  unfold formS at hok
  split at hok
  · rename_i x _
    have h1 := hok.1
    have h2 := hok.2.1
    rw [isSo_t] at h1 h2
    obtain ⟨n, h4⟩ := h x h2
    refine ⟨n, ?_⟩
    rw [h1.2]
    refine LoopTo.mask p ?_
    rw [h1.1]
    exact h4.mono fun ex F' M' hs => Tr.Ok.of_sel hok.2.2 hs
  · exact hok.elim
noncomputable def slotI (F : Fr) (t : Nat) : Option Int := match nth F t with
  | some (some (.lit (.int .i64 n))) => some n
  | _ => none
def viewOf {α : Type} (cells : α → List Value) (d : α) (s : Nat) (xs : List α) : AV := .view xs.length s fun i j => .lit ((cells (xs.getD i d)).getD j undef)
theorem viewOf_free {α : Type} (cells : α → List Value) (d : α) (s : Nat) (xs : List α) : Free (viewOf cells d s xs) := by simp [viewOf, Free]
theorem WR.restamp {w0 : World} {ρ : Rho} {M : Mem} {w : World} (h : WR w0 ρ M w) (s : Nat) : WR w0 ρ ⟨M.top, s, M.bs⟩ w :=
  have key : ∀ b, Mem.get ⟨M.top, s, M.bs⟩ b = M.get b := fun b => rfl
  ⟨h.keep, h.dom, h.nild, h.blk, h.has, h.inj, h.still, h.first, h.apart⟩
end Go.Proofs.Ytglkdhmikpejnaa.Sy
namespace Go.Proofs.Ytglkdhmikpejnaa
open Go Go.RowKit
theorem Sy.plainly_of {P : Program} (h : (P.funcs.toList.all fun fn => !(fn.name == "runtime.NumGoroutine")) = true) : Sy.Plainly P := fun f fn hf => by
  have := List.all_eq_true.1 h fn (by
    have := Array.mem_of_getElem? hf
    simpa using this)
  simpa using this
namespace Sy
theorem plain : Plainly Try.prog := plainly_of (by kernel_rfl)
theorem mixed : Try.prog.follows .mixedOrders = true := by kernel_rfl
theorem to (l : List (Con Try.prog)) (lp : List (Lp Try.prog)) (n m : Nat) {f : FuncId} {args : List AV} {M : Mem} (d : D) (t : Tr (AV × Mem)) {G : AV × Mem → Prop}
    (h : callK Try.prog (table l) (lpOf lp) n m f args M d (fun v M' _ => .leaf (v, M')) = t) (ht : t.Ok G) : CallTo Try.prog f args M fun v M' => G (v, M') :=
  call_to plain mixed (table_ok l) (lps_ok lp) (h ▸ ht)
theorem toV (l : List (Con Try.prog)) (lp : List (Lp Try.prog)) (n m : Nat) {f : FuncId} {args : List AV} {M : Mem} (d : D) (t : Tr AV) {G : AV → Prop}
    (h : callK Try.prog (table l) (lpOf lp) n m f args M d (fun v _ _ => .leaf v) = t) (ht : t.Ok G) : CallTo Try.prog f args M fun v _ => G v := fun w0 ρ us w h1 h2 =>
  (callK_ok plain mixed (table_ok l) (lps_ok lp) n m f args M d (fun v _ _ => .leaf v) G (h ▸ ht) w0 ρ us w h1 h2).mono fun e w' ⟨ρ', u, v, M', q1, q2, q3, q4, _, q5⟩ => ⟨ρ', u, v, M', q1, q2, q3, q4, q5⟩
theorem roundL (l : List (Con Try.prog)) (lp : List (Lp Try.prog)) (k m : Nat) (f : FuncId) (key : Nat) {fn : Func} {c : Code} (hf : Try.prog.funcs[f]? = some fn) (hb : fn.body = some c) (hin : Nat.beq (loopsIn Try.prog f key).length 1 = true) (p : List Bool) {n : Nat} {F : Fr} {M : Mem} (d : D) (t : Tr (Ex × Fr × Mem)) {G : Ex → Fr → Mem → Prop}
    (h : codeK Try.prog (table l) (callK Try.prog (table l) (lpOf lp) k m) (lpOf lp f) k (theBody Try.prog f key) F M d (fun ex F' M' _ => .leaf (ex, maskF p F', M')) = t)
    (ht : t.Ok fun r => match r.1 with | .norm => LoopTo Try.prog (theBody Try.prog f key) n r.2.1 r.2.2 G | .exit id => G (.exit id) r.2.1 r.2.2 | .ret => G .ret r.2.1 r.2.2) : LoopTo Try.prog (theBody Try.prog f key) (n + 1) F M G :=
  roundP plain mixed l lp k m f key hf hb hin p d t h ht
abbrev int (n : Int) : AV := .lit (.int .i64 n)
abbrev boo (b : Bool) : AV := .lit (.bool b)
abbrev M0 : Mem := ⟨0, 0, []⟩
theorem eqI_t {a b : Int} : (eqI a b = true) = (a = b) := by rw [eqI_eq]; simp
theorem eqI_f {a b : Int} : (eqI a b = false) = ¬ (a = b) := by rw [eqI_eq]; simp
theorem leI_t {a b : Int} : (leI a b = true) = (a ≤ b) := by rw [leI_eq]; simp
theorem leI_f {a b : Int} : (leI a b = false) = ¬ (a ≤ b) := by rw [leI_eq]; simp
theorem inR_t {k : Int} {n : Nat} : (inR k n = true) = (0 ≤ k ∧ k < n) := by rw [inR_eq]; simp
theorem inR_f {k : Int} {n : Nat} : (inR k n = false) = ¬ (0 ≤ k ∧ k < n) := by rw [inR_eq]; simp
theorem eqI_d (a b : Int) : eqI a b = decide (a = b) := by rw [eqI_eq, Bool.eq_iff_iff]; simp
theorem leI_d (a b : Int) : leI a b = decide (a ≤ b) := by rw [leI_eq]
def intA : AV → Option Int
  | .lit (.int .i64 n) => some n
  | _ => none
theorem intA_eq {v : AV} {n : Int} (h : intA v = some n) : v = int n := by
  unfold intA at h
  split at h
  · simp at h; subst h; rfl
  · cases h
noncomputable def int1 (f : FuncId) (g : Int → AV) (hg : ∀ x, Free (g x)) (h : ∀ x, CallTo Try.prog f [int x] M0 fun v _ => v = g x) : Con Try.prog :=
  Con.pure f (fun args => match args with | [a] => (intA a).map g | _ => none) (fun _ => none) fun args v hv _ => by
    split at hv
    · rename_i a
      cases ha : intA a with
      | none => rw [ha] at hv; cases hv
      | some x =>
        rw [ha] at hv
        simp at hv; subst hv
        rw [intA_eq ha]
        exact ⟨⟨trivial, trivial⟩, (h x).mono fun v _ e => ⟨e ▸ hg x, e⟩⟩
    · cases hv
noncomputable def at1 (f : FuncId) (args0 : List AV) (v0 : AV) (C : Prop) (h : C → (Frees args0 ∧ Free v0) ∧ CallTo Try.prog f args0 M0 fun v _ => v = v0) : Con Try.prog :=
  Con.pure f (fun _ => some v0) (fun args => some (isSo (args = args0 ∧ C))) fun args v hv hob => by
    simp at hv
    subst hv
    have h1 := hob _ rfl
    rw [isSo_t] at h1
    obtain ⟨rfl, hC⟩ := h1
    obtain ⟨⟨q1, q2⟩, q3⟩ := h hC
    exact ⟨q1, q3.mono fun v _ e => ⟨e ▸ q2, e⟩⟩
noncomputable def atX {X : Type} (f : FuncId) (get : List AV → Option X) (args0 : X → List AV) (v0 : X → AV) (C : X → Prop) (h : ∀ x, C x → (Frees (args0 x) ∧ Free (v0 x)) ∧ CallTo Try.prog f (args0 x) M0 fun v _ => v = v0 x) : Con Try.prog :=
  Con.pure f (fun args => match get args with | some x => some (v0 x) | none => none) (fun args => match get args with | some x => some (isSo (args = args0 x ∧ C x)) | none => none) fun args v hv hob => by
    cases hg : get args with
    | none => rw [hg] at hv; cases hv
    | some x =>
      rw [hg] at hv hob
      simp at hv
      subst hv
      have h1 := hob _ rfl
      rw [isSo_t] at h1
      obtain ⟨rfl, hC⟩ := h1
      obtain ⟨⟨q1, q2⟩, q3⟩ := h x hC
      exact ⟨q1, q3.mono fun v _ e => ⟨e ▸ q2, e⟩⟩
noncomputable def str1 (f : FuncId) (g : ByteArray → AV) (C : ByteArray → Prop) (hg : ∀ s, Free (g s)) (h : ∀ s, C s → CallTo Try.prog f [.lit (.string s)] M0 fun v _ => v = g s) : Con Try.prog :=
  Con.pure f (fun args => match args with | [.lit (.string s)] => some (g s) | _ => none) (fun args => match args with | [.lit (.string s)] => some (isSo (C s)) | _ => none) fun args v hv hob => by
    split at hv
    · rename_i s
      simp at hv; subst hv
      have h1 := hob _ rfl
      rw [isSo_t] at h1
      exact ⟨⟨trivial, trivial⟩, (h s h1).mono fun v _ e => ⟨e ▸ hg s, e⟩⟩
    · cases hv
theorem old {f : FuncId} {us : List Value} {u : Value} (h : ∀ w, Calls Try.prog f us.toArray w fun e w' => e = .returned u ∧ w = w') : CallTo Try.prog f (us.map .lit) M0 fun v _ => v = .lit u :=
  (CallTo.of_calls (us := us) (fun w => (h w).mono fun e w' ⟨h1, h2⟩ => ⟨h1, h2 ▸ Below.refl _ _⟩) M0).mono fun _ _ ⟨h, _⟩ => h
end Sy
end Go.Proofs.Ytglkdhmikpejnaa
namespace Go.Proofs.Ytglkdhmikpejnaa
open Go.RowKit Sy
abbrev nn5 (l : Fr) : Fr := none :: none :: none :: none :: none :: l
abbrev nn6 (l : Fr) : Fr := none :: nn5 l
abbrev nn7 (l : Fr) : Fr := none :: nn6 l
abbrev nn8 (l : Fr) : Fr := none :: nn7 l
abbrev nn9 (l : Fr) : Fr := none :: nn8 l
abbrev nn10 (l : Fr) : Fr := none :: nn9 l
abbrev nn11 (l : Fr) : Fr := none :: nn10 l
abbrev nn12 (l : Fr) : Fr := none :: nn11 l
abbrev nn13 (l : Fr) : Fr := none :: nn12 l
abbrev nn14 (l : Fr) : Fr := none :: nn13 l
abbrev nn15 (l : Fr) : Fr := none :: nn14 l
abbrev nn16 (l : Fr) : Fr := none :: nn15 l
abbrev nn17 (l : Fr) : Fr := none :: nn16 l
abbrev nn18 (l : Fr) : Fr := none :: nn17 l
abbrev nn19 (l : Fr) : Fr := none :: nn18 l
abbrev nn20 (l : Fr) : Fr := none :: nn19 l
abbrev nn21 (l : Fr) : Fr := none :: nn20 l
abbrev nn22 (l : Fr) : Fr := none :: nn21 l
abbrev nn23 (l : Fr) : Fr := none :: nn22 l
abbrev nn24 (l : Fr) : Fr := none :: nn23 l
abbrev nn25 (l : Fr) : Fr := none :: nn24 l
abbrev nn26 (l : Fr) : Fr := none :: nn25 l
abbrev nn27 (l : Fr) : Fr := none :: nn26 l
abbrev nn28 (l : Fr) : Fr := none :: nn27 l
abbrev nn29 (l : Fr) : Fr := none :: nn28 l
abbrev nn30 (l : Fr) : Fr := none :: nn29 l
abbrev nn31 (l : Fr) : Fr := none :: nn30 l
abbrev nn32 (l : Fr) : Fr := none :: nn31 l
abbrev nn33 (l : Fr) : Fr := none :: nn32 l
abbrev nn34 (l : Fr) : Fr := none :: nn33 l
abbrev nn35 (l : Fr) : Fr := none :: nn34 l
abbrev nn36 (l : Fr) : Fr := none :: nn35 l
abbrev nn37 (l : Fr) : Fr := none :: nn36 l
abbrev nn38 (l : Fr) : Fr := none :: nn37 l
abbrev nn39 (l : Fr) : Fr := none :: nn38 l
abbrev nn40 (l : Fr) : Fr := none :: nn39 l
abbrev nn41 (l : Fr) : Fr := none :: nn40 l
abbrev nn42 (l : Fr) : Fr := none :: nn41 l
abbrev nn43 (l : Fr) : Fr := none :: nn42 l
abbrev nn44 (l : Fr) : Fr := none :: nn43 l
abbrev nn45 (l : Fr) : Fr := none :: nn44 l
abbrev nn46 (l : Fr) : Fr := none :: nn45 l
abbrev nn47 (l : Fr) : Fr := none :: nn46 l
abbrev nn48 (l : Fr) : Fr := none :: nn47 l
abbrev ff5 (l : List Bool) : List Bool := false :: false :: false :: false :: false :: l
abbrev ff6 (l : List Bool) : List Bool := false :: ff5 l
abbrev ff7 (l : List Bool) : List Bool := false :: ff6 l
abbrev ff8 (l : List Bool) : List Bool := false :: ff7 l
abbrev ff9 (l : List Bool) : List Bool := false :: ff8 l
abbrev ff10 (l : List Bool) : List Bool := false :: ff9 l
abbrev ff11 (l : List Bool) : List Bool := false :: ff10 l
abbrev ff12 (l : List Bool) : List Bool := false :: ff11 l
abbrev ff13 (l : List Bool) : List Bool := false :: ff12 l
abbrev ff14 (l : List Bool) : List Bool := false :: ff13 l
abbrev ff15 (l : List Bool) : List Bool := false :: ff14 l
abbrev ff16 (l : List Bool) : List Bool := false :: ff15 l
abbrev ff17 (l : List Bool) : List Bool := false :: ff16 l
abbrev ff18 (l : List Bool) : List Bool := false :: ff17 l
abbrev ff19 (l : List Bool) : List Bool := false :: ff18 l
abbrev ff20 (l : List Bool) : List Bool := false :: ff19 l
abbrev ff21 (l : List Bool) : List Bool := false :: ff20 l
abbrev ff22 (l : List Bool) : List Bool := false :: ff21 l
abbrev ff23 (l : List Bool) : List Bool := false :: ff22 l
abbrev ff24 (l : List Bool) : List Bool := false :: ff23 l
abbrev ff25 (l : List Bool) : List Bool := false :: ff24 l
abbrev ff26 (l : List Bool) : List Bool := false :: ff25 l
abbrev ff27 (l : List Bool) : List Bool := false :: ff26 l
abbrev ff28 (l : List Bool) : List Bool := false :: ff27 l
abbrev ff29 (l : List Bool) : List Bool := false :: ff28 l
abbrev ff30 (l : List Bool) : List Bool := false :: ff29 l
abbrev ff31 (l : List Bool) : List Bool := false :: ff30 l
abbrev ff32 (l : List Bool) : List Bool := false :: ff31 l
abbrev ff33 (l : List Bool) : List Bool := false :: ff32 l
abbrev ff34 (l : List Bool) : List Bool := false :: ff33 l
abbrev ff35 (l : List Bool) : List Bool := false :: ff34 l
abbrev ff36 (l : List Bool) : List Bool := false :: ff35 l
abbrev ff37 (l : List Bool) : List Bool := false :: ff36 l
abbrev ff38 (l : List Bool) : List Bool := false :: ff37 l
abbrev ff39 (l : List Bool) : List Bool := false :: ff38 l
abbrev ff40 (l : List Bool) : List Bool := false :: ff39 l
abbrev ff41 (l : List Bool) : List Bool := false :: ff40 l
abbrev ff42 (l : List Bool) : List Bool := false :: ff41 l
abbrev ff43 (l : List Bool) : List Bool := false :: ff42 l
abbrev ff44 (l : List Bool) : List Bool := false :: ff43 l
abbrev ff45 (l : List Bool) : List Bool := false :: ff44 l
abbrev ff46 (l : List Bool) : List Bool := false :: ff45 l
abbrev ff47 (l : List Bool) : List Bool := false :: ff46 l
abbrev ff48 (l : List Bool) : List Bool := false :: ff47 l
end Go.Proofs.Ytglkdhmikpejnaa
namespace Go.Proofs.Ytglkdhmikpejnaa
namespace Pl
def up (p : Nat → Int) (i : Nat) : Int := if 0 ≤ p i ∧ p i < i then p i else -1
theorem up_ge (p : Nat → Int) (i : Nat) : -1 ≤ up p i := by unfold up; split <;> omega
theorem up_lt (p : Nat → Int) (i : Nat) : up p i < i := by unfold up; split <;> omega
def upsF (p : Nat → Int) : Nat → Nat → List Nat
  | 0, _ => []
  | f + 1, i => if 0 ≤ up p i then (up p i).toNat :: upsF p f (up p i).toNat else []
theorem upsF_enough (p : Nat → Int) : ∀ (i f g : Nat), i ≤ f → i ≤ g → upsF p f i = upsF p g i := by
  intro i
  induction i using Nat.strongRecOn with
  | _ i ih =>
    intro f g hf hg
    match f, g with
    | 0, 0 => rfl
    | 0, g + 1 =>
      obtain rfl : i = 0 := by omega
      have := up_lt p 0
      simp only [upsF]; rw [if_neg (by omega)]
    | f + 1, 0 =>
      obtain rfl : i = 0 := by omega
      have := up_lt p 0
      simp only [upsF]; rw [if_neg (by omega)]
    | f + 1, g + 1 =>
      have := up_lt p i
      simp only [upsF]
      by_cases h : 0 ≤ up p i
      · rw [if_pos h, if_pos h, ih _ (by omega) f g (by omega) (by omega)]
      · rw [if_neg h, if_neg h]
def ups (p : Nat → Int) (i : Nat) : List Nat := upsF p i i
theorem ups_eq (p : Nat → Int) (i : Nat) : ups p i = if 0 ≤ up p i then (up p i).toNat :: ups p (up p i).toNat else [] := by
  have := up_lt p i
  unfold ups
  match i with
  | 0 => simp only [upsF]; rw [if_neg (by omega)]
  | i + 1 =>
    simp only [upsF]
    by_cases h : 0 ≤ up p (i + 1)
    · rw [if_pos h, if_pos h, upsF_enough p _ i _ (by omega) (Nat.le_refl _)]
    · rw [if_neg h, if_neg h]
def from_ (p : Nat → Int) (x : Int) : List Nat := if 0 ≤ x then x.toNat :: ups p x.toNat else []
theorem ups_from (p : Nat → Int) (i : Nat) : ups p i = from_ p (up p i) := ups_eq p i
theorem from_nat (p : Nat → Int) (k : Nat) : from_ p (k : Int) = k :: ups p k := by unfold from_; rw [if_pos (by omega)]; rfl
theorem from_none (p : Nat → Int) {x : Int} (h : x < 0) : from_ p x = [] := by unfold from_; rw [if_neg (by omega)]
theorem ups_lt (p : Nat → Int) : ∀ (i : Nat), ∀ k ∈ ups p i, k < i := by
  intro i
  induction i using Nat.strongRecOn with
  | _ i ih =>
    intro k hk
    have := up_lt p i
    rw [ups_eq] at hk
    by_cases h : 0 ≤ up p i
    · rw [if_pos h] at hk
      rcases List.mem_cons.1 hk with rfl | hk
      · omega
      · have := ih _ (by omega) k hk; omega
    · rw [if_neg h] at hk; cases hk
theorem ups_len (p : Nat → Int) : ∀ (i : Nat), (ups p i).length ≤ i := by
  intro i
  induction i using Nat.strongRecOn with
  | _ i ih =>
    have := up_lt p i
    rw [ups_eq]
    by_cases h : 0 ≤ up p i
    · rw [if_pos h]
      have := ih _ (show (up p i).toNat < i by omega)
      simp only [List.length_cons]; omega
    · rw [if_neg h]; simp
theorem ups_trans (p : Nat → Int) : ∀ (i j k : Nat), j ∈ ups p i → k ∈ ups p j → k ∈ ups p i := by
  intro i
  induction i using Nat.strongRecOn with
  | _ i ih =>
    intro j k hj hk
    have := up_lt p i
    rw [ups_eq] at hj ⊢
    by_cases h : 0 ≤ up p i
    · rw [if_pos h] at hj ⊢
      rcases List.mem_cons.1 hj with rfl | hj
      · exact List.mem_cons_of_mem _ hk
      · exact List.mem_cons_of_mem _ (ih _ (by omega) j k hj hk)
    · rw [if_neg h] at hj; cases hj
theorem ups_chain (p : Nat → Int) : ∀ (i j k : Nat), j ∈ ups p i → k ∈ ups p i → k < j → k ∈ ups p j := by
  intro i
  induction i using Nat.strongRecOn with
  | _ i ih =>
    intro j k hj hk hkj
    have := up_lt p i
    rw [ups_eq] at hj hk
    by_cases h : 0 ≤ up p i
    · rw [if_pos h] at hj hk
      rcases List.mem_cons.1 hj with rfl | hj
      · rcases List.mem_cons.1 hk with rfl | hk
        · omega
        · exact hk
      · rcases List.mem_cons.1 hk with rfl | hk
        · have := ups_lt p _ _ hj; omega
        · exact ih _ (by omega) j k hj hk hkj
    · rw [if_neg h] at hj; cases hj
def under (p : Nat → Int) (i : Nat) (j : Int) : Bool := (ups p i).any fun k => (k : Int) == j
def underF (p : Nat → Int) (x : Int) (j : Int) : Bool := (from_ p x).any fun k => (k : Int) == j
theorem under_from (p : Nat → Int) (i : Nat) (j : Int) : under p i j = underF p (up p i) j := by unfold under underF; rw [ups_from]
theorem underF_none (p : Nat → Int) {x : Int} (j : Int) (h : x < 0) : underF p x j = false := by unfold underF; rw [from_none p h]; rfl
theorem underF_hit (p : Nat → Int) {x : Int} (j : Int) (h : 0 ≤ x) (he : x = j) : underF p x j = true := by
  obtain ⟨k, rfl⟩ := Int.eq_ofNat_of_zero_le h
  unfold underF; rw [from_nat]; simp [he]
theorem underF_miss (p : Nat → Int) {x : Int} (j : Int) (h : 0 ≤ x) (he : ¬ x = j) : underF p x j = underF p (up p x.toNat) j := by
  obtain ⟨k, rfl⟩ := Int.eq_ofNat_of_zero_le h
  show (from_ p (k : Int)).any _ = _
  rw [from_nat]
  have : ((k : Int) == j) = false := by simpa using he
  simp only [List.any_cons, this, Bool.false_or]
  exact under_from p k j
theorem under_iff (p : Nat → Int) (i : Nat) (j : Int) : under p i j = true ↔ ∃ k ∈ ups p i, (k : Int) = j := by simp [under]
end Pl
end Go.Proofs.Ytglkdhmikpejnaa
namespace Go.Proofs.Ytglkdhmikpejnaa
namespace Pl
theorem filt_step : ∀ (U : List Nat) (m : Nat), U.Pairwise (· > ·) → U.filter (fun k => decide (k < m + 1)) = if m ∈ U then m :: U.filter (fun k => decide (k < m)) else U.filter (fun k => decide (k < m))
  | [], m, _ => by simp
  | k :: U, m, hp => by
    obtain ⟨h1, h2⟩ := List.pairwise_cons.1 hp
    have ih := filt_step U m h2
    by_cases e : k = m
    · subst e
      have hnot : k ∉ U := fun h => by have := h1 k h; omega
      rw [if_neg hnot] at ih
      simp only [List.filter_cons, List.mem_cons, true_or, if_true]
      rw [if_pos (by simp), if_neg (by simp), ih]
    · by_cases hlt : k < m
      · have hnot : m ∉ k :: U := by
          intro h
          rcases List.mem_cons.1 h with h | h
          · omega
          · have := h1 m h; omega
        have hnot' : m ∉ U := fun h => hnot (List.mem_cons_of_mem _ h)
        rw [if_neg hnot, List.filter_cons, List.filter_cons, if_pos (by simp; omega), if_pos (by simpa using hlt), ih, if_neg hnot']
      · have m1 : (k :: U).filter (fun k => decide (k < m + 1)) = U.filter (fun k => decide (k < m + 1)) := List.filter_cons_of_neg (by simp; omega)
        have m2 : (k :: U).filter (fun k => decide (k < m)) = U.filter (fun k => decide (k < m)) := List.filter_cons_of_neg (by simpa using hlt)
        rw [m1, m2, ih]
        by_cases hm : m ∈ U
        · rw [if_pos hm, if_pos (List.mem_cons_of_mem _ hm)]
        · rw [if_neg hm, if_neg (by intro h; rcases List.mem_cons.1 h with h | h; omega; exact hm h)]
theorem under_mem (p : Nat → Int) (i m : Nat) : under p i (m : Int) = true ↔ m ∈ ups p i := by
  rw [under_iff]
  exact ⟨fun ⟨k, hk, e⟩ => by have : k = m := by omega
                              rw [← this]; exact hk, fun h => ⟨m, h, rfl⟩⟩
def dep (p : Nat → Int) (i : Nat) : Nat := 1 + (ups p i).length
theorem dep_up (p : Nat → Int) (i : Nat) (h : 0 ≤ up p i) : dep p i = dep p (up p i).toNat + 1 := by
  unfold dep; rw [ups_eq, if_pos h]; simp; omega
theorem dep_root (p : Nat → Int) (i : Nat) (h : up p i < 0) : dep p i = 1 := by
  unfold dep; rw [ups_eq, if_neg (by omega)]; rfl
theorem dep_le (p : Nat → Int) (i : Nat) : dep p i ≤ i + 1 := by unfold dep; have := ups_len p i; omega
theorem dep_under (p : Nat → Int) : ∀ (i k : Nat), k ∈ ups p i → dep p k < dep p i := by
  intro i
  induction i using Nat.strongRecOn with
  | _ i ih =>
    intro k hk
    have hl := up_lt p i
    rw [ups_eq] at hk
    by_cases h : 0 ≤ up p i
    · rw [if_pos h] at hk
      have hd := dep_up p i h
      rcases List.mem_cons.1 hk with rfl | hk
      · omega
      · have := ih _ (by omega) k hk; omega
    · rw [if_neg h] at hk; cases hk
def inFrom (p : Nat → Int) (x : Int) (q : Nat) : Bool := (from_ p x).contains q
theorem inFrom_none (p : Nat → Int) (x : Int) (q : Nat) (h : x < 0) : inFrom p x q = false := by unfold inFrom; rw [from_none p h]; rfl
theorem inFrom_step (p : Nat → Int) (x : Int) (q : Nat) (h : (q : Int) < x) : inFrom p x q = inFrom p (up p x.toNat) q := by
  obtain ⟨k, rfl⟩ := Int.eq_ofNat_of_zero_le (show 0 ≤ x by omega)
  unfold inFrom
  show (from_ p (k : Int)).contains q = (from_ p (up p k)).contains q
  rw [from_nat, ups_from]
  have : (q == k) = false := by simp; omega
  rw [List.contains_cons, this, Bool.false_or]
theorem inFrom_stop (p : Nat → Int) (x : Int) (q : Nat) (h : x ≤ q) : inFrom p x q = decide (x = q) := by
  by_cases hx : x < 0
  · rw [inFrom_none p x q hx]; symm; simp; omega
  · obtain ⟨k, rfl⟩ := Int.eq_ofNat_of_zero_le (show 0 ≤ x by omega)
    unfold inFrom
    rw [from_nat, Bool.eq_iff_iff]
    simp only [List.contains_eq_mem, List.mem_cons, decide_eq_true_eq]
    constructor
    · rintro (h1 | h1)
      · omega
      · have := ups_lt p k q h1; omega
    · intro h1; left; omega
theorem inFrom_shallow (p : Nat → Int) (x : Int) (q : Nat) (h : (q : Int) < x) (hd : dep p x.toNat ≤ dep p q) : inFrom p x q = false := by
  obtain ⟨k, rfl⟩ := Int.eq_ofNat_of_zero_le (show 0 ≤ x by omega)
  unfold inFrom
  rw [from_nat]
  simp only [List.contains_eq_mem, decide_eq_false_iff_not, List.mem_cons]
  rintro (h1 | h1)
  · omega
  · have := dep_under p k q h1
    have e : (k : Int).toNat = k := rfl
    rw [e] at hd; omega
theorem inFrom_under (p : Nat → Int) (k q : Nat) : inFrom p (k : Int) q = (decide ((q : Int) = k) || under p k q) := by
  unfold inFrom
  rw [from_nat, Bool.eq_iff_iff]
  simp only [List.contains_eq_mem, List.mem_cons, decide_eq_true_eq, Bool.or_eq_true]
  rw [under_mem]
  constructor
  · rintro (h | h)
    · left; omega
    · right; exact h
  · rintro (h | h)
    · left; omega
    · right; exact h
def standsN (p : Nat → Int) (tg : Nat → Bool) (i : Nat) : Bool :=
  if i = 0 then decide (p 0 = -1) && tg 0 else decide (0 ≤ up p i) && tg (up p i).toNat && inFrom p ((i : Int) - 1) (up p i).toNat
end Pl
end Go.Proofs.Ytglkdhmikpejnaa
namespace Go.Proofs.Ytglkdhmikpejnaa
namespace Pl
theorem up_congr {p q : Nat → Int} {i : Nat} (h : p i = q i) : up p i = up q i := by unfold up; rw [h]
theorem ups_congr {p q : Nat → Int} : ∀ (i : Nat), (∀ j, j ≤ i → p j = q j) → ups p i = ups q i := by
  intro i
  induction i using Nat.strongRecOn with
  | _ i ih =>
    intro h
    have hl := up_lt p i
    rw [ups_eq p, ups_eq q, ← up_congr (h i (Nat.le_refl _))]
    by_cases h0 : 0 ≤ up p i
    · rw [if_pos h0, if_pos h0, ih _ (by omega) (fun j hj => h j (by omega))]
    · rw [if_neg h0, if_neg h0]
theorem dep_congr {p q : Nat → Int} (i : Nat) (h : ∀ j, j ≤ i → p j = q j) : dep p i = dep q i := by unfold dep; rw [ups_congr i h]
theorem from_congr {p q : Nat → Int} (x : Int) (h : ∀ j : Nat, (j : Int) ≤ x → p j = q j) : from_ p x = from_ q x := by
  unfold from_
  by_cases h0 : 0 ≤ x
  · rw [if_pos h0, if_pos h0, ups_congr x.toNat (fun j hj => h j (by omega))]
  · rw [if_neg h0, if_neg h0]
theorem stands_congr {p q : Nat → Int} {tg tg' : Nat → Bool} (i : Nat) (h : ∀ j, j ≤ i → p j = q j) (ht : ∀ j, j ≤ i → tg j = tg' j) : standsN p tg i = standsN q tg' i := by
  unfold standsN
  have hu := up_congr (h i (Nat.le_refl _))
  have hl := up_lt p i
  by_cases h0 : i = 0
  · subst h0
    rw [if_pos rfl, if_pos rfl, h 0 (Nat.le_refl _), ht 0 (Nat.le_refl _)]
  · rw [if_neg h0, if_neg h0, ← hu, ht (up p i).toNat (by omega)]
    unfold inFrom
    rw [from_congr ((i : Int) - 1) (fun j hj => h j (by omega))]
structure BI (p : Nat → Int) (tg : Nat → Bool) (n : Nat) (os : List Nat) : Prop where
  stand : ∀ i, i < n → standsN p tg i = true
  deep : ∀ i, i < n → dep p i ≤ 64
  lt : ∀ a ∈ os, a < n ∧ tg a = true
  way : ∀ a r, os = a :: r → r = ups p a ∧ a ∈ from_ p ((n : Int) - 1)
theorem BI.start (p : Nat → Int) (tg : Nat → Bool) : BI p tg 0 [] := ⟨fun i h => absurd h (by omega), fun i h => absurd h (by omega), fun a h => (by cases h), fun a r h => (by cases h)⟩
theorem BI.put {p q : Nat → Int} {tg tg' : Nat → Bool} {n : Nat} {os : List Nat} (h : BI p tg n os) (hp : ∀ j, j < n → q j = p j) (ht : ∀ j, j < n → tg' j = tg j)
    (hn : q n = match os with | [] => -1 | a :: _ => (a : Int)) (h0 : os = [] → n = 0 ∧ tg' n = true) (hl : os.length < 64) :
    BI q tg' (n + 1) os ∧ (tg' n = true → BI q tg' (n + 1) (n :: os)) := by
  have hdeep : ∀ i, i < n → dep q i ≤ 64 := fun i hi => by rw [dep_congr (q := p) i (fun j hj => hp j (by omega))]; exact h.deep i hi
  have hst : ∀ i, i < n → standsN q tg' i = true := fun i hi => by rw [stands_congr (q := p) (tg' := tg) i (fun j hj => hp j (by omega)) (fun j hj => ht j (by omega))]; exact h.stand i hi
  have eN : ((n + 1 : Nat) : Int) - 1 = (n : Int) := by omega
  cases os with
  | nil =>
    obtain ⟨rfl, htn⟩ := h0 rfl
    have hq : q 0 = -1 := hn
    have hu : up q 0 < 0 := by have := up_lt q 0; omega
    have s0 : standsN q tg' 0 = true := by
      unfold standsN
      rw [if_pos rfl, htn, hq]; rfl
    have d0 : dep q 0 ≤ 64 := by rw [dep_root q 0 hu]; decide
    have hall : (∀ i, i < 0 + 1 → standsN q tg' i = true) ∧ ∀ i, i < 0 + 1 → dep q i ≤ 64 := by
      constructor
      · intro i hi
        obtain rfl : i = 0 := by omega
        exact s0
      · intro i hi
        obtain rfl : i = 0 := by omega
        exact d0
    refine ⟨⟨hall.1, hall.2, fun a ha => (by cases ha), fun a r e => (by cases e)⟩, fun _ => ⟨hall.1, hall.2, fun a ha => ?_, fun a r e => ?_⟩⟩
    · simp at ha; subst ha; exact ⟨by omega, htn⟩
    · simp at e
      obtain ⟨rfl, rfl⟩ := e
      refine ⟨?_, ?_⟩
      · rw [ups_eq, if_neg (by omega)]
      · rw [eN]
        show 0 ∈ from_ q ((0 : Nat) : Int)
        rw [from_nat]; simp
  | cons a r =>
    obtain ⟨ha, hta⟩ := h.lt a (by simp)
    obtain ⟨hw, hm⟩ := h.way a r rfl
    have hq : q n = (a : Int) := hn
    have hu : up q n = (a : Int) := by unfold up; rw [hq, if_pos (by omega)]
    have hupsa : ups q a = ups p a := ups_congr a (fun j hj => hp j (by omega))
    have hupsn : ups q n = a :: r := by
      rw [ups_eq, hu, if_pos (by omega)]
      show a :: ups q a = a :: r
      rw [hupsa, hw]
    have sn : standsN q tg' n = true := by
      unfold standsN
      rw [if_neg (by omega), hu]
      show (decide (0 ≤ (a : Int)) && tg' a && inFrom q ((n : Int) - 1) a) = true
      rw [ht a ha, hta]
      have : inFrom q ((n : Int) - 1) a = true := by
        unfold inFrom
        rw [from_congr (q := p) ((n : Int) - 1) (fun j hj => hp j (by omega))]
        simpa using hm
      rw [this]
      simp
    have dn : dep q n ≤ 64 := by
      unfold dep
      rw [hupsn]
      simp only [List.length_cons] at hl ⊢
      omega
    have hall : (∀ i, i < n + 1 → standsN q tg' i = true) ∧ ∀ i, i < n + 1 → dep q i ≤ 64 := by
      constructor
      · intro i hi
        rcases Nat.eq_or_lt_of_le (Nat.le_of_lt_succ hi) with rfl | hi
        · exact sn
        · exact hst i hi
      · intro i hi
        rcases Nat.eq_or_lt_of_le (Nat.le_of_lt_succ hi) with rfl | hi
        · exact dn
        · exact hdeep i hi
    have hlt : ∀ b ∈ a :: r, b < n + 1 ∧ tg' b = true := fun b hb => by
      obtain ⟨q1, q2⟩ := h.lt b hb
      exact ⟨by omega, by rw [ht b q1]; exact q2⟩
    refine ⟨⟨hall.1, hall.2, hlt, fun b r' e => ?_⟩, fun htn => ⟨hall.1, hall.2, fun b hb => ?_, fun b r' e => ?_⟩⟩
    · simp at e
      obtain ⟨rfl, rfl⟩ := e
      refine ⟨by rw [hupsa]; exact hw, ?_⟩
      rw [eN, from_nat, hupsn]
      simp
    · rcases List.mem_cons.1 hb with rfl | hb
      · exact ⟨by omega, htn⟩
      · exact hlt b hb
    · simp at e
      obtain ⟨rfl, rfl⟩ := e
      refine ⟨hupsn.symm, ?_⟩
      rw [eN, from_nat]
      simp
theorem BI.close {p : Nat → Int} {tg : Nat → Bool} {n a : Nat} {r : List Nat} (h : BI p tg n (a :: r)) : BI p tg n r := by
  obtain ⟨hw, hm⟩ := h.way a r rfl
  refine ⟨h.stand, h.deep, fun b hb => h.lt b (by simp [hb]), fun b r' e => ?_⟩
  rw [e] at hw
  have hb : b ∈ ups p a := by rw [← hw]; simp
  have hu : 0 ≤ up p a := by
    rcases Int.lt_or_le (up p a) 0 with h1 | h1
    · rw [ups_eq, if_neg (by omega)] at hw; cases hw
    · exact h1
  rw [ups_eq, if_pos hu] at hw
  simp at hw
  obtain ⟨e1, e2⟩ := hw
  refine ⟨by rw [e2, ← e1], ?_⟩
  have hn : 0 ≤ (n : Int) - 1 := by
    have := (h.lt a (by simp)).1
    omega
  obtain ⟨k, hk⟩ := Int.eq_ofNat_of_zero_le hn
  rw [hk] at hm ⊢
  have hm : a ∈ from_ p (k : Int) := hm
  show b ∈ from_ p (k : Int)
  rw [from_nat] at hm ⊢
  rcases List.mem_cons.1 hm with rfl | hm
  · simp [hb]
  · exact List.mem_cons.2 (.inr (ups_trans p k a b hm hb))
end Pl
end Go.Proofs.Ytglkdhmikpejnaa
namespace Go.Proofs.Ytglkdhmikpejnaa.Sy
open Go Go.RowKit
def cutR (T : Nat) (ρ : Rho) : Rho := { ρ with blk := fun b => if b < T then ρ b else none, nil := fun b => if b < T then ρ.nil b else false }
end Go.Proofs.Ytglkdhmikpejnaa.Sy
namespace Go.Proofs.Ytglkdhmikpejnaa
open Go.RowKit
structure Rows {α : Type} (cells : α → List Value) (s : Nat) (w : World) (a : Option Addr) (cap : Nat) (xs : List α) : Prop where
  le : xs.length ≤ cap
  max : cap ≤ 9223372036854775807
  sm : xs.length ≤ 17592186044416
  nil : a = none → cap = 0
  base : xs ≠ [] → ∃ b off, a = some ⟨b, off, none⟩ ∧ b < w.heap.size ∧
    ∀ k (h : k < xs.length) j u, (cells xs[k])[j]? = some u → w.cell? ⟨b, off + k * s + j, none⟩ = some u
theorem Rows.below {α : Type} {cells : α → List Value} {s : Nat} {w w' : World} {a : Option Addr} {cap : Nat} {xs : List α} {B : Nat}
    (h : Rows cells s w a cap xs) (hb : Below B w w') (hB : w.heap.size ≤ B) : Rows cells s w' a cap xs :=
  ⟨h.le, h.max, h.sm, h.nil, fun hne => by
    obtain ⟨b, off, ha, hlt, hc⟩ := h.base hne
    exact ⟨b, off, ha, Nat.lt_of_lt_of_le hlt hb.size, fun k hk j u hu => (hb.cell (p := ⟨b, off + k * s + j, none⟩) (Nat.lt_of_lt_of_le hlt hB)).trans (hc k hk j u hu)⟩⟩
theorem Rows.grow {α : Type} {cells : α → List Value} {s : Nat} {w w' : World} {a : Option Addr} {cap : Nat} {xs : List α}
    (h : Rows cells s w a cap xs) (hb : Below w.heap.size w w') : Rows cells s w' a cap xs := h.below hb (Nat.le_refl _)
theorem balloc {w w1 : World} (h1 : Below w.heap.size w w1) (o : Obj) : Below w.heap.size w (w1.alloc o) := h1.alloc h1.size o
theorem ret_int {k : IntKind} {a b : Int} (h : a = b) : Ending.returned (.int k a) = .returned (.int k b) := by rw [h]
theorem ret_bool {a b : Bool} (h : a = b) : Ending.returned (.bool a) = .returned (.bool b) := by rw [h]
theorem bytes_ext {a b : ByteArray} (h : a.toList = b.toList) : a = b := by
  rw [ByteArray.toList_eq, ByteArray.toList_eq] at h
  cases a; cases b; congr 1; exact Array.toList_inj.1 h
theorem str_emp (a : ByteArray) : a.toList.isEmpty = decide (a = ⟨#[]⟩) := by
  rw [Bool.eq_iff_iff, List.isEmpty_iff, decide_eq_true_eq]
  exact ⟨fun h => bytes_ext (by rw [h, ByteArray.toList_eq]), fun h => by rw [h, ByteArray.toList_eq]⟩
def cStr (s : ByteArray) : List Value := [.string s]
structure ExtV where
  type : Int
  name : ByteArray
  w : Int
  h : Int
def ExtV.cells (e : ExtV) : List Value := [.int .i64 e.type, .string e.name, .int .i64 e.w, .int .i64 e.h]
structure NodeV where
  parent : Int
  tag : ByteArray
  id : ByteArray
  cls : Value
  att : Value
  text : ByteArray
def NodeV.cells (n : NodeV) : List Value := [.int .i64 n.parent, .string n.tag, .string n.id, n.cls, n.att, .string n.text]
theorem ExtV.one (y : ExtV) : ∀ u ∈ y.cells, u.oneCell' = true := by
  intro u hu
  simp only [ExtV.cells, List.mem_cons, List.not_mem_nil, or_false] at hu
  rcases hu with rfl | rfl | rfl | rfl <;> rfl
structure AttrV where
  name : ByteArray
  value : ByteArray
def AttrV.cells (a : AttrV) : List Value := [.string a.name, .string a.value]
theorem AttrV.one (y : AttrV) : ∀ u ∈ y.cells, u.oneCell' = true := by
  intro u hu
  simp only [AttrV.cells, List.mem_cons, List.not_mem_nil, or_false] at hu
  rcases hu with rfl | rfl <;> rfl
abbrev RAttrs := Rows AttrV.cells 2
abbrev RStrs := Rows cStr 1
structure SliceT (P : Program) (t e : TypeId) (size bytes : Nat) (z : Value) : Prop where
  under : P.underlying t = some (.slice e)
  info : ∃ i, P.info? e = some i ∧ i.zero = some z ∧ i.size = size ∧ i.bytes = bytes
  zs : z.cells.size = size
  pos : 0 < size
theorem Below.of_grown {B : Nat} {w w' : World} {e : TypeId} {size : Nat} {v : Value} {n : Nat} {xs : List Value} (hg : w.grownBy w' v.ownBlock) (hown : w.ownsRow B e size v n xs) (hB : B ≤ w.heap.size) : Below B w w' :=
  (Below.refl B w).grown hg hB (fun k hk => (hown.lt k hk).1)
theorem Rows.of_own {α : Type} {cells : α → List Value} {s : Nat} {w : World} {base : Nat} {e : TypeId} {v : Value} {xs : List α} {flat : List Value}
    (h : w.ownsRow base e s v xs.length flat) (hf : ∀ k (hk : k < xs.length) j u, (cells xs[k])[j]? = some u → flat[k * s + j]? = some u) (hs : xs.length ≤ 17592186044416) :
    ∃ a cap, v = .slice a xs.length cap ∧ Rows cells s w a cap xs := by
  rcases h.2 with ⟨rfl, h0⟩ | ⟨g, cap, cur, rfl, hb, hg, hnc, hcm, hcs, htake⟩
  · refine ⟨none, 0, by rw [h0], by omega, by omega, hs, fun _ => rfl, fun hne => absurd (List.eq_nil_of_length_eq_zero h0) hne⟩
  · refine ⟨some ⟨g, 0, none⟩, cap, rfl, hnc, by simpa [maxLen] using hcm, hs, (fun h => by cases h), fun _ => ⟨g, 0, rfl, (Array.getElem?_eq_some_iff.1 hg).1, fun k hk j u hu => ?_⟩⟩
    have h1 := hf k hk j u hu
    rw [← htake, List.getElem?_take] at h1
    split at h1
    · simp only [World.cell?, hg]
      simpa [Nat.zero_add] using h1
    · cases h1
theorem flat_get {α : Type} (cells : α → List Value) (s : Nat) : ∀ (xs : List α), (∀ x ∈ xs, (cells x).length = s) → ∀ k (hk : k < xs.length) j u, (cells xs[k])[j]? = some u → ((xs.map cells).flatten)[k * s + j]? = some u
  | [], _, k, hk, _, _, _ => absurd hk (by simp)
  | x :: xs, h, 0, _, j, u, hu => by
    have hx := h x (by simp)
    simp only [List.getElem_cons_zero] at hu
    have hj : j < (cells x).length := by
      rcases Nat.lt_or_ge j (cells x).length with h' | h'
      · exact h'
      · rw [List.getElem?_eq_none h'] at hu; cases hu
    simp only [List.map_cons, List.flatten_cons, Nat.zero_mul, Nat.zero_add]
    rw [List.getElem?_append_left hj]; exact hu
  | x :: xs, h, k + 1, hk, j, u, hu => by
    have hx := h x (by simp)
    simp only [List.getElem_cons_succ] at hu
    have := flat_get cells s xs (fun y hy => h y (by simp [hy])) k (by simpa using hk) j u hu
    simp only [List.map_cons, List.flatten_cons]
    rw [List.getElem?_append_right (by rw [hx, Nat.add_mul]; omega)]
    rw [show (k + 1) * s + j - (cells x).length = k * s + j by rw [hx, Nat.add_mul]; omega]
    exact this
theorem flat_at {α : Type} (cells : α → List Value) (s : Nat) (hs : 0 < s) : ∀ (xs : List α), (∀ x ∈ xs, (cells x).length = s) → ∀ i u, ((xs.map cells).flatten)[i]? = some u → ∃ k, ∃ hk : k < xs.length, ∃ j, i = k * s + j ∧ (cells xs[k])[j]? = some u
  | [], _, i, u, h => by simp at h
  | x :: xs, hx, i, u, h => by
    have h0 := hx x (by simp)
    simp only [List.map_cons, List.flatten_cons] at h
    by_cases hi : i < s
    · rw [List.getElem?_append_left (by omega)] at h
      exact ⟨0, by simp, i, by omega, h⟩
    · rw [List.getElem?_append_right (by omega), h0] at h
      obtain ⟨k, hk, j, e, hu⟩ := flat_at cells s hs xs (fun y hy => hx y (by simp [hy])) (i - s) u h
      exact ⟨k + 1, by simpa using hk, j, by rw [Nat.add_mul]; omega, by simpa using hu⟩
theorem Rows.flat {α : Type} {cells : α → List Value} {s : Nat} {w : World} {b off cap : Nat} {xs : List α} (h : Rows cells s w (some ⟨b, off, none⟩) cap xs) (hs : 0 < s) (hx : ∀ x ∈ xs, (cells x).length = s) :
    ∀ i u, ((xs.map cells).flatten)[i]? = some u → w.cell? ((⟨b, off, none⟩ : Addr).add i) = some u := by
  intro i u hu
  obtain ⟨k, hk, j, rfl, h'⟩ := flat_at cells s hs xs hx i u hu
  obtain ⟨b', off', e, _, hc⟩ := h.base (by intro e; rw [e] at hk; simp at hk)
  simp at e
  obtain ⟨rfl, rfl⟩ := e
  have := hc k hk j u h'
  unfold Addr.add
  split
  · rename_i hz
    rw [Nat.add_assoc, hz] at this; exact this
  · simpa [Nat.add_assoc] using this
theorem wpList_app_rows {α : Type} {cells : α → List Value} {P : Program} {w : World} {ops : Array Oper} {rest : List Oper} {o : Oper} {a : Act} {Q : Exit → Act → World → Prop}
    (t e : TypeId) (size bytes : Nat) (z : Value) (hT : SliceT P t e size bytes z) (hgd : o.guard = none) (s x : Operand)
    (ho : o.op = .call { callee := .builtin .append, args := #[s, x], argTypes := #[t, t] })
    (base : Nat) (v : Value) (n : Nat) (xs : List Value) (hs : a.eval s = v) (hown : w.ownsRow base e size v n xs)
    (ao : Option Addr) (capy : Nat) (ys : List α) (hx : a.eval x = .slice ao ys.length capy) (hY : Rows cells size w ao capy ys) (hlen : ∀ y ∈ ys, (cells y).length = size) (h1 : ∀ y ∈ ys, ∀ u ∈ cells y, u.oneCell' = true)
    (hbytes : (n + ys.length) * bytes ≤ 140737488355328) (hn : n + ys.length ≤ 17592186044416) (hbase : base ≤ w.heap.size)
    (h : ∀ v' w', w'.ownsRow base e size v' (n + ys.length) (xs ++ (ys.map cells).flatten) → Below base w w' → wpList P ops Q rest (a.put o.dst v') w') :
    wpList P ops Q (o :: rest) a w := by
  obtain ⟨i, hi, hz, hsz, hby⟩ := hT.info
  cases ao with
  | none =>
    have h0 := hY.nil rfl
    subst h0
    have hle := hY.le
    have : ys = [] := List.eq_nil_of_length_eq_zero (by omega)
    subst this
    refine wpList_append_own_none hgd s x t ho base e i size hT.under hi v n xs hs hown hx ?_
    have := h v w (by simpa using hown) (Below.refl _ _)
    exact this
  | some ad =>
    have hfl : ((ys.map cells).flatten).length = ys.length * size := by
      clear h hx hY h1 hbytes hn
      induction ys with
      | nil => simp
      | cons y ys ih => simp [ih (fun y hy => hlen y (by simp [hy])), hlen y (by simp), Nat.add_mul]; omega
    refine wpList_append_own _ hgd s x t ho base e i z size bytes hT.under hi hz hsz hby hT.zs hT.pos v n xs hs hown ad ys.length capy _ hx hfl ?_ ?_ (by unfold maxLen; omega) hbytes hbase ?_
    · intro j u hu
      by_cases hne : ys = []
      · subst hne; simp at hu
      · obtain ⟨b, off, e, _, _⟩ := hY.base hne
        simp at e; subst e
        exact hY.flat hT.pos hlen j u hu
    · intro u hu
      obtain ⟨c, hc, hu⟩ := List.mem_flatten.1 hu
      obtain ⟨y, hy, rfl⟩ := List.mem_map.1 hc
      exact h1 y hy u hu
    · intro v' w' ho' hg _
      exact h v' w' ho' (Below.of_grown hg hown hbase)
theorem Rows.later {α : Type} {cells : α → List Value} {s : Nat} {w : World} {a : Option Addr} {cap : Nat} {xs : List α} (h : Rows cells s w a cap xs) (o : Obj) : Rows cells s (w.alloc o) a cap xs :=
  h.grow ((Below.refl _ _).alloc (Nat.le_refl _) _)
end Go.Proofs.Ytglkdhmikpejnaa
namespace Go.Proofs.Ytglkdhmikpejnaa
open Go Go.RowKit
namespace Sy
theorem rows_of {α : Type} {cells : α → List Value} {s : Nat} {d : α} {ρ : Rho} {w : World} {xs : List α} {u : Value} (hst : ∀ g o x, ρ.still g o = some x → w.cell? ⟨g, o, none⟩ = some x) (hr : rel ρ (viewOf cells d s xs) u) (hc : ∀ x, (cells x).length = s) (hs : 0 < s) (hsm : xs.length ≤ 17592186044416) :
    ∃ a cap, u = .slice a xs.length cap ∧ Rows cells s w a cap xs := by
  simp only [viewOf, rel] at hr
  obtain ⟨a, cap, rfl, h2, h3, h4, h5⟩ := hr
  refine ⟨a, cap, rfl, h2, by simpa [maxLen] using h3, hsm, h4, fun hne => ?_⟩
  have hpos : 0 < xs.length := List.length_pos_iff.2 hne
  obtain ⟨g, o, rfl, h7⟩ := h5 hpos
  have lt : g < w.heap.size := by
    obtain ⟨x, h8, _⟩ := h7 0 0 hpos hs
    have := hst _ _ _ h8
    rcases Nat.lt_or_ge g w.heap.size with hh | hh
    · exact hh
    · simp only [World.cell?] at this; rw [Array.getElem?_eq_none hh] at this; cases this
  refine ⟨g, o, rfl, lt, fun k hk j u hu => ?_⟩
  have hj : j < s := by
    rcases Nat.lt_or_ge j s with h | h
    · exact h
    · rw [List.getElem?_eq_none (by rw [hc]; exact h)] at hu; cases hu
  obtain ⟨x, h8, h9, _⟩ := h7 k j hk hj
  have hg : xs.getD k d = xs[k] := by rw [List.getD_eq_getElem?_getD, List.getElem?_eq_getElem hk]; rfl
  rw [hg, List.getD_eq_getElem?_getD, hu] at h9
  simp only [Option.getD_some] at h9
  subst h9
  exact hst _ _ _ h8
theorem rel_new {α : Type} {cells : α → List Value} {s : Nat} (d : α) {w0 : World} {ρ : Rho} {M : Mem} {w w' : World} {a : Option Addr} {cap : Nat} {ys : List α} (hW : WR w0 ρ M w) (hR : Rows cells s w' a cap ys) (hn : ∀ ad, a = some ad → w.heap.size ≤ ad.block) (hc : ∀ x, (cells x).length = s) (ho : ∀ x, ∀ u ∈ cells x, u.oneCell' = true) :
    rel (more ρ fun g o => if w.heap.size ≤ g then w'.cell? ⟨g, o, none⟩ else none) (viewOf cells d s ys) (.slice a ys.length cap) := by
  simp only [viewOf, rel]
  refine ⟨a, cap, rfl, hR.le, hR.max, hR.nil, fun hpos => ?_⟩
  obtain ⟨b, off, rfl, hb, hcell⟩ := hR.base (fun e => by rw [e] at hpos; simp at hpos)
  have hbl := hn _ rfl
  refine ⟨b, off, rfl, fun i j hi hj => ?_⟩
  have hg : ys.getD i d = ys[i] := by rw [List.getD_eq_getElem?_getD, List.getElem?_eq_getElem hi]; rfl
  have hj' : j < (cells ys[i]).length := by rw [hc]; exact hj
  have hu : (cells ys[i])[j]? = some (cells ys[i])[j] := List.getElem?_eq_getElem hj'
  refine ⟨(cells ys[i])[j], ?_, ?_, ho _ _ (List.getElem_mem _)⟩
  · simp only [more]
    rw [if_pos hbl, hcell i hi j _ hu]
    cases hs : ρ.still b (off + i * s + j) with
    | none => rfl
    | some y => have := hW.still_lt hs; simp only at hbl; omega
  · rw [hg, List.getD_eq_getElem?_getD, hu]
    simp only [Option.getD_some]
theorem of_walkV {α : Type} {cells : α → List Value} {s : Nat} {d : α} {P : Program} {f : FuncId} (xs ys : List α) (rest : List Value) (hc : ∀ x, (cells x).length = s) (ho : ∀ x, ∀ u ∈ cells x, u.oneCell' = true) (hs : 0 < s) (hsm : xs.length ≤ 17592186044416)
    (h : ∀ w a cap, Rows cells s w a cap xs → Calls P f (Value.slice a xs.length cap :: rest).toArray w fun e w' => ∃ a' cap', e = .returned (.slice a' ys.length cap') ∧ Rows cells s w' a' cap' ys ∧ (∀ ad, a' = some ad → w.heap.size ≤ ad.block) ∧ Below w.heap.size w w') (M : Mem) :
    CallTo P f (viewOf cells d s xs :: rest.map .lit) M fun v M' => v = viewOf cells d s ys ∧ M' = M := fun w0 ρ us w hr hW => by
  simp only [rels] at hr
  obtain ⟨x, xs', rfl, h1, h2⟩ := hr
  have e : xs' = rest := toVals_eq (by
    clear h2 hW h h1
    induction rest with
    | nil => rfl
    | cons x xs ih => simp [toVals, toVal, ih]) h2
  subst e
  obtain ⟨a, cap, rfl, hR⟩ := rows_of hW.still h1 hc hs hsm
  refine (h w a cap hR).mono ?_
  rintro e w' ⟨a', cap', rfl, hR', hn, hb⟩
  obtain ⟨q1, q2⟩ := hW.grown hb (fun g o => if w.heap.size ≤ g then w'.cell? ⟨g, o, none⟩ else none) (fun g o v hv => by
    split at hv
    · rename_i hh; exact ⟨hh, hv⟩
    · cases hv)
  exact ⟨_, _, _, M, rfl, q1, rel_new d hW hR' hn hc ho, q2, rfl, rfl⟩
def Sub (v v0 : AV) : Prop := ∀ ρ u, rel ρ v u → rel ρ v0 u
theorem CallTo.as {P : Program} {f : FuncId} {args : List AV} {M : Mem} {v0 : AV} (h : CallTo P f args M fun v _ => Sub v v0) : CallTo P f args M fun v _ => v = v0 := fun w0 ρ us w hr hW =>
  (h w0 ρ us w hr hW).mono fun e w' ⟨ρ', u, v, M', q1, q2, q3, q4, q5⟩ => ⟨ρ', u, v0, M', q1, q2, q5 ρ' u q3, q4, rfl⟩
def hop (g : Nat → Bool) (nx : Nat → Nat) (m : Nat) : Nat → Nat → Nat
  | 0, k => k
  | f + 1, k => if k < m ∧ g k = false then hop g nx m f (nx k) else k
def hops (g : Nat → Bool) (nx : Nat → Nat) (m k : Nat) : Nat := hop g nx m (m - k) k
theorem hop_more {g : Nat → Bool} {nx : Nat → Nat} {m : Nat} (hx : ∀ k, k < m → k < nx k) : ∀ (f f' k : Nat), m - k ≤ f → m - k ≤ f' → hop g nx m f k = hop g nx m f' k := by
  intro f
  induction f with
  | zero =>
    intro f' k h1 h2
    cases f' with
    | zero => rfl
    | succ f' => simp only [hop]; rw [if_neg (by omega)]
  | succ f ih =>
    intro f' k h1 h2
    cases f' with
    | zero => simp only [hop]; rw [if_neg (by omega)]
    | succ f' =>
      simp only [hop]
      split
      · rename_i h
        have := hx k h.1
        exact ih f' (nx k) (by omega) (by omega)
      · rfl
theorem hops_step {g : Nat → Bool} {nx : Nat → Nat} {m : Nat} (hx : ∀ k, k < m → k < nx k) (k : Nat) : hops g nx m k = if k < m ∧ g k = false then hops g nx m (nx k) else k := by
  unfold hops
  by_cases h : k < m
  · rw [show m - k = (m - k - 1) + 1 by omega]
    simp only [hop]
    split
    · have := hx k h
      exact hop_more hx _ _ _ (by omega) (by omega)
    · rfl
  · rw [show m - k = 0 by omega, if_neg (by omega)]; rfl
theorem hops_end (g : Nat → Bool) (nx : Nat → Nat) {m k : Nat} (h : m ≤ k) : hops g nx m k = k := by
  unfold hops; rw [show m - k = 0 by omega]; rfl
theorem hops_le {g : Nat → Bool} {nx : Nat → Nat} {m : Nat} (hx : ∀ k, k < m → k < nx k) (hm : ∀ k, k < m → nx k ≤ m) : ∀ (f k : Nat), m - k ≤ f → k ≤ m → k ≤ hops g nx m k ∧ hops g nx m k ≤ m := by
  intro f
  induction f with
  | zero => intro k h1 h2; rw [hops_end g nx (by omega)]; omega
  | succ f ih =>
    intro k h1 h2
    rw [hops_step hx]
    split
    · rename_i h
      have h3 := hx k h.1
      have h4 := hm k h.1
      have := ih (nx k) (by omega) h4
      omega
    · omega
end Sy
end Go.Proofs.Ytglkdhmikpejnaa
namespace Go.Proofs.Ytglkdhmikpejnaa.Sy
open Go Go.RowKit
def pull (σ : Nat → Option Nat) (ρ : Rho) : Rho := { ρ with blk := fun b => match σ b with | some c => ρ c | none => none, nil := fun b => match σ b with | some c => ρ.nil c | none => false }
theorem pull_blk {σ : Nat → Option Nat} {ρ : Rho} {b c : Nat} (h : σ b = some c) : (pull σ ρ) b = ρ c := by simp only [pull, h]
theorem pull_nil {σ : Nat → Option Nat} {ρ : Rho} {b c : Nat} (h : σ b = some c) : (pull σ ρ).nil b = ρ.nil c := by simp only [pull, h]
mutual
def RenV (σ : Nat → Option Nat) : AV → AV → Prop
  | .lit a, .lit b => a = b
  | .lit a, .view n s cell => a = .slice none 0 0 ∧ n = 0
  | .esl, .esl => True
  | .ptr b o, .ptr b2 o2 => σ b2 = some b ∧ o = o2
  | .sl b o n c s, .sl b2 o2 n2 c2 s2 => σ b2 = some b ∧ o = o2 ∧ n = n2 ∧ c = c2 ∧ s = s2
  | .agg cs, .agg ds => RenVs σ cs ds
  | .tup cs, .tup ds => RenVs σ cs ds
  | .fn f a c, .fn f2 a2 c2 => f = f2 ∧ RenVs σ a a2 ∧ RenVs σ c c2
  | .view n s cell, .view n2 s2 cell2 => n = n2 ∧ s = s2 ∧ ∀ i j, i < n → j < s → RenV σ (cell i j) (cell2 i j)
  | .vptr m cell, .vptr m2 cell2 => m = m2 ∧ ∀ j, j < m → RenV σ (cell j) (cell2 j)
  | .own b n s, .own b2 n2 s2 => σ b2 = some b ∧ n = n2 ∧ s = s2
  | .rptr b i s o, .rptr b2 i2 s2 o2 => σ b2 = some b ∧ i = i2 ∧ s = s2 ∧ o = o2
  | _, _ => False
def RenVs (σ : Nat → Option Nat) : List AV → List AV → Prop
  | [], [] => True
  | v :: vs, v2 :: vs2 => RenV σ v v2 ∧ RenVs σ vs vs2
  | _, _ => False
end
mutual
theorem RenV.rel {σ : Nat → Option Nat} {ρ : Rho} : ∀ {v v2 : AV} {u : Value}, RenV σ v v2 → rel ρ v u → rel (pull σ ρ) v2 u
  | .lit a, v2, u, h, hr => by
    cases v2 <;> simp only [RenV] at h
    · subst h; simpa [Sy.rel] using hr
    · obtain ⟨rfl, rfl⟩ := h
      simp only [Sy.rel] at hr ⊢
      exact ⟨none, 0, hr, Nat.le_refl _, Nat.zero_le _, fun _ => rfl, fun h => absurd h (by omega)⟩
  | .esl, v2, u, h, hr => by
    cases v2 <;> simp only [RenV] at h
    simpa only [Sy.rel] using hr
  | .ptr b o, v2, u, h, hr => by
    cases v2 <;> simp only [RenV] at h
    obtain ⟨h1, rfl⟩ := h
    simp only [Sy.rel] at hr ⊢
    obtain ⟨g, tot, q1, q2⟩ := hr
    exact ⟨g, tot, by rw [pull_blk h1]; exact q1, q2⟩
  | .sl b o n c s, v2, u, h, hr => by
    cases v2 <;> simp only [RenV] at h
    obtain ⟨h1, rfl, rfl, rfl, rfl⟩ := h
    simp only [Sy.rel] at hr ⊢
    obtain ⟨g, tot, cap, q1, q2⟩ := hr
    exact ⟨g, tot, cap, by rw [pull_blk h1]; exact q1, q2⟩
  | .agg cs, v2, u, h, hr => by
    cases v2 <;> simp only [RenV] at h
    simp only [Sy.rel] at hr ⊢
    obtain ⟨l, q1, q2⟩ := hr
    exact ⟨l, q1, RenVs.rels h q2⟩
  | .tup cs, v2, u, h, hr => by
    cases v2 <;> simp only [RenV] at h
    simp only [Sy.rel] at hr ⊢
    obtain ⟨l, q1, q2⟩ := hr
    exact ⟨l, q1, RenVs.rels h q2⟩
  | .fn f a c, v2, u, h, hr => by
    cases v2 <;> simp only [RenV] at h
    obtain ⟨rfl, h1, h2⟩ := h
    simp only [Sy.rel] at hr ⊢
    obtain ⟨l, m, q1, q2, q3⟩ := hr
    exact ⟨l, m, q1, RenVs.rels h1 q2, RenVs.rels h2 q3⟩
  | .view n s cell, v2, u, h, hr => by
    cases v2 <;> simp only [RenV] at h
    obtain ⟨rfl, rfl, h1⟩ := h
    simp only [Sy.rel] at hr ⊢
    obtain ⟨a, cap, q1, q2, q3, q4, q5⟩ := hr
    refine ⟨a, cap, q1, q2, q3, q4, fun hn => ?_⟩
    obtain ⟨g, o, h6, h7⟩ := q5 hn
    refine ⟨g, o, h6, fun i j hi hj => ?_⟩
    obtain ⟨x, h8, h9, h10⟩ := h7 i j hi hj
    exact ⟨x, h8, RenV.rel (h1 i j hi hj) h9, h10⟩
  | .vptr m cell, v2, u, h, hr => by
    cases v2 <;> simp only [RenV] at h
    obtain ⟨rfl, h1⟩ := h
    simp only [Sy.rel] at hr ⊢
    obtain ⟨g, o, q1, q2⟩ := hr
    refine ⟨g, o, q1, fun j hj => ?_⟩
    obtain ⟨x, h8, h9⟩ := q2 j hj
    exact ⟨x, h8, RenV.rel (h1 j hj) h9⟩
  | .own b n s, v2, u, h, hr => by
    cases v2 <;> simp only [RenV] at h
    obtain ⟨h1, rfl, rfl⟩ := h
    simp only [Sy.rel] at hr ⊢
    rcases hr with ⟨q1, q2⟩ | ⟨g, tot, cap, q1, q2⟩
    · exact .inl ⟨by rw [pull_nil h1]; exact q1, q2⟩
    · exact .inr ⟨g, tot, cap, by rw [pull_blk h1]; exact q1, q2⟩
  | .rptr b i s o, v2, u, h, hr => by
    cases v2 <;> simp only [RenV] at h
    obtain ⟨h1, rfl, rfl, rfl⟩ := h
    simp only [Sy.rel] at hr ⊢
    obtain ⟨g, tot, q1, q2⟩ := hr
    exact ⟨g, tot, by rw [pull_blk h1]; exact q1, q2⟩
theorem RenVs.rels {σ : Nat → Option Nat} {ρ : Rho} : ∀ {l l2 : List AV} {u : List Value}, RenVs σ l l2 → rels ρ l u → rels (pull σ ρ) l2 u
  | [], l2, u, h, hr => by
    cases l2 <;> simp only [RenVs] at h
    simpa only [Sy.rels] using hr
  | v :: vs, l2, u, h, hr => by
    cases l2 <;> simp only [RenVs] at h
    simp only [Sy.rels] at hr ⊢
    obtain ⟨x, xs, q1, q2, q3⟩ := hr
    exact ⟨x, xs, q1, RenV.rel h.1 q2, RenVs.rels h.2 q3⟩
end
mutual
theorem RenV.free (σ : Nat → Option Nat) : ∀ {v : AV}, Free v → RenV σ v v
  | .lit _, _ => by simp only [RenV]
  | .esl, _ => by simp only [RenV]
  | .ptr .., h => by simp [Free] at h
  | .sl .., h => by simp [Free] at h
  | .own .., h => by simp [Free] at h
  | .rptr .., h => by simp [Free] at h
  | .agg cs, h => by
    simp only [Free] at h
    simp only [RenV]
    exact RenVs.free σ h
  | .tup cs, h => by
    simp only [Free] at h
    simp only [RenV]
    exact RenVs.free σ h
  | .fn f a b, h => by
    simp only [Free] at h
    simp only [RenV]
    exact ⟨trivial, RenVs.free σ h.1, RenVs.free σ h.2⟩
  | .view n s cell, h => by
    simp only [Free] at h
    simp only [RenV]
    exact ⟨trivial, trivial, fun i j _ _ => RenV.free σ (h i j)⟩
  | .vptr n cell, h => by
    simp only [Free] at h
    simp only [RenV]
    exact ⟨trivial, fun j _ => RenV.free σ (h j)⟩
theorem RenVs.free (σ : Nat → Option Nat) : ∀ {v : List AV}, Frees v → RenVs σ v v
  | [], _ => by simp only [RenVs]
  | v :: vs, h => by
    simp only [Frees] at h
    simp only [RenVs]
    exact ⟨RenV.free σ h.1, RenVs.free σ h.2⟩
end
theorem RenVs.get {σ : Nat → Option Nat} : ∀ {l l2 : List AV}, RenVs σ l l2 → ∀ (i : Nat) (v2 : AV), l2[i]? = some v2 → ∃ v, l[i]? = some v ∧ RenV σ v v2
  | [], l2, h, i, v2, h2 => by
    cases l2 <;> simp only [RenVs] at h
    simp at h2
  | v :: vs, l2, h, i, v2, h2 => by
    cases l2 <;> simp only [RenVs] at h
    cases i with
    | zero => simp at h2; subst h2; exact ⟨v, rfl, h.1⟩
    | succ i => simpa using RenVs.get h.2 i v2 (by simpa using h2)
def RenF (σ : Nat → Option Nat) : Fr → Fr → Prop
  | [], [] => True
  | _ :: F, none :: F2 => RenF σ F F2
  | some v :: F, some v2 :: F2 => RenV σ v v2 ∧ RenF σ F F2
  | _, _ => False
theorem RenF.len {σ : Nat → Option Nat} : ∀ {F F2 : Fr}, RenF σ F F2 → F2.length = F.length
  | [], [], _ => rfl
  | x :: F, none :: F2, h => by
    have : RenF σ F F2 := by cases x <;> simpa only [RenF] using h
    simp [RenF.len this]
  | some v :: F, some v2 :: F2, h => by
    simp only [RenF] at h
    simp [RenF.len h.2]
  | [], _ :: _, h => by simp [RenF] at h
  | _ :: _, [], h => by simp [RenF] at h
  | none :: _, some _ :: _, h => by simp [RenF] at h
theorem RenF.get {σ : Nat → Option Nat} : ∀ {F F2 : Fr}, RenF σ F F2 → ∀ (t : Nat) (v2 : AV), F2[t]? = some (some v2) → ∃ v, F[t]? = some (some v) ∧ RenV σ v v2
  | [], [], _, t, v2, h2 => by simp at h2
  | x :: F, none :: F2, h, t, v2, h2 => by
    have h' : RenF σ F F2 := by cases x <;> simpa only [RenF] using h
    cases t with
    | zero => simp at h2
    | succ t => simpa using RenF.get h' t v2 (by simpa using h2)
  | some v :: F, some w2 :: F2, h, t, v2, h2 => by
    simp only [RenF] at h
    cases t with
    | zero => simp at h2; subst h2; exact ⟨v, rfl, h.1⟩
    | succ t => simpa using RenF.get h.2 t v2 (by simpa using h2)
  | [], _ :: _, h, _, _, _ => by simp [RenF] at h
  | _ :: _, [], h, _, _, _ => by simp [RenF] at h
  | none :: _, some _ :: _, h, _, _, _ => by simp [RenF] at h
theorem RenF.fr {σ : Nat → Option Nat} {ρ : Rho} {F F2 : Fr} {a : Act} (h : RenF σ F F2) (hF : FR ρ F a) : FR (pull σ ρ) F2 a :=
  ⟨by rw [h.len]; exact hF.len, fun t v2 hv => by
    obtain ⟨v, h1, h2⟩ := h.get t v2 hv
    exact h2.rel (hF.val t v h1), hF.defers⟩
def RenR (σ : Nat → Option Nat) : Option Rw → Option Rw → Prop
  | none, none => True
  | some R, some R2 => R2.n = R.n ∧ R2.s = R.s ∧ ∀ i j, i < R2.n → j < R2.s → RenV σ (R.cell i j) (R2.cell i j)
  | _, _ => False
def RenB (σ : Nat → Option Nat) (B B2 : Blk) : Prop := B2.elem = B.elem ∧ RenVs σ B.cells B2.cells ∧ RenR σ B.rows B2.rows
def RenL (σ : Nat → Option Nat) (M : Mem) : List (Option Blk) → Prop
  | [] => True
  | none :: l => RenL σ M l
  | some B2 :: l => (∃ c B, σ l.length = some c ∧ M.get c = some B ∧ RenB σ B B2) ∧ RenL σ M l
structure RenM (σ : Nat → Option Nat) (M M2 : Mem) : Prop where
  top : M2.bs.length = M2.top
  dom : ∀ b c, σ b = some c → b < M2.top
  inj : ∀ b b' c, σ b = some c → σ b' = some c → b = b'
  blks : RenL σ M M2.bs
abbrev nm (l : List Nat) : Nat → Option Nat := fun b => l[b]?
theorem nm_dom {l : List Nat} {n : Nat} (h : l.length ≤ n) : ∀ b c, nm l b = some c → b < n := fun b c hb => Nat.lt_of_lt_of_le (List.getElem?_eq_some_iff.1 hb).1 h
theorem nm_inj {l : List Nat} (h : l.Nodup) : ∀ b b' c, nm l b = some c → nm l b' = some c → b = b' := fun b b' c h1 h2 => by
  obtain ⟨q1, q2⟩ := List.getElem?_eq_some_iff.1 h1
  obtain ⟨q3, q4⟩ := List.getElem?_eq_some_iff.1 h2
  have hp := List.pairwise_iff_getElem.1 h
  rcases Nat.lt_trichotomy b b' with hl | hl | hl
  · exact absurd (q2.trans q4.symm) (hp b b' q1 q3 hl)
  · exact hl
  · exact absurd (q4.trans q2.symm) (hp b' b q3 q1 hl)
theorem RenM.of {l : List Nat} {M M2 : Mem} (h1 : M2.bs.length = M2.top) (h2 : l.length = M2.top) (h3 : l.Nodup) (h4 : RenL (nm l) M M2.bs) : RenM (nm l) M M2 := ⟨h1, nm_dom (by omega), nm_inj h3, h4⟩
theorem RenL.get {σ : Nat → Option Nat} {M : Mem} : ∀ {l : List (Option Blk)}, RenL σ M l → ∀ (i : Nat) (B2 : Blk), l[i]? = some (some B2) → ∃ c B, σ (l.length - 1 - i) = some c ∧ M.get c = some B ∧ RenB σ B B2
  | [], _, i, B2, h2 => by simp at h2
  | none :: l, h, i, B2, h2 => by
    simp only [RenL] at h
    cases i with
    | zero => simp at h2
    | succ i =>
      have := RenL.get h i B2 (by simpa using h2)
      rw [show (none :: l).length - 1 - (i + 1) = l.length - 1 - i by simp only [List.length_cons]; omega]
      exact this
  | some B :: l, h, i, B2, h2 => by
    simp only [RenL] at h
    cases i with
    | zero =>
      simp at h2; subst h2
      rw [show (some B :: l).length - 1 - 0 = l.length by simp]
      exact h.1
    | succ i =>
      have := RenL.get h.2 i B2 (by simpa using h2)
      rw [show (some B :: l).length - 1 - (i + 1) = l.length - 1 - i by simp only [List.length_cons]; omega]
      exact this
theorem RenM.get {σ : Nat → Option Nat} {M M2 : Mem} (h : RenM σ M M2) {b : Nat} {B2 : Blk} (hb : M2.get b = some B2) : b < M2.top ∧ ∃ c B, σ b = some c ∧ M.get c = some B ∧ RenB σ B B2 := by
  have hlt := Mem.get_lt hb
  refine ⟨hlt, ?_⟩
  rw [Mem.get_def, if_pos hlt] at hb
  cases hC : M2.bs[M2.top - 1 - b]? with
  | none => rw [hC] at hb; cases hb
  | some x =>
    cases x with
    | none => rw [hC] at hb; cases hb
    | some C =>
      rw [hC] at hb
      simp at hb; subst hb
      obtain ⟨c, B, h1, h2⟩ := h.blks.get _ _ hC
      rw [h.top, show M2.top - 1 - (M2.top - 1 - b) = b by omega] at h1
      exact ⟨c, B, h1, h2⟩
theorem Holds.ren {σ : Nat → Option Nat} {ρ : Rho} {B B2 : Blk} {cur : Array Value} (h : RenB σ B B2) (hH : Holds ρ B cur) : Holds (pull σ ρ) B2 cur := by
  obtain ⟨h1, h2, h3⟩ := h
  refine ⟨fun i v2 hv => ?_, fun R2 hR i j hi hj => ?_⟩
  · obtain ⟨v, q1, q2⟩ := h2.get i v2 hv
    obtain ⟨u, q3, q4⟩ := hH.1 i v q1
    exact ⟨u, q3, q2.rel q4⟩
  · rw [hR] at h3
    cases hB : B.rows with
    | none => rw [hB] at h3; simp only [RenR] at h3
    | some R =>
      rw [hB] at h3
      simp only [RenR] at h3
      obtain ⟨e1, e2, e3⟩ := h3
      obtain ⟨u, q3, q4, q5⟩ := hH.2 R hB i j (by omega) (by omega)
      exact ⟨u, by rw [e2]; exact q3, (e3 i j hi hj).rel q4, q5⟩
theorem WR.ren {w0 : World} {ρ : Rho} {M M2 : Mem} {w : World} {σ : Nat → Option Nat} (h : WR w0 ρ M w) (hM : RenM σ M M2) : WR w0 (pull σ ρ) M2 w := by
  have dom := hM.dom
  have inj := hM.inj
  have up : ∀ b x, (pull σ ρ) b = some x → ∃ c, σ b = some c ∧ ρ c = some x := fun b x hb => by
    simp only [pull] at hb
    split at hb
    · rename_i c hc; exact ⟨c, hc, hb⟩
    · cases hb
  refine ⟨h.keep, fun b g hb => ?_, fun b hb => ?_, fun b B g tot h1 h2 => ?_, fun b B h1 => ?_, fun b b' B B' g t t' h1 h2 h3 h4 => ?_, h.still, h.first, fun b B g t h1 h2 => ?_⟩
  · obtain ⟨c, hc, _⟩ := up b g hb
    exact dom b c hc
  · have hb' := hb
    simp only [pull] at hb
    split at hb
    · rename_i c hc
      exact ⟨dom b c hc, by rw [pull_blk hc]; exact (h.nild c hb).2⟩
    · cases hb
  · obtain ⟨_, c, C, q1, q2, q3⟩ := hM.get h1
    rw [pull_blk q1] at h2
    obtain ⟨r1, cur, r2, r3, r4⟩ := h.holds q2 h2
    exact ⟨r1, cur, by rw [q3.1]; exact r2, r3, Holds.ren q3 r4⟩
  · obtain ⟨_, c, C, q1, q2, q3⟩ := hM.get h1
    rcases h.has c C q2 with ⟨g, t, e⟩ | ⟨e1, e2, R, e3, e4⟩
    · exact .inl ⟨g, t, by rw [pull_blk q1]; exact e⟩
    · refine .inr ⟨by rw [pull_nil q1]; exact e1, ?_, ?_⟩
      · have := q3.2.1
        rw [e2] at this
        cases hc : B.cells with
        | nil => rfl
        | cons x xs => rw [hc] at this; simp [RenVs] at this
      · have := q3.2.2
        rw [e3] at this
        cases hc : B.rows with
        | none => rw [hc] at this; simp [RenR] at this
        | some R2 => rw [hc] at this; simp only [RenR] at this; exact ⟨R2, rfl, by omega⟩
  · obtain ⟨_, c, C, q1, q2, _⟩ := hM.get h1
    obtain ⟨_, c', C', q1', q2', _⟩ := hM.get h2
    rw [pull_blk q1] at h3
    rw [pull_blk q1'] at h4
    have := h.inj c c' C C' g t t' q2 q2' h3 h4
    subst this
    exact inj b b' c q1 q1'
  · obtain ⟨_, c, C, q1, q2, _⟩ := hM.get h1
    rw [pull_blk q1] at h2
    exact h.apart c C g t q2 h2
def LoopToT (T : Nat) (P : Program) (body : Code) (n : Nat) (F : Fr) (M : Mem) (G : Ex → Fr → Mem → Prop) : Prop := ∀ w0 ρ a w (Q : Exit → Act → World → Prop), FR ρ F a → WR w0 ρ M w →
  (∀ ex F' M' ρ' a' w', G ex F' M' → Ext (cutR T ρ) ρ' → FR ρ' F' a' → WR w0 ρ' M' w' → Q ex.to a' w') → Code.rounds P body Q n a w
theorem Ext.cutR {ρ ρ' : Rho} (T : Nat) (h : Ext ρ ρ') : Ext (cutR T ρ) ρ' := ⟨fun b g hb => (by
    simp only [Sy.cutR] at hb
    split at hb
    · exact h.blk b g hb
    · cases hb), fun b hb => (by
    simp only [Sy.cutR] at hb
    split at hb
    · exact h.nil b hb
    · cases hb), h.still, h.base, h.mine⟩
theorem LoopToT.to {T : Nat} {P : Program} {b : Code} {n : Nat} {F : Fr} {M : Mem} {G : Ex → Fr → Mem → Prop} (h : LoopToT T P b n F M G) (hT : M.top ≤ T) : LoopTo P b n F M G := fun w0 ρ a w Q hF hW hQ => h w0 ρ a w Q hF hW fun ex F' M' ρ' a' w' hg h1 h2 h3 => hQ ex F' M' ρ' a' w' hg ⟨fun b g hb => h1.blk b g (by
    have := hW.dom b g hb
    simp only [Sy.cutR, if_pos (show b < T by omega)]; exact hb), fun b hb => h1.nil b (by
    have := (hW.nild b hb).1
    simp only [Sy.cutR, if_pos (show b < T by omega)]; exact hb), h1.still, h1.base, h1.mine⟩ h2 h3
theorem LoopToT.renG {T : Nat} {P : Program} {b : Code} {n : Nat} {F F2 : Fr} {M M2 : Mem} {G : Ex → Fr → Mem → Prop} (σ : Nat → Option Nat) (id : ∀ b, b < T → σ b = some b) (hF2 : RenF σ F F2) (hM : RenM σ M M2) (h : LoopToT T P b n F2 M2 G) : LoopToT T P b n F M G := fun w0 ρ a w Q hF hW hQ => by
  refine h w0 _ a w Q (hF2.fr hF) (hW.ren hM) fun ex F' M' ρ' a' w' hg q1 q2 q3 => hQ ex F' M' ρ' a' w' hg ⟨fun b g hb => q1.blk b g ?_, fun b hb => q1.nil b ?_, q1.still, q1.base, q1.mine⟩ q2 q3
  · simp only [Sy.cutR] at hb ⊢
    split at hb
    · rename_i hlt; rw [if_pos hlt]; show (pull σ ρ) b = _; rw [pull_blk (id b hlt)]; exact hb
    · cases hb
  · simp only [Sy.cutR] at hb ⊢
    split at hb
    · rename_i hlt; rw [if_pos hlt]; show (pull σ ρ).nil b = _; rw [pull_nil (id b hlt)]; exact hb
    · cases hb
theorem nm_id {l : List Nat} {T : Nat} (h0 : l.take T = List.range T) : ∀ b, b < T → nm l b = some b := fun b hb => by
  have : (l.take T)[b]? = some b := by rw [h0]; simp [hb]
  rwa [List.getElem?_take, if_pos hb] at this
theorem LoopToT.ren {T : Nat} {P : Program} {b : Code} {n : Nat} {F F2 : Fr} {M M2 : Mem} {G : Ex → Fr → Mem → Prop} (l : List Nat) (h0 : l.take T = List.range T) (hF2 : RenF (nm l) F F2) (hM : RenM (nm l) M M2) (h : LoopToT T P b n F2 M2 G) : LoopToT T P b n F M G := LoopToT.renG (nm l) (nm_id h0) hF2 hM h
def EndT (T : Nat) (P : Program) (body : Code) (n : Nat) (G : Ex → Fr → Mem → Prop) (ex : Ex) (F : Fr) (M : Mem) : Prop := match ex with
  | .norm => LoopToT T P body n F M G
  | .exit id => G (.exit id) F M
  | .ret => G .ret F M
theorem roundT {P : Program} (hP : Plainly P) (hm : P.follows .mixedOrders = true) (T : Nat) (l : List (Con P)) (lp : List (Lp P)) (k m : Nat) (f : FuncId) (key : Nat) {fn : Func} {c : Code} (hf : P.funcs[f]? = some fn) (hb : fn.body = some c) (hin : Nat.beq (loopsIn P f key).length 1 = true) (p : List Bool) {n : Nat} {F : Fr} {M : Mem} (d : D) (t : Tr (Ex × Fr × Mem)) {G : Ex → Fr → Mem → Prop}
    (h : codeK P (table l) (callK P (table l) (lpOf lp) k m) (lpOf lp f) k (theBody P f key) F M d (fun ex F' M' _ => .leaf (ex, maskF p F', M')) = t)
    (ht : t.Ok fun r => EndT T P (theBody P f key) n G r.1 r.2.1 r.2.2) : LoopToT T P (theBody P f key) (n + 1) F M G := fun w0 ρ a w Q hF hW hQ => by
  subst h
  rw [rounds_succ]
  refine codeK_sound hP hm (table_ok l) (callK_ok hP hm (table_ok l) (lps_ok lp) k m) k _ (body_ok lp hf hb hin) hF hW ht fun ex F' M' d' ρ' a' w' h0 h1 h2 h3 => ?_
  cases ex with
  | norm => exact h0 w0 _ a' w' Q (h2.mask p) h3 fun ex2 F2 M2 ρ2 a2 w2 g r1 r2 r3 => hQ ex2 F2 M2 ρ2 a2 w2 g ⟨fun b g hb => r1.blk b g (by
      simp only [Sy.cutR] at hb ⊢
      split at hb
      · rename_i hlt; rw [if_pos hlt]; exact h1.blk b g hb
      · cases hb), fun b hb => r1.nil b (by
      simp only [Sy.cutR] at hb ⊢
      split at hb
      · rename_i hlt; rw [if_pos hlt]; exact h1.nil b hb
      · cases hb), fun g o v hv => r1.still g o v (h1.still g o v hv), r1.base.trans h1.base, r1.mine.trans h1.mine⟩ r2 r3
  | exit id => exact hQ (.exit id) _ _ _ a' w' h0 (h1.cutR T) (h2.mask p) h3
  | ret => exact hQ .ret _ _ _ a' w' h0 (h1.cutR T) (h2.mask p) h3
end Go.Proofs.Ytglkdhmikpejnaa.Sy
namespace Go.Proofs.Ytglkdhmikpejnaa.Sy
open Go Go.RowKit
noncomputable def frz (keep : Bool) (M : Mem) (ρ : Rho) (w : World) : Nat → Nat → Option Value := fun g o => by
  classical
  exact if ∃ b B t, M.get b = some B ∧ ρ b = some (g, t) ∧ ρ.mine g = false then w.cell? ⟨g, o, none⟩ else match keep with | true => ρ.still g o | false => none
def ofS (st : Nat → Nat → Option Value) : Rho := ⟨fun _ => none, fun _ => false, st, st, fun _ => false⟩
def MineT (T : Nat) (M : Mem) (ρ : Rho) : Prop := ∀ g, ρ.mine g = true → ∃ b t B, b < T ∧ M.get b = some B ∧ ρ b = some (g, t)
def Frz (keep : Bool) (T : Nat) (M : Mem) (v v0 : AV) : Prop := ∀ w0 ρ w u, WR w0 ρ M w → MineT T M ρ → rel ρ v u → rel (ofS (frz keep M ρ w)) v0 u
def Frzs (keep : Bool) (T : Nat) (M : Mem) : List AV → List AV → Prop
  | [], [] => True
  | v :: l, v0 :: l0 => Frz keep T M v v0 ∧ Frzs keep T M l l0
  | _, _ => False
theorem frz_still {w0 : World} {ρ : Rho} {M : Mem} {w : World} (hW : WR w0 ρ M w) {g o : Nat} {x : Value} (h : ρ.still g o = some x) : frz true M ρ w g o = some x := by
  unfold frz
  split
  · exact hW.still g o x h
  · exact h
theorem frz_own {w0 : World} {ρ : Rho} {M : Mem} {w : World} {T : Nat} (hW : WR w0 ρ M w) (hm : MineT T M ρ) {keep : Bool} {b g t o : Nat} {B : Blk} (hb : M.get b = some B) (hg : ρ b = some (g, t)) (hT : T ≤ b) : frz keep M ρ w g o = w.cell? ⟨g, o, none⟩ := by
  unfold frz
  rw [if_pos]
  refine ⟨b, B, t, hb, hg, ?_⟩
  cases h : ρ.mine g with
  | false => rfl
  | true =>
    obtain ⟨b', t', B', q1, q2, q3⟩ := hm g h
    have := hW.inj b b' B B' g t t' hb q2 hg q3
    omega
theorem Frz.lit (keep : Bool) (T : Nat) (M : Mem) (v : Value) : Frz keep T M (.lit v) (.lit v) := fun w0 ρ w u hW hm hr => by simpa only [rel] using hr
theorem Frz.free (T : Nat) (M : Mem) {v : AV} (hf : Free v) : Frz true T M v v := fun w0 ρ w u hW hm hr => rel.free (fun g o x h => frz_still hW h) hf hr
theorem Frzs.rels {keep : Bool} {T : Nat} {M : Mem} : ∀ {l l0 : List AV}, Frzs keep T M l l0 → ∀ {w0 ρ w us}, WR w0 ρ M w → MineT T M ρ → rels ρ l us → rels (ofS (frz keep M ρ w)) l0 us
  | [], l0, h, w0, ρ, w, us, hW, hm, hr => by
    cases l0 <;> simp only [Frzs] at h
    simpa only [Sy.rels] using hr
  | v :: l, l0, h, w0, ρ, w, us, hW, hm, hr => by
    cases l0 <;> simp only [Frzs] at h
    simp only [Sy.rels] at hr ⊢
    obtain ⟨x, xs, q1, q2, q3⟩ := hr
    exact ⟨x, xs, q1, h.1 w0 ρ w x hW hm q2, Frzs.rels h.2 hW hm q3⟩
theorem Frz.agg {keep : Bool} {T : Nat} {M : Mem} {l l0 : List AV} (h : Frzs keep T M l l0) : Frz keep T M (.agg l) (.agg l0) := fun w0 ρ w u hW hm hr => by
  simp only [rel] at hr ⊢
  obtain ⟨us, q1, q2⟩ := hr
  exact ⟨us, q1, h.rels hW hm q2⟩
theorem Frz.own {keep : Bool} {T : Nat} {M : Mem} {b n s : Nat} {B : Blk} {R : Rw} {cell : Nat → Nat → AV} (hT : T ≤ b) (hb : M.get b = some B) (hR : B.rows = some R) (hn : n ≤ R.n) (hs : R.s = s) (hc : ∀ i j, i < n → j < s → Frz keep T M (R.cell i j) (cell i j)) : Frz keep T M (.own b n s) (.view n s cell) := fun w0 ρ w u hW hm hr => by
  simp only [rel] at hr ⊢
  rcases hr with ⟨_, rfl, rfl⟩ | ⟨g, tot, cap, hg, rfl, h1, h2, h3⟩
  · exact ⟨none, 0, rfl, Nat.le_refl _, by unfold maxLen; omega, fun _ => rfl, fun h => by omega⟩
  · obtain ⟨q2, cur, q3, q4, q5⟩ := hW.holds hb hg
    refine ⟨_, cap, rfl, h1, h2, (fun h => by cases h), fun _ => ⟨g, 0, rfl, fun i j hi hj => ?_⟩⟩
    obtain ⟨x, r1, r2, r3⟩ := q5.2 R hR i j (by omega) (by omega)
    refine ⟨x, ?_, hc i j hi hj w0 ρ w x hW hm r2, r3⟩
    show frz keep M ρ w g _ = _
    rw [frz_own hW hm hb hg hT, cell_at q3, Nat.zero_add, ← hs]; exact r1
theorem rels.ext0' {ρ ρ' : Rho} (h1 : ρ'.blk = ρ.blk) (h2 : ρ'.nil = ρ.nil) (h3 : ρ'.still = ρ.still) {l : List AV} {us : List Value} (h : rels ρ l us) : rels ρ' l us := rels.ext0 ⟨fun b g hb => by rw [h1]; exact hb, fun b hb => by rw [h2]; exact hb, fun g o v hv => by rw [h3]; exact hv⟩ h
theorem rel.ext0' {ρ ρ' : Rho} (h1 : ρ'.blk = ρ.blk) (h2 : ρ'.nil = ρ.nil) (h3 : ρ'.still = ρ.still) {v : AV} {u : Value} (h : rel ρ v u) : rel ρ' v u := rel.ext0 ⟨fun b g hb => by rw [h1]; exact hb, fun b hb => by rw [h2]; exact hb, fun g o v hv => by rw [h3]; exact hv⟩ h
theorem Frzs.get {keep : Bool} {T : Nat} {M : Mem} : ∀ {l l0 : List AV}, Frzs keep T M l l0 → ∀ (i : Nat) (v0 : AV), l0[i]? = some v0 → ∃ v, l[i]? = some v ∧ Frz keep T M v v0
  | [], l0, h, i, v0, h2 => by
    cases l0 <;> simp only [Frzs] at h
    simp at h2
  | v :: vs, l0, h, i, v0, h2 => by
    cases l0 <;> simp only [Frzs] at h
    cases i with
    | zero => simp at h2; subst h2; exact ⟨v, rfl, h.1⟩
    | succ i => simpa using Frzs.get h.2 i v0 (by simpa using h2)
theorem Frees.get : ∀ {l : List AV}, Frees l → ∀ (i : Nat) (v : AV), l[i]? = some v → Free v
  | [], _, i, v, h2 => by simp at h2
  | x :: l, h, i, v, h2 => by
    simp only [Frees] at h
    cases i with
    | zero => simp at h2; subst h2; exact h.1
    | succ i => exact Frees.get h.2 i v (by simpa using h2)
theorem CallTo.frame1 {P : Program} {f : FuncId} {args args1 : List AV} {v0 : AV} {M : Mem} {b : Nat} {B0 B B' : Blk} (h : CallTo P f args1 ⟨1, 0, [some B]⟩ fun v M' => Frz true 1 M' v v0 ∧ ∃ B2, M'.get 0 = some B2 ∧ B2.elem = B'.elem ∧ Frzs true 1 M' B2.cells B'.cells)
    (hargs : RenVs (nm [b]) args args1) (hb : M.get b = some B0) (hB0 : RenB (nm [b]) B0 B) (h0 : B0.rows = none) (hB' : B'.rows = none) (hel : B'.elem = B0.elem) (hfc : Frees B'.cells) (hf : Free v0) :
    CallTo P f args M fun v M' => v = v0 ∧ M' = M.put b (some B') := fun w0 ρ us w hr hW => by
  obtain ⟨g0, tot, hg⟩ : ∃ g t, ρ b = some (g, t) := by
    rcases hW.has b B0 hb with h1 | ⟨_, _, R, h2, _⟩
    · exact h1
    · rw [h0] at h2; cases h2
  obtain ⟨hm0, cur, hcur, hsz, hH⟩ := hW.holds hb hg
  have hglt : g0 < w.heap.size := (Array.getElem?_eq_some_iff.1 hcur).1
  let ρ1 : Rho := { pull (nm [b]) ρ with base := ρ.still, mine := fun k => k == g0 }
  have p0 : ρ1 0 = some (g0, tot) := by show (pull (nm [b]) ρ) 0 = _; rw [pull_blk (σ := nm [b]) (b := 0) (c := b) rfl]; exact hg
  have pn : ∀ k, ρ1 (k + 1) = none := fun k => rfl
  have nn : ∀ k, ρ1.nil k = false := fun k => by
    cases k with
    | zero =>
      show ρ.nil b = false
      cases hn : ρ.nil b with
      | false => rfl
      | true => have := (hW.nild b hn).2; rw [hg] at this; cases this
    | succ k => rfl
  have g1 : ∀ k C, Mem.get ⟨1, 0, [some B]⟩ k = some C → k = 0 ∧ C = B := fun k C hk => by
    have := Mem.get_lt hk
    obtain rfl : k = 0 := by simp only at this; omega
    exact ⟨rfl, by rw [Mem.get_def] at hk; simp at hk; exact hk.symm⟩
  have hst : WR w ρ1 ⟨1, 0, [some B]⟩ w := by
    refine ⟨Keep.refl _ _, fun k x hk => ?_, fun k hk => (by rw [nn] at hk; cases hk), fun k C g t h1 h2 => ?_, fun k C h1 => ?_, fun k k' C C' g t t' h1 h2 h3 h4 => (g1 k C h1).1.trans (g1 k' C' h2).1.symm, fun g o v hv => hW.still g o v hv, fun g o v _ _ hv => hv, fun k C g t h1 h2 o => ?_⟩
    · cases k with
      | zero => show 0 < 1; omega
      | succ k => rw [pn] at hk; cases hk
    · obtain ⟨rfl, rfl⟩ := g1 k C h1
      rw [p0] at h2
      simp at h2
      obtain ⟨rfl, rfl⟩ := h2
      obtain ⟨c1, c2⟩ : Holds (pull (nm [b]) ρ) C cur := Holds.ren hB0 hH
      refine ⟨.inr (by show (g0 == g0) = true; simp), cur, by rw [hB0.1]; exact hcur, hsz, fun i v hv => ?_, fun R hR i j hi hj => ?_⟩
      · obtain ⟨u, q1, q2⟩ := c1 i v hv
        exact ⟨u, q1, rel.ext0' (ρ := pull (nm [b]) ρ) (ρ' := ρ1) rfl rfl rfl q2⟩
      · obtain ⟨u, q1, q2, q3⟩ := c2 R hR i j hi hj
        exact ⟨u, q1, rel.ext0' (ρ := pull (nm [b]) ρ) (ρ' := ρ1) rfl rfl rfl q2, q3⟩
    · obtain ⟨rfl, rfl⟩ := g1 k C h1
      exact .inl ⟨g0, tot, p0⟩
    · obtain ⟨rfl, rfl⟩ := g1 k C h1
      rw [p0] at h2
      simp at h2
      obtain ⟨rfl, rfl⟩ := h2
      exact hW.apart b B0 g0 tot hb hg o
  refine (h w ρ1 us w (rels.ext0' (ρ := pull (nm [b]) ρ) (ρ' := ρ1) rfl rfl rfl (hargs.rels hr)) hst).mono ?_
  rintro e w' ⟨ρ', u, v, M', rfl, hE, hv, hW', hG, B2, hB2, hel2, hcells⟩
  have hmine : ∀ g, ρ'.mine g = (g == g0) := fun g => by rw [hE.mine]
  have p0' : ρ' 0 = some (g0, tot) := hE.blk 0 _ p0
  have hMT : MineT 1 M' ρ' := fun g hg1 => by
    rw [hmine] at hg1
    obtain rfl : g = g0 := by simpa using hg1
    exact ⟨0, tot, B2, by omega, hB2, p0'⟩
  obtain ⟨_, cur', hcur', hsz', hH'⟩ := hW'.holds hB2 p0'
  have hold : ∀ k, k < w.heap.size → k ≠ g0 → w'.heap[k]? = w.heap[k]? := fun k hk hne => hW'.keep.block k hk (by rw [hmine]; simpa using hne)
  let st : Nat → Nat → Option Value := fun g o => if w.heap.size ≤ g then w'.cell? ⟨g, o, none⟩ else none
  have new : ∀ {g o x}, w.heap.size ≤ g → w'.cell? ⟨g, o, none⟩ = some x → (more ρ st).still g o = some x := fun {g o x} hg hx => by
    simp only [more, st]
    rw [if_pos hg, hx]
    cases hs : ρ.still g o with
    | none => rfl
    | some y => have := hW.still_lt hs; omega
  have hsub : ∀ g o x, (ofS (Sy.frz true M' ρ' w')).still g o = some x → (more ρ st).still g o = some x := fun g o x hx => by
    have hx : Sy.frz true M' ρ' w' g o = some x := hx
    unfold Sy.frz at hx
    split at hx
    · rename_i hh
      obtain ⟨b, B, t, r1, r2, r3⟩ := hh
      obtain ⟨r4, _⟩ := hW'.holds r1 r2
      rcases r4 with r4 | r4
      · exact new r4 hx
      · rw [r3] at r4; cases r4
    · rcases Nat.lt_or_ge g w.heap.size with hg1 | hg1
      · by_cases hgg : g = g0
        · subst hgg
          have hx : ρ'.still g o = some x := hx
          rw [hW'.apart 0 B2 g tot hB2 p0' o] at hx
          cases hx
        · have h1 := hW'.first g o x hg1 (by rw [hmine]; simpa using hgg) hx
          rw [hE.base] at h1
          have h2 : ρ.still g o = some x := h1
          simp only [more, h2]; rfl
      · exact new hg1 (hW'.still g o x hx)
  have hEm : Ext ρ (more ρ st) := ⟨fun _ _ h => h, fun _ h => h, fun g o v hv => by simp [more, hv], rfl, rfl⟩
  have hlt := Mem.get_lt hb
  have key : ∀ x C, (M.put b (some B')).get x = some C → (x = b ∧ C = B') ∨ (x ≠ b ∧ M.get x = some C) := fun x C hx => by
    rcases Mem.get_put hlt hx with ⟨rfl, e⟩ | e
    · simp at e; exact .inl ⟨rfl, e.symm⟩
    · exact .inr e
  have ne0 : ∀ {x C g t}, x ≠ b → M.get x = some C → ρ x = some (g, t) → g ≠ g0 := fun {x C g t} hx hC hg1 e => by
    subst e
    exact hx (hW.inj x b C B0 g t tot hC hb hg1 hg)
  have ltw : ∀ {x C g t}, M.get x = some C → ρ x = some (g, t) → g < w.heap.size := fun {x C g t} h1 h2 => by
    obtain ⟨_, c, h3, _⟩ := hW.blk x C g t h1 h2
    exact (Array.getElem?_eq_some_iff.1 h3).1
  refine ⟨more ρ st, u, v0, M.put b (some B'), rfl, hEm, rel.free hsub hf (hG w ρ' w' u hW' hMT hv), ?_, rfl, rfl⟩
  refine ⟨⟨hW'.keep.os.trans hW.keep.os, hW'.keep.tape.trans hW.keep.tape, hW'.keep.output.trans hW.keep.output, Nat.le_trans hW.keep.size hW'.keep.size, fun k hk hmk => ?_⟩, hW.dom, hW.nild, fun x C g t h1 h2 => ?_, fun x C h1 => ?_, fun x x' C C' g t t' h1 h2 h3 h4 => ?_, fun g o v hv => ?_, fun g o v hg1 hmg hv => ?_, fun x C g t h1 h2 o => ?_⟩
  · have hne : k ≠ g0 := fun e => by
      subst e
      rcases hm0 with hm0 | hm0
      · omega
      · have : ρ.mine k = false := hmk
        rw [hm0] at this; cases this
    rw [hold k (Nat.lt_of_lt_of_le hk hW.keep.size) hne]
    exact hW.keep.block k hk hmk
  · rcases key x C h1 with ⟨rfl, rfl⟩ | ⟨hx, hC⟩
    · have h2 : ρ x = some (g, t) := h2
      rw [hg] at h2
      simp at h2
      obtain ⟨rfl, rfl⟩ := h2
      refine ⟨hm0, cur', by rw [← hel2]; exact hcur', hsz', fun i v0 hi => ?_, fun R hR => by rw [hB'] at hR; cases hR⟩
      obtain ⟨v1, s1, s2⟩ := hcells.get i v0 hi
      obtain ⟨y, s3, s4⟩ := hH'.1 i v1 s1
      refine ⟨y, s3, rel.free hsub ?_ (s2 w ρ' w' y hW' hMT s4)⟩
      exact Frees.get hfc i v0 hi
    · obtain ⟨q2, c, q3, q4, q5⟩ := hW.holds hC h2
      exact ⟨q2, c, by rw [hold g (ltw hC h2) (ne0 hx hC h2)]; exact q3, q4, q5.ext hEm⟩
  · rcases key x C h1 with ⟨rfl, rfl⟩ | ⟨hx, hC⟩
    · exact .inl ⟨g0, tot, hg⟩
    · exact hW.has x C hC
  · rcases key x C h1 with ⟨rfl, rfl⟩ | ⟨hx, hC⟩ <;> rcases key x' C' h2 with ⟨rfl, rfl⟩ | ⟨hx', hC'⟩
    · rfl
    · exact hW.inj _ _ _ _ g t t' hb hC' h3 h4
    · exact hW.inj _ _ _ _ g t t' hC hb h3 h4
    · exact hW.inj _ _ _ _ g t t' hC hC' h3 h4
  · simp only [more, Option.or_eq_some_iff] at hv
    rcases hv with hv | ⟨_, hv⟩
    · have hl := hW.still_lt hv
      have hne : g ≠ g0 := fun e => by
        subst e
        rw [hW.apart b B0 g tot hb hg o] at hv
        cases hv
      have h2 := hW.still g o v hv
      simp only [World.cell?] at h2 ⊢
      rw [hold g hl hne]; exact h2
    · simp only [st] at hv
      split at hv
      · exact hv
      · cases hv
  · simp only [more, Option.or_eq_some_iff] at hv
    rcases hv with hv | ⟨_, hv⟩
    · exact hW.first g o v hg1 hmg hv
    · simp only [st] at hv
      split at hv
      · have := hW.keep.size
        omega
      · cases hv
  · simp only [more, Option.or_eq_none_iff]
    rcases key x C h1 with ⟨rfl, rfl⟩ | ⟨hx, hC⟩
    · have h2 : ρ x = some (g, t) := h2
      refine ⟨hW.apart x B0 g t hb h2 o, ?_⟩
      simp only [st]
      rw [if_neg (by have := ltw hb h2; omega)]
    · have h2 : ρ x = some (g, t) := h2
      refine ⟨hW.apart x C g t hC h2 o, ?_⟩
      simp only [st]
      rw [if_neg (by have := ltw hC h2; omega)]
end Go.Proofs.Ytglkdhmikpejnaa.Sy
namespace Go.Proofs.Ytglkdhmikpejnaa.Sy
open Go Go.RowKit
noncomputable def sub (σ : Nat → Option Nat) (ρ : Rho) : Rho := { pull σ ρ with base := ρ.still, mine := fun g => @decide (∃ b c t, σ b = some c ∧ ρ c = some (g, t)) (Classical.propDecidable _) }
theorem sub_mine {σ : Nat → Option Nat} {ρ : Rho} {g : Nat} : (sub σ ρ).mine g = true ↔ ∃ b c t, σ b = some c ∧ ρ c = some (g, t) := by
  simp only [sub]
  exact @decide_eq_true_iff _ (Classical.propDecidable _)
theorem sub_notmine {σ : Nat → Option Nat} {ρ : Rho} {g : Nat} (h : ¬ ∃ b c t, σ b = some c ∧ ρ c = some (g, t)) : (sub σ ρ).mine g = false := by
  cases e : (sub σ ρ).mine g with
  | false => rfl
  | true => exact absurd (sub_mine.1 e) h
theorem rel.pull_sub {σ : Nat → Option Nat} {ρ : Rho} {v : AV} {u : Value} (h : rel (pull σ ρ) v u) : rel (sub σ ρ) v u := rel.ext0' (ρ := pull σ ρ) (ρ' := sub σ ρ) rfl rfl rfl h
theorem rels.pull_sub {σ : Nat → Option Nat} {ρ : Rho} {v : List AV} {u : List Value} (h : rels (pull σ ρ) v u) : rels (sub σ ρ) v u := rels.ext0' (ρ := pull σ ρ) (ρ' := sub σ ρ) rfl rfl rfl h
theorem FR.pull_sub {σ : Nat → Option Nat} {ρ : Rho} {F : Fr} {a : Act} (h : FR (pull σ ρ) F a) : FR (sub σ ρ) F a := ⟨h.len, fun t v hv => (h.val t v hv).pull_sub, h.defers⟩
theorem Holds.ext0 {ρ ρ' : Rho} {B : Blk} {cur : Array Value} (h : Holds ρ B cur) (he : Ext0 ρ ρ') : Holds ρ' B cur :=
  ⟨fun i v hv => by obtain ⟨u, h1, h2⟩ := h.1 i v hv; exact ⟨u, h1, rel.ext0 he h2⟩, fun R hR i j hi hj => by obtain ⟨u, h1, h2, h3⟩ := h.2 R hR i j hi hj; exact ⟨u, h1, rel.ext0 he h2, h3⟩⟩
def Live (σ : Nat → Option Nat) (Mc : Mem) : Prop := ∀ b c, σ b = some c → ∃ B, Mc.get b = some B
theorem WR.lt_of {w0 : World} {ρ : Rho} {M : Mem} {w : World} (h : WR w0 ρ M w) {b g t : Nat} {B : Blk} (h1 : M.get b = some B) (h2 : ρ b = some (g, t)) : g < w.heap.size := by
  obtain ⟨_, c, h3, _⟩ := h.blk b B g t h1 h2
  exact (Array.getElem?_eq_some_iff.1 h3).1
theorem WR.enter {w0 : World} {ρ : Rho} {M Mc : Mem} {w : World} {σ : Nat → Option Nat} (h : WR w0 ρ M w) (hM : RenM σ M Mc) : WR w (sub σ ρ) Mc w := by
  have hr := h.ren hM
  refine ⟨Keep.refl _ _, hr.dom, hr.nild, fun b B g tot h1 h2 => ?_, hr.has, hr.inj, hr.still, fun g o v _ _ hv => hv, hr.apart⟩
  obtain ⟨_, cur, r2, r3, r4⟩ := hr.holds h1 h2
  refine ⟨.inr (sub_mine.2 ?_), cur, r2, r3, Holds.ext0 r4 ⟨fun _ _ h => h, fun _ h => h, fun _ _ _ h => h⟩⟩
  have h2' : (pull σ ρ) b = some (g, tot) := h2
  simp only [pull] at h2'
  split at h2'
  · rename_i c hc; exact ⟨b, c, tot, hc, h2'⟩
  · cases h2'
def join (τ : Nat → Option Nat) (M : Mem) (ρ ρ2 : Rho) : Rho :=
  { blk := fun b => if b < M.top then ρ b else match τ b with | some c => ρ2 c | none => none, nil := fun b => if b < M.top then ρ.nil b else match τ b with | some c => ρ2.nil c | none => false, still := ρ2.still, base := ρ.base, mine := ρ.mine }
structure Join (T : Nat) (σ τ : Nat → Option Nat) (M M2 M' : Mem) : Prop where
  top : M.top ≤ M'.top
  dom : ∀ b c, τ b = some c → b < M'.top
  old : ∀ b c, b < M.top → τ b = some c → c < T ∧ σ c = some b
  inj : ∀ b b' c, τ b = some c → τ b' = some c → b = b'
  blk : ∀ b B', M'.get b = some B' → (b < M.top ∧ (∀ c, σ c ≠ some b) ∧ M.get b = some B') ∨ ∃ c B, τ b = some c ∧ M2.get c = some B ∧ RenB τ B B'
theorem WR.leave {w0 : World} {ρ : Rho} {M Mc : Mem} {w : World} {σ τ : Nat → Option Nat} {T : Nat} (h : WR w0 ρ M w) (hM : RenM σ M Mc) (hl : Live σ Mc) {ρ2 : Rho} {M2 M' : Mem} {w2 : World} (hc : WR w ρ2 M2 w2) (hE : Ext (cutR T (sub σ ρ)) ρ2) (hJ : Join T σ τ M M2 M') :
    Ext ρ (join τ M ρ ρ2) ∧ WR w0 (join τ M ρ ρ2) M' w2 ∧ Ext0 (pull τ ρ2) (join τ M ρ ρ2) := by
  have liveM : ∀ b c, σ b = some c → ∃ B, M.get c = some B := fun b c hb => by
    obtain ⟨B2, h1⟩ := hl b c hb
    obtain ⟨_, c', B, h2, h3, _⟩ := hM.get h1
    rw [hb] at h2
    simp at h2
    subst h2
    exact ⟨B, h3⟩
  have m2 : ρ2.mine = (sub σ ρ).mine := hE.mine
  have b2 : ρ2.base = ρ.still := hE.base
  have up : ∀ {b c x}, c < T → σ c = some b → ρ b = some x → ρ2 c = some x := fun {b c x} hT hs hx => hE.blk c x (by
    simp only [cutR, if_pos hT]
    show (pull σ ρ) c = _
    rw [pull_blk hs]; exact hx)
  have upn : ∀ {b c}, c < T → σ c = some b → ρ.nil b = true → ρ2.nil c = true := fun {b c} hT hs hx => hE.nil c (by
    simp only [cutR, if_pos hT]
    show (pull σ ρ).nil c = _
    rw [pull_nil hs]; exact hx)
  have down : ∀ {b c x}, b < M.top → τ b = some c → ρ2 c = some x → ρ b = some x := fun {b c x} hb hτ hx => by
    obtain ⟨hT, hs⟩ := hJ.old b c hb hτ
    obtain ⟨B, hB⟩ := liveM c b hs
    rcases h.has b B hB with ⟨g, t, e⟩ | ⟨e, _⟩
    · have := up hT hs e
      rw [hx] at this
      rw [e]; exact this.symm
    · have := (hc.nild c (upn hT hs e)).2
      rw [hx] at this; cases this
  have downn : ∀ {b c}, b < M.top → τ b = some c → ρ2.nil c = true → ρ.nil b = true := fun {b c} hb hτ hx => by
    obtain ⟨hT, hs⟩ := hJ.old b c hb hτ
    obtain ⟨B, hB⟩ := liveM c b hs
    rcases h.has b B hB with ⟨g, t, e⟩ | ⟨e, _⟩
    · have h1 := up hT hs e
      rw [(hc.nild c hx).2] at h1; cases h1
    · exact e
  have jn : ∀ {b c}, τ b = some c → ∀ x, ρ2 c = some x → (join τ M ρ ρ2) b = some x := fun {b c} hτ x hx => by
    simp only [join]
    split
    · rename_i hb; exact down hb hτ hx
    · rw [hτ]; exact hx
  have jnn : ∀ {b c}, τ b = some c → ρ2.nil c = true → (join τ M ρ ρ2).nil b = true := fun {b c} hτ hx => by
    simp only [join]
    split
    · rename_i hb; exact downn hb hτ hx
    · rw [hτ]; exact hx
  have hE0 : Ext0 (pull τ ρ2) (join τ M ρ ρ2) := ⟨fun b x hb => (by
    simp only [pull] at hb
    split at hb
    · rename_i c hτ; exact jn hτ x hb
    · cases hb), fun b hb => (by
    simp only [pull] at hb
    split at hb
    · rename_i c hτ; exact jnn hτ hb
    · cases hb), fun _ _ _ hv => hv⟩
  have hEx : Ext ρ (join τ M ρ ρ2) := ⟨fun b x hb => (by simp only [join, if_pos (h.dom b x hb)]; exact hb), fun b hb => (by simp only [join, if_pos (h.nild b hb).1]; exact hb), fun g o v hv => hE.still g o v hv, rfl, rfl⟩
  have mineW : ∀ {g}, (sub σ ρ).mine g = true → g < w.heap.size ∧ (w0.heap.size ≤ g ∨ ρ.mine g = true) := fun {g} hg => by
    obtain ⟨b, c, t, h1, h2⟩ := sub_mine.1 hg
    obtain ⟨B, hB⟩ := liveM b c h1
    exact ⟨h.lt_of hB h2, (h.holds hB h2).1⟩
  have same : ∀ {g}, g < w.heap.size → (sub σ ρ).mine g = false → w2.heap[g]? = w.heap[g]? := fun {g} h1 h2 => hc.keep.block g h1 (by rw [m2]; exact h2)
  have aside : ∀ {b B g t}, M.get b = some B → (∀ c, σ c ≠ some b) → ρ b = some (g, t) → (sub σ ρ).mine g = false := fun {b B g t} h1 h2 h3 => sub_notmine fun ⟨b', c, t', q1, q2⟩ => by
    obtain ⟨B', hB'⟩ := liveM b' c q1
    have := h.inj b c B B' g t t' h1 hB' h3 q2
    subst this
    exact h2 b' q1
  refine ⟨hEx, ⟨⟨hc.keep.os.trans h.keep.os, hc.keep.tape.trans h.keep.tape, hc.keep.output.trans h.keep.output, Nat.le_trans h.keep.size hc.keep.size, fun k hk hmk => ?_⟩, fun b x hb => ?_, fun b hb => ?_, fun b B' g tot h1 h2 => ?_, fun b B' h1 => ?_, fun b b' B B' g t t' h1 h2 h3 h4 => ?_, fun g o v hv => hc.still g o v hv, fun g o v hg hmg hv => ?_, fun b B' g t h1 h2 o => ?_⟩, hE0⟩
  · have hmk : ρ.mine k = false := hmk
    have hn : (sub σ ρ).mine k = false := by
      cases e : (sub σ ρ).mine k with
      | false => rfl
      | true =>
        rcases (mineW e).2 with q | q
        · omega
        · rw [hmk] at q; cases q
    rw [same (Nat.lt_of_lt_of_le hk h.keep.size) hn]
    exact h.keep.block k hk hmk
  · simp only [join] at hb
    split at hb
    · have := hJ.top; omega
    · split at hb
      · rename_i c hτ; exact hJ.dom b c hτ
      · cases hb
  · simp only [join] at hb
    split at hb
    · rename_i hlt
      have := hJ.top
      exact ⟨by omega, by simp only [join, if_pos hlt]; exact (h.nild b hb).2⟩
    · rename_i hlt
      split at hb
      · rename_i c hτ
        exact ⟨hJ.dom b c hτ, by simp only [join, if_neg hlt, hτ]; exact (hc.nild c hb).2⟩
      · cases hb
  · rcases hJ.blk b B' h1 with ⟨q1, q2, q3⟩ | ⟨c, B, q1, q2, q3⟩
    · have h2' : ρ b = some (g, tot) := by simpa only [join, if_pos q1] using h2
      obtain ⟨r1, cur, r2, r3, r4⟩ := h.holds q3 h2'
      exact ⟨r1, cur, by rw [same (h.lt_of q3 h2') (aside q3 q2 h2')]; exact r2, r3, r4.ext hEx⟩
    · have h2' : ρ2 c = some (g, tot) := by
        simp only [join] at h2
        split at h2
        · rename_i hlt
          obtain ⟨hT, hs⟩ := hJ.old b c hlt q1
          exact up hT hs h2
        · rw [q1] at h2; exact h2
      obtain ⟨r1, cur, r2, r3, r4⟩ := hc.holds q2 h2'
      refine ⟨?_, cur, by rw [q3.1]; exact r2, r3, Holds.ext0 (Holds.ren q3 r4) hE0⟩
      rcases r1 with r1 | r1
      · exact .inl (Nat.le_trans h.keep.size r1)
      · rw [m2] at r1
        exact (mineW r1).2
  · rcases hJ.blk b B' h1 with ⟨q1, q2, q3⟩ | ⟨c, B, q1, q2, q3⟩
    · rcases h.has b B' q3 with ⟨g, t, e⟩ | ⟨e, e2⟩
      · exact .inl ⟨g, t, hEx.blk _ _ e⟩
      · exact .inr ⟨hEx.nil _ e, e2⟩
    · rcases hc.has c B q2 with ⟨g, t, e⟩ | ⟨e, e2, R, e3, e4⟩
      · exact .inl ⟨g, t, jn q1 _ e⟩
      · refine .inr ⟨jnn q1 e, ?_, ?_⟩
        · have := q3.2.1
          rw [e2] at this
          cases hcs : B'.cells with
          | nil => rfl
          | cons x xs => rw [hcs] at this; simp [RenVs] at this
        · have := q3.2.2
          rw [e3] at this
          cases hcs : B'.rows with
          | none => rw [hcs] at this; simp [RenR] at this
          | some R2 => rw [hcs] at this; simp only [RenR] at this; exact ⟨R2, rfl, by omega⟩
  · have red : ∀ {b B g t}, M'.get b = some B → (join τ M ρ ρ2) b = some (g, t) → (b < M.top ∧ (∀ c, σ c ≠ some b) ∧ M.get b = some B ∧ ρ b = some (g, t)) ∨ ∃ c B0, τ b = some c ∧ M2.get c = some B0 ∧ ρ2 c = some (g, t) := fun {b B g t} h1 h2 => by
      rcases hJ.blk b B h1 with ⟨q1, q2, q3⟩ | ⟨c, B0, q1, q2, q3⟩
      · exact .inl ⟨q1, q2, q3, by simpa only [join, if_pos q1] using h2⟩
      · refine .inr ⟨c, B0, q1, q2, ?_⟩
        simp only [join] at h2
        split at h2
        · rename_i hlt
          obtain ⟨hT, hs⟩ := hJ.old b c hlt q1
          exact up hT hs h2
        · rw [q1] at h2; exact h2
    have no : ∀ {b B g t c B0 t'}, M.get b = some B → (∀ c, σ c ≠ some b) → ρ b = some (g, t) → M2.get c = some B0 → ρ2 c = some (g, t') → False := fun {b B g t c B0 t'} p1 p2 p3 p4 p5 => by
      rcases (hc.holds p4 p5).1 with r | r
      · have := h.lt_of p1 p3; omega
      · rw [m2, aside p1 p2 p3] at r; cases r
    rcases red h1 h3 with ⟨p1, p2, p3, p4⟩ | ⟨c, B0, p1, p2, p3⟩ <;> rcases red h2 h4 with ⟨s1, s2, s3, s4⟩ | ⟨c', B0', s1, s2, s3⟩
    · exact h.inj b b' B B' g t t' p3 s3 p4 s4
    · exact (no p3 p2 p4 s2 s3).elim
    · exact (no s3 s2 s4 p2 p3).elim
    · have := hc.inj c c' B0 B0' g t t' p2 s2 p3 s3
      subst this
      exact hJ.inj b b' c p1 s1
  · have hmg : ρ.mine g = false := hmg
    have hn : (sub σ ρ).mine g = false := by
      cases e : (sub σ ρ).mine g with
      | false => rfl
      | true =>
        rcases (mineW e).2 with q | q
        · omega
        · rw [hmg] at q; cases q
    have h1 := hc.first g o v (Nat.lt_of_lt_of_le hg h.keep.size) (by rw [m2]; exact hn) hv
    rw [b2] at h1
    exact h.first g o v hg hmg h1
  · rcases hJ.blk b B' h1 with ⟨q1, q2, q3⟩ | ⟨c, B, q1, q2, q3⟩
    · have h2' : ρ b = some (g, t) := by simpa only [join, if_pos q1] using h2
      cases e : ρ2.still g o with
      | none => exact e
      | some v =>
        have h1 := hc.first g o v (h.lt_of q3 h2') (by rw [m2]; exact aside q3 q2 h2') e
        rw [b2, h.apart b B' g t q3 h2' o] at h1
        cases h1
    · have h2' : ρ2 c = some (g, t) := by
        simp only [join] at h2
        split at h2
        · rename_i hlt
          obtain ⟨hT, hs⟩ := hJ.old b c hlt q1
          exact up hT hs h2
        · rw [q1] at h2; exact h2
      exact hc.apart c B g t q2 h2' o
theorem LoopToT.frame {T : Nat} {P : Program} {b : Code} {n : Nat} {F Fc : Fr} {M Mc : Mem} {G G' : Ex → Fr → Mem → Prop} {σ : Nat → Option Nat} (h : LoopToT T P b n Fc Mc G) (hF : RenF σ F Fc) (hM : RenM σ M Mc) (hl : Live σ Mc)
    (hG : ∀ ex F2 M2, G ex F2 M2 → ∃ τ F' M', G' ex F' M' ∧ RenF τ F2 F' ∧ Join T σ τ M M2 M') : LoopTo P b n F M G' := fun w0 ρ a w Q hFR hW hQ =>
  h w (sub σ ρ) a w Q ((hF.fr hFR).pull_sub) (hW.enter hM) fun ex F2 M2 ρ2 a2 w2 hg hE hF2 hW2 => by
    obtain ⟨τ, F', M', q1, q2, q3⟩ := hG ex F2 M2 hg
    obtain ⟨r1, r2, r3⟩ := hW.leave hM hl hW2 hE q3
    have hF3 := q2.fr hF2
    exact hQ ex F' M' _ a2 w2 q1 r1 ⟨hF3.len, fun t v hv => rel.ext0 r3 (hF3.val t v hv), hF3.defers⟩ r2
theorem CallTo.frameG {P : Program} {f : FuncId} {args argc : List AV} {M Mc : Mem} {G G' : AV → Mem → Prop} {σ : Nat → Option Nat} (h : CallTo P f argc Mc G) (hA : RenVs σ args argc) (hM : RenM σ M Mc) (hl : Live σ Mc)
    (hG : ∀ v M2, G v M2 → ∃ τ v' M', G' v' M' ∧ RenV τ v v' ∧ Join Mc.top σ τ M M2 M') : CallTo P f args M G' := fun w0 ρ us w hr hW => by
  refine (h w (sub σ ρ) us w ((hA.rels hr).pull_sub) (hW.enter hM)).mono ?_
  rintro e w2 ⟨ρ2, u, v, M2, rfl, hE, hv, hW2, hg⟩
  obtain ⟨τ, v', M', q1, q2, q3⟩ := hG v M2 hg
  obtain ⟨r1, r2, r3⟩ := hW.leave hM hl hW2 (hE.cutR _) q3
  exact ⟨_, u, v', M', rfl, r1, rel.ext0 r3 (q2.rel hv), r2, q1⟩
def RG (T : Nat) (G : Ex → Fr → Mem → Prop) (ex : Ex) (F : Fr) (M : Mem) : Prop := ∃ F2 M2 l, l.take T = List.range T ∧ RenF (nm l) F F2 ∧ RenM (nm l) M M2 ∧ G ex F2 M2
theorem LoopToT.out {T : Nat} {P : Program} {b : Code} {n : Nat} {F : Fr} {M : Mem} {G : Ex → Fr → Mem → Prop} (h : LoopToT T P b n F M (RG T G)) : LoopToT T P b n F M G := fun w0 ρ a w Q hF hW hQ => h w0 ρ a w Q hF hW fun ex F' M' ρ' a' w' ⟨F2, M2, l, h0, r1, r2, hg⟩ q1 q2 q3 => by
  have id := nm_id h0
  refine hQ ex F2 M2 (pull (nm l) ρ') a' w' hg ⟨fun b g hb => ?_, fun b hb => ?_, q1.still, q1.base, q1.mine⟩ (r1.fr q2) (q3.ren r2)
  · have hlt : b < T := by
      simp only [Sy.cutR] at hb
      split at hb
      · assumption
      · cases hb
    rw [pull_blk (id b hlt)]
    exact q1.blk b g hb
  · have hlt : b < T := by
      simp only [Sy.cutR] at hb
      split at hb
      · assumption
      · cases hb
    rw [pull_nil (id b hlt)]
    exact q1.nil b hb
theorem LoopTo.stampB {P : Program} {b : Code} {n : Nat} {F : Fr} {T s : Nat} {bs : List (Option Blk)} {G : Ex → Fr → Mem → Prop} (s' : Nat) (h : LoopTo P b n F ⟨T, s', bs⟩ G) : LoopTo P b n F ⟨T, s, bs⟩ G := fun w0 ρ a w Q hF hW hQ => h w0 ρ a w Q hF (hW.restamp s') hQ
theorem WR.swap {w0 : World} {ρ : Rho} {M M' : Mem} {w : World} (h : WR w0 ρ M w) (ht : M.top ≤ M'.top) (hs : ∀ b B', M'.get b = some B' → ∃ B, M.get b = some B ∧ B'.elem = B.elem ∧ (∀ cur, Holds ρ B cur → Holds ρ B' cur) ∧ (B' = B ∨ B.cells ≠ [])) : WR w0 ρ M' w := by
  refine ⟨h.keep, fun b g hb => Nat.lt_of_lt_of_le (h.dom b g hb) ht, fun b hb => ⟨Nat.lt_of_lt_of_le (h.nild b hb).1 ht, (h.nild b hb).2⟩, fun b B' g tot h1 h2 => ?_, fun b B' h1 => ?_, fun b b' B B' g t t' h1 h2 h3 h4 => ?_, h.still, h.first, fun b B' g t h1 h2 => ?_⟩
  · obtain ⟨B, q1, q2, q3, _⟩ := hs b B' h1
    obtain ⟨r1, cur, r2, r3, r4⟩ := h.holds q1 h2
    exact ⟨r1, cur, by rw [q2]; exact r2, r3, q3 cur r4⟩
  · obtain ⟨B, q1, q2, q3, q4⟩ := hs b B' h1
    rcases h.has b B q1 with e | ⟨e1, e2, e3⟩
    · exact .inl e
    · rcases q4 with rfl | q4
      · exact .inr ⟨e1, e2, e3⟩
      · exact absurd e2 q4
  · obtain ⟨B1, q1, _⟩ := hs b B h1
    obtain ⟨B2, q2, _⟩ := hs b' B' h2
    exact h.inj b b' B1 B2 g t t' q1 q2 h3 h4
  · obtain ⟨B, q1, _⟩ := hs b B' h1
    exact h.apart b B g t q1 h2
end Go.Proofs.Ytglkdhmikpejnaa.Sy
namespace Go.Proofs.Ytglkdhmikpejnaa
namespace Pl
def begB (c : Int) : Bool := decide (97 ≤ c) && decide (c ≤ 122) || decide (65 ≤ c) && decide (c ≤ 90) || decide (c = 95) || decide (128 ≤ c)
def goesB (c : Int) : Bool := begB c || decide (48 ≤ c) && decide (c ≤ 57) || decide (c = 45)
def wordB (c : Int) : Bool := decide (32 ≤ c) && !decide (c = 34)
def runL : List UInt8 → Nat
  | [] => 0
  | c :: l => if goesB c.toNat then runL l + 1 else 0
theorem runL_le : ∀ l, runL l ≤ l.length
  | [] => Nat.le_refl _
  | c :: l => by have := runL_le l; simp only [runL, List.length_cons]; split <;> omega
theorem runL_all : ∀ l, (runL l = l.length) ↔ l.all (fun c => goesB c.toNat) = true
  | [] => by simp [runL]
  | c :: l => by
    have := runL_all l
    have hle := runL_le l
    simp only [runL, List.all_cons, List.length_cons]
    by_cases h : goesB c.toNat = true
    · rw [if_pos h, h, Bool.true_and, ← this]; omega
    · rw [if_neg h]; simp [h]
def startsL (l : List UInt8) : Bool :=
  match l with
  | [] => false
  | [c] => !decide ((c.toNat : Int) = 45) && begB c.toNat
  | c :: d :: _ => if (c.toNat : Int) = 45 then begB d.toNat || decide ((d.toNat : Int) = 45) else begB c.toNat
def nameL (l : List UInt8) : Bool := startsL l && l.all (fun c => goesB c.toNat) && decide (l.length ≤ 32)
def textL (l : List UInt8) : Bool := l.all (fun c => wordB c.toNat) && decide (l.length ≤ 256)
theorem all_step {α : Type} (f : α → Bool) (l : List α) (k : Nat) (hk : k < l.length) (h : (l.take k).all f = true) :
    (f l[k] = true → (l.take (k + 1)).all f = true) ∧ (f l[k] = false → l.all f = false) := by
  have e : l.take (k + 1) = l.take k ++ [l[k]] := List.take_succ_eq_append_getElem hk
  constructor
  · intro hf; rw [e, List.all_append, h]; simp [hf]
  · intro hf
    have : l.all f = (l.take (k + 1) ++ l.drop (k + 1)).all f := by rw [List.take_append_drop]
    rw [this, List.all_append, e, List.all_append]; simp [hf]
theorem drop_step {α : Type} (l : List α) (k : Nat) (hk : k < l.length) : l.drop k = l[k] :: l.drop (k + 1) := List.drop_eq_getElem_cons hk
end Pl
end Go.Proofs.Ytglkdhmikpejnaa
namespace Go.Proofs.Ytglkdhmikpejnaa
namespace Pl
def idxF {α : Type} (g : α → Bool) : List α → Nat → Int
  | [], _ => -1
  | x :: xs, n => if g x then n else idxF g xs (n + 1)
theorem idxF_any {α : Type} (g : α → Bool) : ∀ (xs : List α) (n : Nat), decide (0 ≤ idxF g xs n) = xs.any g
  | [], n => by simp [idxF]
  | x :: xs, n => by
    have e : idxF g (x :: xs) n = if g x then (n : Int) else idxF g xs (n + 1) := rfl
    have ih := idxF_any g xs (n + 1)
    by_cases h : g x = true
    · rw [if_pos h] at e; simp only [e, List.any_cons, h]; simp
    · rw [if_neg h] at e; simp only [e, ih, List.any_cons]; simp [h]
end Pl
end Go.Proofs.Ytglkdhmikpejnaa
namespace Go.Proofs.Ytglkdhmikpejnaa
open Go Go.RowKit Pl Sy
theorem getD_at {α : Type} (pre l : List α) (x z : α) (i : Int) (hi : i = pre.length) : (pre ++ x :: l).getD i.toNat z = x := by
  subst hi
  simp
theorem Sy.scan {α : Type} {P : Program} {body : Code} (xs : List α) (g : α → Bool) (d : α) (F E : Int → Fr) (M : Mem)
    (step : ∀ (k : Int) (n : Nat) (G : Ex → Fr → Mem → Prop), 0 ≤ k → k ≤ xs.length → (k < xs.length → g (xs.getD k.toNat d) = false → LoopTo P body n (F (k + 1)) M G) → (k < xs.length → g (xs.getD k.toNat d) = true → G .ret (E k) M) → (k = xs.length → G (.exit 0) (F k) M) → LoopTo P body (n + 1) (F k) M G) :
    LoopTo P body (xs.length + 1) (F 0) M fun ex F' M' => M' = M ∧ ((0 ≤ idxF g xs 0 ∧ ex = .ret ∧ F' = E (idxF g xs 0)) ∨ (idxF g xs 0 = -1 ∧ ex = .exit 0 ∧ F' = F xs.length)) := by
  have key : ∀ (l pre : List α) (k : Int), xs = pre ++ l → k = pre.length → LoopTo P body (l.length + 1) (F k) M fun ex F' M' => M' = M ∧ ((0 ≤ idxF g l pre.length ∧ ex = .ret ∧ F' = E (idxF g l pre.length)) ∨ (idxF g l pre.length = -1 ∧ ex = .exit 0 ∧ F' = F xs.length)) := by
    intro l
    induction l with
    | nil =>
      intro pre k h hk
      have hl : xs.length = pre.length := by rw [h]; simp
      refine step k _ _ (by omega) (by omega) (fun h1 _ => by omega) (fun h1 _ => by omega) (fun h1 => ⟨rfl, .inr ⟨rfl, rfl, by rw [h1]⟩⟩)
    | cons x l ih =>
      intro pre k h hk
      have hl : xs.length = pre.length + l.length + 1 := by rw [h]; simp; omega
      have hg : xs.getD k.toNat d = x := by rw [h]; exact getD_at _ _ _ _ _ hk
      refine step k _ _ (by omega) (by omega) (fun h1 h2 => ?_) (fun h1 h2 => ⟨rfl, .inl ?_⟩) (fun h1 => by omega)
      · rw [hg] at h2
        have e : idxF g (x :: l) pre.length = idxF g l (pre ++ [x]).length := by
          show (if g x then _ else _) = _
          rw [if_neg (by rw [h2]; simp)]
          simp
        rw [e]
        exact ih (pre ++ [x]) (k + 1) (by rw [h]; simp) (by simp; omega)
      · rw [hg] at h2
        have e : idxF g (x :: l) pre.length = (pre.length : Int) := by
          show (if g x then _ else _) = _
          rw [if_pos h2]
        rw [e, hk]
        exact ⟨by omega, rfl, rfl⟩
  exact key xs [] 0 rfl rfl
theorem getD_mem {α : Type} (xs : List α) (k : Int) (d : α) (h0 : 0 ≤ k) (h1 : k < xs.length) : xs.getD k.toNat d ∈ xs := by
  rw [List.getD_eq_getElem?_getD, List.getElem?_eq_getElem (by omega)]
  exact List.getElem_mem _
end Go.Proofs.Ytglkdhmikpejnaa
