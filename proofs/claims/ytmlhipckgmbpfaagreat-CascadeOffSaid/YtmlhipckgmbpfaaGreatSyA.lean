/-
  The symbolic interpreter, part 7d: a region that draws its order does what the order of the text does.
-/
import Derived.Test.YtmlhipckgmbpfaaGreatSy9
namespace Go.Proofs.YtmlhipckgmbpfaaGreat.Sy
open Go Go.RowKit
set_option linter.unusedVariables false

def effIdx (ops : Array Oper) : List Nat := (ops.toList.zipIdx.filter fun oi => isEff oi.1).map (·.2)
def adm (ms E : List Nat) (i p : Nat) : Bool := E.all fun e => (!(ms.getD i 0).testBit e || decide (e < p)) && (!(ms.getD e 0).testBit i || decide (p ≤ e))
/-- is what is loaded untouched between two stages -/
noncomputable def calm (F : Fr) (o : Oper) (M M' : Mem) : Bool := match o.op with
  | .load _ x => match evX F x with
    | some (.vptr _ _) => true
    | some (.ptr b _) => Nat.beq M.stamp M'.stamp && (Nat.blt b M.top && Nat.blt b M'.top)
    | some (.rptr b _ _ _) => Nat.beq M.stamp M'.stamp && (Nat.blt b M.top && Nat.blt b M'.top)
    | _ => false
  | _ => false
def isRptr : Option AV → Bool
  | some (.rptr ..) => true
  | _ => false
def blkA : AV → Option Nat
  | .sl b _ _ _ _ => some b
  | .own b _ _ => some b
  | _ => none
/-- a block that a step leaves alone -/
noncomputable def stays (ops : Array Oper) (es : List (AV × Mem)) (F : Fr) (M : Mem) (b k : Nat) : Bool :=
  (Nat.beq (memAt es M k).stamp (memAt es M (k + 1)).stamp && Nat.blt b (memAt es M k).top) || (match ops[k]? with
    | some o => match o.op with
      | .store _ x _ => match evX (frAt ops.toList es F k) x with
        | some (.ptr b' _) => !(Nat.beq b' b)
        | some (.rptr b' _ _ _) => !(Nat.beq b' b)
        | _ => false
      | .call c => match c.callee with
        | .builtin .append => match c.args.toList with
          | [x, _] => match evX (frAt ops.toList es F k) x with
            | some v => match blkA v with
              | some b' => !(Nat.beq b' b) && Nat.blt b (memAt es M k).top
              | none => false
            | none => false
          | _ => false
        | _ => false
      | _ => false
    | none => false)
noncomputable def staysTo (ops : Array Oper) (es : List (AV × Mem)) (F : Fr) (M : Mem) (b lo : Nat) : Nat → Bool
  | 0 => true
  | n + 1 => stays ops es F M b (lo + n) && staysTo ops es F M b lo n
noncomputable def calmB (ops : Array Oper) (es : List (AV × Mem)) (F : Fr) (M : Mem) (o : Oper) (i p : Nat) : Bool := match o.op with
  | .load _ x => match evX (frAt ops.toList es F i) x with
    | some (.ptr b _) => staysTo ops es F M b p (i - p) && staysTo ops es F M b i (p - i)
    | some (.rptr b _ _ _) => staysTo ops es F M b p (i - p) && staysTo ops es F M b i (p - i)
    | _ => false
  | _ => false
noncomputable def loadOk (P : Program) (ops : Array Oper) (es : List (AV × Mem)) (F : Fr) (M : Mem) (o : Oper) (i p : Nat) : Bool := match es[i]? with
  | some (.tup _, _) => true
  | some (v', _) => match calm (frAt ops.toList es F i) o (memAt es M p) (memAt es M i) with
    | true => true
    | false => match calmB ops es F M o i p with
      | true => true
      | false => match evRead P (frAt ops.toList es F i) (memAt es M p) o with
        | some v => match obRead (frAt ops.toList es F i) (memAt es M p) o with
          | none => aeq v v'
          | some _ => false
        | none => false
  | none => false
/-- what comes up ahead of its turn is a place -/
noncomputable def flOk (P : Program) (ops : Array Oper) (es : List (AV × Mem)) : Bool :=
  ops.toList.zipIdx.all fun oi => !fl P ops oi.2 || (match es[oi.2]? with | some (.lit _, _) => false | _ => true)
noncomputable def loadsOk (P : Program) (ops : Array Oper) (es : List (AV × Mem)) (F : Fr) (M : Mem) : Bool :=
  flOk P ops es && ops.toList.zipIdx.all fun oi => !isLoad oi.1 || (0 :: (effIdx ops).map (· + 1)).all fun p => !adm (masks ops.toList []) (effIdx ops) oi.2 p || loadOk P ops es F M oi.1 oi.2 p

/-- the frame and memory behind, and what is owed -/
noncomputable def evDraw (P : Program) (call : CallT) (ops : Array Oper) (F : Fr) (M : Mem) : Option (Fr × Mem × List Bool) :=
  if stat P ops then match evSeq P call ops ops.toList F M with
    | some es => if loadsOk P ops es F M then some (frAt ops.toList es F ops.size, memAt es M ops.size, obSeq P call ops ops.toList es F M) else none
    | none => none
  else none

theorem calm_spec {P : Program} {F F' : Fr} {o : Oper} {M M' : Mem} (hF : ∀ x ∈ o.op.operands, evX F' x = evX F x) (h : calm F o M M' = true) (hG : Grow M M' ∨ Grow M' M) : evRead P F' M o = evRead P F' M' o ∧ obRead F' M o = obRead F' M' o := by
  have same : ∀ b, (Nat.beq M.stamp M'.stamp && (Nat.blt b M.top && Nat.blt b M'.top)) = true → M.get b = M'.get b := fun b hb => by
    simp only [Bool.and_eq_true, Nat.blt_eq] at hb
    have he := Nat.eq_of_beq_eq_true hb.1
    rcases hG with hG | hG
    · exact (hG.same he.symm b hb.2.1).symm
    · exact hG.same he b hb.2.2
  unfold calm at h
  split at h
  · rename_i t x ho
    have hx := hF x (by simp [ho, Op.operands])
    have key : (obind (evX F' x) fun v => evLoad P M t v) = (obind (evX F' x) fun v => evLoad P M' t v) ∧ (obind (evX F' x) fun v => obLoad M v) = (obind (evX F' x) fun v => obLoad M' v) := by
      rw [hx]
      split at h
      · rename_i m c hv; rw [hv]; exact ⟨rfl, rfl⟩
      · rename_i b k hv; rw [hv]; simp only [obind, evLoad, obLoad, same b h, and_self]
      · rename_i b i s k hv; rw [hv]; simp only [obind, evLoad, obLoad, same b h, and_self]
      · cases h
    constructor
    · rw [evRead_def, evRead_def]
      unfold evRead' fLoad
      rw [ho]
      simp only
      rw [key.1]
    · unfold obRead
      rw [ho]
      exact key.2
  · cases h

theorem mem_effIdx {ops : Array Oper} {e : Nat} {o : Oper} (h : ops[e]? = some o) (he : isEff o = true) : e ∈ effIdx ops := by
  unfold effIdx
  exact List.mem_map.2 ⟨(o, e), List.mem_filter.2 ⟨mem_zipIdx h, he⟩, rfl⟩

/-- an operation that is no load does not look at memory, if it leaves it as it is -/
theorem obRead_mem {F : Fr} {M M' : Mem} {o : Oper} (h : isLoad o = false) : obRead F M o = obRead F M' o := by
  unfold obRead
  cases ho : o.op <;> first | rfl | (exfalso; simp [isLoad, ho] at h; done)
theorem evRead_mem {P : Program} {F : Fr} {M M' : Mem} {o : Oper} (h : isLoad o = false) : evRead P F M o = evRead P F M' o := by
  have key : evRead' P F M o = evRead' P F M' o := by
    unfold evRead'
    cases ho : o.op <;> first | rfl | (exfalso; simp [isLoad, ho] at h; done)
  rw [evRead_def, evRead_def, key]

/-- a frame, at some temporaries alone -/
def rst (F : Fr) (ts : List Tmp) : Fr := F.mapIdx fun t x => if ts.contains t then x else none
theorem rst_get (F : Fr) (ts : List Tmp) (t : Nat) (h : t ∈ ts) : (rst F ts)[t]? = F[t]? := by
  simp only [rst, List.getElem?_mapIdx]
  cases F[t]? with
  | none => rfl
  | some x => simp [h]
theorem rst_some {F : Fr} {ts : List Tmp} {t : Nat} {v : AV} (h : (rst F ts)[t]? = some (some v)) : t ∈ ts ∧ F[t]? = some (some v) := by
  simp only [rst, List.getElem?_mapIdx] at h
  cases hx : F[t]? with
  | none => simp [hx] at h
  | some x =>
    simp only [hx, Option.map_some, Option.some.injEq] at h
    split at h
    · rename_i hc
      exact ⟨by simpa using hc, by rw [h]⟩
    · cases h
theorem rst_ev {F : Fr} {o : Oper} {ops : Array Oper} : ∀ x ∈ o.op.operands, evX (rst F (o.looksAt ops)) x = evX F x := fun x hx => by
  cases x with
  | tmp t =>
    rw [evX_tmp, evX_tmp]
    have ht : t ∈ o.looksAt ops := List.mem_append_left _ (List.mem_filterMap.2 ⟨Operand.tmp t, by simpa using hx, rfl⟩)
    rw [rst_get F (o.looksAt ops) t ht]
  | _ => rfl

/-! ### What an operation leaves alone -/
/-- a block that no name stands for -/
structure Lone (w0 : World) (ρ : Rho) (M : Mem) (w : World) (g : Nat) : Prop where
  ge : w0.heap.size ≤ g
  lt : g < w.heap.size
  still : ∀ o, ρ.still g o = none
  dead : ∀ b B t, M.get b = some B → ρ b = some (g, t) → False
noncomputable def reb (ρ : Rho) (M : Mem) : Rho := { ρ with base := ρ.still, mine := fun k => @decide (∃ b B t, M.get b = some B ∧ ρ b = some (k, t)) (Classical.propDecidable _) }
theorem reb_ext0 (ρ : Rho) (M : Mem) : Ext0 ρ (reb ρ M) := ⟨fun _ _ h => h, fun _ h => h, fun _ _ _ h => h⟩
theorem reb_mine {ρ : Rho} {M : Mem} {k : Nat} : (reb ρ M).mine k = true ↔ ∃ b B t, M.get b = some B ∧ ρ b = some (k, t) := by simp [reb]
theorem reb_wr {w0 : World} {ρ : Rho} {M : Mem} {w : World} (h : WR w0 ρ M w) : WR w (reb ρ M) M w :=
  ⟨Keep.refl _ _, h.dom, h.nild, fun b B g tot h1 h2 => by
    obtain ⟨_, cur, q3, q4, q5⟩ := h.holds h1 h2
    exact ⟨.inr (reb_mine.2 ⟨b, B, tot, h1, h2⟩), cur, q3, q4, (by
      refine ⟨fun i v hv => ?_, fun R hR i j hi hj => ?_⟩
      · obtain ⟨u, r1, r2⟩ := q5.1 i v hv
        exact ⟨u, r1, r2.ext0 (reb_ext0 ρ M)⟩
      · obtain ⟨u, r1, r2, r3⟩ := q5.2 R hR i j hi hj
        exact ⟨u, r1, r2.ext0 (reb_ext0 ρ M), r3⟩)⟩, h.has, h.inj, h.still, fun g o v _ _ h => h, h.apart⟩
/-- the names of another start -/
def back (ρ ρ2 : Rho) : Rho := { ρ2 with base := ρ.base, mine := ρ.mine }
theorem back_wr {w0 : World} {ρ ρ2 : Rho} {M M' : Mem} {w w' : World} (h : WR w0 ρ M w) (hE : Ext (reb ρ M) ρ2) (h2 : WR w ρ2 M' w') : Ext ρ (back ρ ρ2) ∧ WR w0 (back ρ ρ2) M' w' ∧ Ext0 ρ2 (back ρ ρ2) ∧ ∀ g, Lone w0 ρ M w g → w'.heap[g]? = w.heap[g]? ∧ Lone w0 (back ρ ρ2) M' w' g := by
  have hM : ∀ k, ρ2.mine k = (reb ρ M).mine k := fun k => by rw [hE.mine]
  have e0 : Ext0 ρ2 (back ρ ρ2) := ⟨fun _ _ h => h, fun _ h => h, fun _ _ _ h => h⟩
  -- what lay there at the start, and is not ours
  have old : ∀ k, k < w0.heap.size → ρ.mine k = false → (reb ρ M).mine k = false := fun k hk hm => by
    cases hc : (reb ρ M).mine k with
    | false => rfl
    | true =>
      obtain ⟨b, B, t, q1, q2⟩ := reb_mine.1 hc
      obtain ⟨q3, _⟩ := h.blk b B k t q1 q2
      rcases q3 with q3 | q3
      · omega
      · rw [hm] at q3; cases q3
  refine ⟨⟨fun b g hb => hE.blk b g hb, fun b hb => hE.nil b hb, fun g o v hv => hE.still g o v hv, rfl, rfl⟩, ⟨?_, h2.dom, h2.nild, fun b B g tot h3 h4 => ?_, h2.has, h2.inj, h2.still, fun g o v hg hm hv => ?_, h2.apart⟩, e0, fun g hL => ?_⟩
  · refine ⟨h2.keep.os.trans h.keep.os, h2.keep.tape.trans h.keep.tape, h2.keep.output.trans h.keep.output, Nat.le_trans h.keep.size h2.keep.size, fun k hk hm => ?_⟩
    rw [h2.keep.block k (Nat.lt_of_lt_of_le hk h.keep.size) (by rw [hM]; exact old k hk hm)]
    exact h.keep.block k hk hm
  · obtain ⟨q1, cur, q3, q4, q5⟩ := h2.holds h3 h4
    refine ⟨?_, cur, q3, q4, (by
      refine ⟨fun i v hv => ?_, fun R hR i j hi hj => ?_⟩
      · obtain ⟨u, r1, r2⟩ := q5.1 i v hv
        exact ⟨u, r1, r2.ext0 e0⟩
      · obtain ⟨u, r1, r2, r3⟩ := q5.2 R hR i j hi hj
        exact ⟨u, r1, r2.ext0 e0, r3⟩)⟩
    rcases q1 with q1 | q1
    · have := h.keep.size; left; omega
    · rw [hM] at q1
      obtain ⟨b', B', t', r1, r2⟩ := reb_mine.1 q1
      exact (h.blk b' B' g t' r1 r2).1
  · have h3 := h2.first g o v (Nat.lt_of_lt_of_le hg h.keep.size) (by rw [hM]; exact old g hg hm) hv
    rw [hE.base] at h3
    exact h.first g o v hg hm h3
  · have hmf : ρ2.mine g = false := by
      rw [hM]
      cases hc : (reb ρ M).mine g with
      | false => rfl
      | true =>
        obtain ⟨b, B, t, q1, q2⟩ := reb_mine.1 hc
        exact (hL.dead b B t q1 q2).elim
    refine ⟨h2.keep.block g hL.lt hmf, hL.ge, Nat.lt_of_lt_of_le hL.lt h2.keep.size, fun o => ?_, fun b B t q1 q2 => ?_⟩
    · cases hs : ρ2.still g o with
      | none => exact hs
      | some v =>
        have h3 := h2.first g o v hL.lt hmf hs
        rw [hE.base] at h3
        have h4 := hL.still o
        have h5 : ρ.still g o = some v := h3
        rw [h4] at h5; cases h5
    · obtain ⟨q3, _⟩ := h2.blk b B g t q1 q2
      rcases q3 with q3 | q3
      · have := hL.lt; omega
      · rw [hmf] at q3; cases q3
theorem evOp1_framed {P : Program} (hP : Plainly P) {call : CallT} (hcall : CallOk P call) {w0 : World} {ρ : Rho} {M M' : Mem} {w : World} {F : Fr} {a : Act} (hF : FR ρ F a) (hW : WR w0 ρ M w) {o : Oper} {v : AV} (he : evOp1 P call F M o = some (v, M')) (hob : owed (obOp1 P call F M o))
    {K : Act → World → Prop} {Q : Exit → Act → World → Prop} (hK : ∀ ρ' u w', Ext ρ ρ' → rel ρ' v u → WR w0 ρ' M' w' → (∀ g, Lone w0 ρ M w g → w'.heap[g]? = w.heap[g]? ∧ Lone w0 ρ' M' w' g) → K (a.put o.dst u) w') : o.wp P a w K Q := by
  have hF' : FR (reb ρ M) F a := ⟨hF.len, fun t v hv => (hF.val t v hv).ext0 (reb_ext0 ρ M), hF.defers⟩
  refine evOp1_sound hP hcall hF' (reb_wr hW) he hob fun ρ2 u w' q1 q2 q3 => ?_
  obtain ⟨r1, r2, r3, r4⟩ := back_wr hW q1 q3
  exact hK _ u w' r1 (q2.ext0 r3) r2 r4

theorem run_alloc {P : Program} {ev : Operand → Value} {o : Oper} {t : TypeId} {z : Value} (ho : o.op = .alloc t) (hz : zeroA P t = some z) (w : World) : (execOp ev o).run P w = .ok (.value (.pointer (some ⟨w.heap.size, 0, none⟩))) (w.alloc (.cells z.cells t (0, 0))) := by
  unfold execOp
  simp only [ho]
  simp [Instr.alloc, run_zeroA hz, newVar, newRow]
theorem ev_alloc {P : Program} {call : CallT} {F : Fr} {M : Mem} {o : Oper} {t : TypeId} {z : Value} (ho : o.op = .alloc t) (hz : zeroA P t = some z) (w : World) : evOp1 P call F M o = some (.ptr M.top 0, M.push ⟨cellsA (.lit z), t, none⟩) := by
  have hno : ∀ x ∈ o.op.operands, evX F x = evX [] x := fun x hx => by simp [ho, Op.operands] at hx
  have hr : evRead P F M o = none := by
    cases hr : evRead P F M o with
    | none => rfl
    | some v =>
      exfalso
      rw [evRead_congr hno, evRead_mem (M' := ⟨0, 0, []⟩) (by simp [isLoad, ho])] at hr
      obtain ⟨u, _, h2⟩ := evRead_sound (F := []) (a := ⟨#[], []⟩) ⟨rfl, fun t v h => by simp at h, rfl⟩ (WR.start w) hr (by unfold obRead; rw [ho]; intro b e; cases e)
      have h3 := h2 w rfl
      rw [run_alloc ho hz w] at h3
      simp only [Result.ok.injEq] at h3
      have h4 := congrArg (fun w => w.heap.size) h3.2
      simp at h4
  unfold evOp1
  split
  · rename_i c hc; rw [ho] at hc; cases hc
  · rw [evOp_def, hr]
    simp only
    unfold evEff
    rw [ho]
    simp only [eAlloc, hz, obind]
/-- new memory: what it is, in whatever world -/
structure Made (es : List (AV × Mem)) (M0 : Mem) (ρ : Rho) (e : Nat) (g : Nat) (B : Blk) (cur : Array Value) (u : Value) : Prop where
  mem : memAt es M0 (e + 1) = (memAt es M0 e).push B
  holds : Holds ρ B cur
  val : ∀ v M', es[e]? = some (v, M') → ∀ ρ' : Rho, ρ' (memAt es M0 e).top = some (g, cur.size) → rel ρ' v u
theorem Made.ext {es : List (AV × Mem)} {M0 : Mem} {ρ ρ' : Rho} {e g : Nat} {B : Blk} {cur : Array Value} {u : Value} (h : Made es M0 ρ e g B cur u) (he : Ext ρ ρ') : Made es M0 ρ' e g B cur u := ⟨h.mem, h.holds.ext he, h.val⟩
theorem build_make {P : Program} {ρ : Rho} {M M' : Mem} {t : TypeId} {len : Nat} {ps : List (Nat × AV)} {ups : Array (Nat × Value)} {v : AV} (hl : ps.length = ups.toList.length)
    (hp : ∀ (i : Nat) (p : Nat × AV) (q : Nat × Value), ps[i]? = some p → ups.toList[i]? = some q → p.1 = q.1 ∧ rel ρ p.2 q.2) (he : evBuildSlice P M t len ps = some (v, M')) :
    ∃ cur B, (∀ w : World, (Instr.buildSlice t len ups).run P w = .ok (.slice (some ⟨w.heap.size, 0, none⟩) len len) (w.alloc (.cells cur B.elem (0, 0)))) ∧ M' = M.push B ∧ Holds ρ B cur ∧ ∀ (ρ' : Rho) (g : Nat), ρ' M.top = some (g, cur.size) → rel ρ' v (.slice (some ⟨g, 0, none⟩) len len) := by
  unfold evBuildSlice at he
  split at he
  · rename_i e s hse
    obtain ⟨hu, hs⟩ := sliceElem_spec hse
    split at he
    · rename_i z hz
      split at he
      · rename_i hsm
        split at he
        · rename_i cs hf
          split at he
          · rename_i hlen
            simp at he
            obtain ⟨rfl, rfl⟩ := he
            obtain ⟨uo, h1, h2⟩ := fillA_sound ps ups.toList _ ((Array.range (len * s)).map (fun i => z.cells[i % z.cells.size]!)) cs hl hp (rels.lits _) hf
            have h3 := h2.len
            refine ⟨uo, ⟨cs, e, none⟩, fun w => ?_, rfl, .plain fun i x hx => (by obtain ⟨y, h4, h5⟩ := h2.get i x hx; exact ⟨y, by simpa using h4, h5⟩), fun ρ' g hg => ?_⟩
            · have h16 : ¬ (len * s > 2 ^ 24) := by omega
              by_cases h0 : len * s = 0
              · have hb : ((Array.range (len * s)).map (fun i => z.cells[i % z.cells.size]!)) = #[] := by simp [h0]
                rw [hb] at h1
                have hr : (Array.map (fun (x : Nat) => (default : Value)) (Array.range 0)) = #[] := Array.eq_empty_of_size_eq_zero (by simp)
                simp [Instr.buildSlice, run_underlying hu, run_szT hs, h0, newRow]
                rw [hr, h1]
                simp
              · have h16' : ¬ (16777216 < len * s) := by omega
                simp [Instr.buildSlice, run_underlying hu, run_szT hs, h0, run_zeroA hz, h16', h1, newRow]
            · simp only [rel]
              refine ⟨_, _, len, hg, rfl, Nat.le_refl _, ?_, fun k hk => by simpa using hk, ?_⟩
              · have := hsm.2; unfold maxLen; omega
              · simp only [Array.length_toList] at h3; omega
          · cases he
        · cases he
      · cases he
    · cases he
  · cases he
theorem early_make {P : Program} {call : CallT} {ρ : Rho} {M M' : Mem} {F : Fr} {a : Act} (hF : FR ρ F a) {o : Oper} (hc : (∃ t z, o.op = .alloc t ∧ zeroA P t = some z) ∨ ∃ t n ps, o.op = .buildSlice t n ps) {v : AV} (he : evOp1 P call F M o = some (v, M')) (hnl : ∀ u, v ≠ .lit u) (w : World) :
    ∃ u cur B, (execOp a.eval o).run P w = .ok (.value u) (w.alloc (.cells cur B.elem (0, 0))) ∧ M' = M.push B ∧ Holds ρ B cur ∧ ∀ ρ' : Rho, ρ' M.top = some (w.heap.size, cur.size) → rel ρ' v u := by
  rcases hc with ⟨t, z, hop, hz⟩ | ⟨t, n, ps, hop⟩
  · rw [ev_alloc hop hz w] at he
    simp only [Option.some.injEq, Prod.mk.injEq] at he
    obtain ⟨rfl, rfl⟩ := he
    refine ⟨_, z.cells, ⟨cellsA (.lit z), t, none⟩, run_alloc hop hz w, rfl, .plain fun k x hx => ?_, fun ρ' hr => ?_⟩
    · obtain ⟨y, r1, r2⟩ := (show rel ρ (.lit z) z by simp [rel]).cells.get k x hx
      exact ⟨y, by simpa using r1, r2⟩
    · simp only [rel]
      exact ⟨_, _, hr, rfl⟩
  · unfold evOp1 at he
    split at he
    · rename_i c hc; rw [hop] at hc; cases hc
    · rw [evOp_def] at he
      split at he
      · rename_i v' hr
        exfalso
        simp at he
        obtain ⟨rfl, _⟩ := he
        rw [evRead_def] at hr
        have e1 : evRead' P F M o = none := by unfold evRead'; rw [hop]
        rw [e1] at hr
        simp only at hr
        unfold evPure at hr
        split at hr
        · split at hr
          · simp at hr; exact hnl _ hr.symm
          · cases hr
        · cases hr
      · unfold evEff at he
        rw [hop] at he
        simp only [eSlice] at he
        obtain ⟨l, hl, he⟩ := obind_some he
        obtain ⟨h1, h2⟩ := partsX_sound hF _ _ hl
        have e : (ps.map fun (p : Nat × Operand) => (p.1, a.eval p.2)).toList = ps.toList.map fun p => (p.1, a.eval p.2) := by simp
        obtain ⟨cur, B, k1, k2, k3, k4⟩ := build_make (ups := ps.map fun (p : Nat × Operand) => (p.1, a.eval p.2)) (ρ := ρ) (by rw [e]; exact h1) (by rw [e]; exact h2) he
        refine ⟨_, cur, B, ?_, k2, k3, fun ρ' hr => k4 ρ' _ hr⟩
        unfold execOp
        rw [hop]
        simp only [Sem.run_bind]
        rw [show (ps.map fun (x : Nat × Operand) => (x.1, a.eval x.2)) = ps.map fun (p : Nat × Operand) => (p.1, a.eval p.2) from rfl, k1 w]
        rfl
/-- a block without a name gets one -/
theorem WR.adopt {w0 : World} {ρ : Rho} {M : Mem} {w : World} (h : WR w0 ρ M w) (B : Blk) {us : Array Value} {g : Nat} (hg : w.heap[g]? = some (.cells us B.elem (0, 0))) (hL : Lone w0 ρ M w g) (hx : Holds ρ B us) : WR w0 (upd ρ M.top (g, us.size)) (M.push B) w := by
  have hE := h.fresh (g, us.size)
  have key : ∀ (b : Nat) (C : Blk) (g' t : Nat), (M.push B).get b = some C → upd ρ M.top (g, us.size) b = some (g', t) → (b = M.top ∧ C = B ∧ g' = g ∧ t = us.size) ∨ (b < M.top ∧ M.get b = some C ∧ ρ b = some (g', t)) := fun b C g' t hb hr => by
    rcases Mem.get_push hb with ⟨rfl, rfl⟩ | ⟨hlt, hb'⟩
    · rw [upd_same] at hr; simp at hr; exact .inl ⟨rfl, rfl, hr.1.symm, hr.2.symm⟩
    · rw [upd_other _ _ (by omega)] at hr
      exact .inr ⟨hlt, hb', hr⟩
  refine ⟨h.keep, fun b x hb => ?_, fun b hb => ?_, fun b C g' tot hb hg' => ?_, fun b C hb => ?_, fun b b' C C' g' t t' h1 h2 h3 h4 => ?_, fun g' o v hv => h.still g' o v hv, h.first, fun b C g' t hb hg' o => ?_⟩
  · simp only [Mem.push]
    by_cases e : b = M.top
    · omega
    · rw [upd_other _ _ e] at hb
      have := h.dom b x hb; omega
  · have h1 := h.nild b hb
    refine ⟨by simp only [Mem.push]; omega, ?_⟩
    rw [upd_other _ _ (by omega)]; exact h1.2
  · rcases key b C g' tot hb hg' with ⟨rfl, rfl, rfl, rfl⟩ | ⟨_, e1, e2⟩
    · exact ⟨.inl hL.ge, us, hg, rfl, hx.ext hE⟩
    · obtain ⟨h2, cur, h3, h4, h5⟩ := h.holds e1 e2
      exact ⟨h2, cur, h3, h4, h5.ext hE⟩
  · rcases Mem.get_push hb with ⟨rfl, rfl⟩ | ⟨hlt, hb'⟩
    · exact .inl ⟨_, _, upd_same _ _ _⟩
    · rcases h.has b C hb' with ⟨g', t, e⟩ | e
      · exact .inl ⟨g', t, hE.blk _ _ e⟩
      · exact .inr e
  · rcases key b C g' t h1 h3 with ⟨e1, _, e2, _⟩ | ⟨e1, e2, e3⟩ <;> rcases key b' C' g' t' h2 h4 with ⟨f1, _, f2, _⟩ | ⟨f1, f2, f3⟩
    · omega
    · subst e2; exact (hL.dead b' C' t' f2 f3).elim
    · subst f2; exact (hL.dead b C t e2 e3).elim
    · exact h.inj b b' C C' g' t t' e2 f2 e3 f3
  · rcases key b C g' t hb hg' with ⟨_, _, rfl, _⟩ | ⟨_, e1, e2⟩
    · exact hL.still o
    · exact h.apart b C g' t e1 e2 o
/-- a block more in the world -/
theorem WR.extra {w0 : World} {ρ : Rho} {M : Mem} {w : World} (h : WR w0 ρ M w) (o : Obj) : WR w0 ρ M (w.alloc o) :=
  ⟨h.keep.alloc o, h.dom, h.nild, fun b B g tot h1 h2 => by
    obtain ⟨q1, cur, q3, q4, q5⟩ := h.holds h1 h2
    exact ⟨q1, cur, by rw [heap_alloc_old w _ (Array.getElem?_eq_some_iff.1 q3).1]; exact q3, q4, q5⟩, h.has, h.inj, fun g o' v hv => by
    have hlt := h.still_lt hv
    have := h.still g o' v hv
    simp only [World.cell?] at this ⊢
    rw [heap_alloc_old w _ hlt]; exact this, h.first, h.apart⟩

/-- what a frame owes to the operations that are done -/
structure Done (P : Program) (ops : Array Oper) (es : List (AV × Mem)) (F0 : Fr) (listed : Array Bool) (i0 : Nat) (ρ : Rho) (a : Act) : Prop where
  size : F0.length = a.tmps.size
  defers : a.defers = []
  wrote : ∀ (j : Nat) (o : Oper) (t : Nat) (v : AV) (M : Mem), ops[j]? = some o → o.dst = some t → listed.getD j false = true → (fl P ops j = true → j < i0) → es[j]? = some (v, M) → t < a.tmps.size → rel ρ v (a.tmps.getD t undef)
  stood : ∀ (t : Nat) (v : AV), (∀ (j : Nat) (o : Oper), ops[j]? = some o → o.dst = some t → listed.getD j false = false) → F0[t]? = some (some v) → rel ρ v (a.tmps.getD t undef)
theorem Done.ext {P : Program} {ops : Array Oper} {es : List (AV × Mem)} {F0 : Fr} {listed : Array Bool} {i0 : Nat} {ρ ρ' : Rho} {a : Act} (h : Done P ops es F0 listed i0 ρ a) (he : Ext ρ ρ') : Done P ops es F0 listed i0 ρ' a :=
  ⟨h.size, h.defers, fun j o t v M h1 h2 h3 h6 h4 h5 => (h.wrote j o t v M h1 h2 h3 h6 h4 h5).ext he, fun t v h1 h2 => (h.stood t v h1 h2).ext he⟩

def Closed (ops : Array Oper) (listed : Array Bool) : Prop := ∀ (i : Nat) (o : Oper), ops[i]? = some o → listed.getD i false = true → ∀ p ∈ preds o, listed.getD p false = true
theorem Closed.reach {ops : Array Oper} {listed : Array Bool} (h : Closed ops listed) {i j : Nat} (hr : Reach ops i j) : listed.getD i false = true → listed.getD j false = true := by
  induction hr with
  | one ho hp => exact fun hi => h _ _ ho hi _ hp
  | more ho hp _ ih => exact fun hi => ih (h _ _ ho hi _ hp)
theorem Closed.ready {ops : Array Oper} {listed : Array Bool} (h : Closed ops listed) {i j : Nat} {o : Oper} (ho : ops[i]? = some o) (hp : ∀ p ∈ preds o, listed.getD p false = true) (hr : Reach ops i j) : listed.getD j false = true := by
  cases hr with
  | one ho' hj => rw [ho] at ho'; simp at ho'; subst ho'; exact hp _ hj
  | more ho' hq hr' => rw [ho] at ho'; simp at ho'; subst ho'; exact h.reach hr' (hp _ hq)

theorem getD_setB (listed : Array Bool) (i j : Nat) (d : Bool) : (listed.setIfInBounds i true).getD j d = if i = j ∧ i < listed.size then true else listed.getD j d := by
  rw [Array.getD_eq_getD_getElem?, Array.getElem?_setIfInBounds, Array.getD_eq_getD_getElem?]
  by_cases h : i = j
  · subst h
    by_cases h2 : i < listed.size
    · simp [h2]
    · simp [h2]
  · simp [h]

/-- the frame that the order of the text has at an operation that may come up, at what it looks at, is there -/
theorem Done.at {P : Program} {ops : Array Oper} (hS : StatOk P ops) {es : List (AV × Mem)} {F0 : Fr} {listed : Array Bool} {i0 : Nat} {ρ : Rho} {a : Act} (h : Done P ops es F0 listed i0 ρ a) (hl : es.length = ops.size) (hc : Closed ops listed) {i : Nat} {o : Oper} (ho : ops[i]? = some o)
    (hi : listed.getD i false = false) (hp : ∀ p ∈ preds o, listed.getD p false = true) (hnf : ∀ (j : Nat) (p : Oper) (d : Tmp), ops[j]? = some p → j < i → fl P ops j = true → p.dst = some d → d ∈ o.looksAt ops → j < i0) : FR ρ (rst (frAt ops.toList es F0 i) (o.looksAt ops)) a := by
  have hlt : i < ops.size := (Array.getElem?_eq_some_iff.1 ho).1
  have h0 := (frAt_get ops.toList es F0 i 0 (by simp; omega) (by simpa using hl)).1
  refine ⟨by simp [rst, h0, h.size], fun t v hv => ?_, h.defers⟩
  obtain ⟨ht, hv'⟩ := rst_some hv
  rcases (frAt_get ops.toList es F0 i t (by simp; omega) (by simpa using hl)).2 with ⟨j, p, v', M', q1, q2, q3, q4, q5⟩ | ⟨q1, q2⟩
  · have e := q5 v hv'
    subst e
    have hj : ops[j]? = some p := by simpa using q2
    have hd : listed.getD j false = true := by
      rcases hS.look i o j p t ho hj (by omega) q3 ht with hr | hr
      · exact hc.ready ho hp hr
      · have := hr.lt hS; omega
    have hsz : t < a.tmps.size := by
      rw [← h.size, ← h0]
      exact (List.getElem?_eq_some_iff.1 hv').1
    exact h.wrote j p t v M' hj q3 hd (fun hf => hnf j p t hj q1 hf q3 ht) q4 hsz
  · rw [q2] at hv'
    refine h.stood t v (fun j p hj hd => ?_) hv'
    by_cases hji : j = i
    · subst hji; exact hi
    · have hge : ¬ j < i := fun hlt' => q1 j p hlt' (by simpa using hj) hd
      rcases hS.look i o j p t ho hj hji hd ht with hr | hr
      · have := hr.lt hS; omega
      · cases hlj : listed.getD j false with
        | false => rfl
        | true => rw [hc.reach hr hlj] at hi; cases hi

/-- an operation is done -/
theorem Done.step {P : Program} {ops : Array Oper} (hS : StatOk P ops) {es : List (AV × Mem)} {F0 : Fr} {listed : Array Bool} {i0 : Nat} {ρ : Rho} {a : Act} (h : Done P ops es F0 listed i0 ρ a) {i : Nat} {o : Oper} (ho : ops[i]? = some o) (hlt : i < listed.size) {v : AV} {M : Mem} (hv : es[i]? = some (v, M)) {u : Value} (hu : (fl P ops i = true → i < i0) → rel ρ v u) :
    Done P ops es F0 (listed.setIfInBounds i true) i0 ρ (a.put o.dst u) := by
  have hsz : (a.put o.dst u).tmps.size = a.tmps.size := by cases o.dst <;> simp [Act.put]
  refine ⟨by rw [hsz]; exact h.size, by cases hd : o.dst <;> simp [Act.put, h.defers], fun j p t v' M' hj hd hl hfl he ht => ?_, fun t v' hn hF => ?_⟩
  · rw [hsz] at ht
    by_cases hji : j = i
    · subst hji
      rw [ho] at hj; simp at hj; subst hj
      rw [hv] at he; simp at he
      obtain ⟨rfl, rfl⟩ := he
      rw [hd]
      simp only [Act.put, Array.getD_eq_getD_getElem?, Array.getElem?_setIfInBounds, if_true, if_pos ht]
      exact hu hfl
    · rw [getD_setB, if_neg (by omega)] at hl
      have := h.wrote j p t v' M' hj hd hl hfl he ht
      cases hod : o.dst with
      | none => exact this
      | some d =>
        have hne : d ≠ t := fun e => by
          subst e
          exact hS.apart i o j p d ho hj hji hd hod
        simp only [Act.put, Array.getD_eq_getD_getElem?, Array.getElem?_setIfInBounds]
        rw [if_neg hne, ← Array.getD_eq_getD_getElem?]
        exact this
  · have hno : o.dst ≠ some t := fun e => by
      have := hn i o ho e
      rw [getD_setB, if_pos ⟨rfl, hlt⟩] at this
      cases this
    have := h.stood t v' (fun j p hj hd => by
      have := hn j p hj hd
      rw [getD_setB] at this
      split at this
      · cases this
      · exact this) hF
    cases hod : o.dst with
    | none => exact this
    | some d =>
      simp only [Act.put, Array.getD_eq_getD_getElem?, Array.getElem?_setIfInBounds]
      rw [if_neg (fun e => hno (by rw [hod, e])), ← Array.getD_eq_getD_getElem?]
      exact this

/-- new memory that came up ahead of its turn -/
def Early (P : Program) (ops : Array Oper) (listed : Array Bool) (i0 e : Nat) : Prop := fl P ops e = true ∧ i0 ≤ e ∧ listed.getD e false = true
structure St (P : Program) (ops : Array Oper) (es : List (AV × Mem)) (F0 : Fr) (M0 : Mem) (w0 : World) (ρ0 : Rho) (listed : Array Bool) (a : Act) (w : World) (ρ : Rho) (i0 : Nat) (G : Nat → Nat) : Prop where
  ext : Ext ρ0 ρ
  wr : WR w0 ρ (memAt es M0 i0) w
  done : Done P ops es F0 listed i0 ρ a
  early : ∀ (e : Nat) (o : Oper), ops[e]? = some o → Early P ops listed i0 e → ∃ u cur B, (∀ d, o.dst = some d → d < a.tmps.size → a.tmps.getD d undef = u) ∧ w.heap[G e]? = some (.cells cur B.elem (0, 0)) ∧ Lone w0 ρ (memAt es M0 i0) w (G e) ∧ Made es M0 ρ e (G e) B cur u
  two : ∀ e e', Early P ops listed i0 e → Early P ops listed i0 e' → G e = G e' → e = e'
structure Inv (P : Program) (ops : Array Oper) (es : List (AV × Mem)) (F0 : Fr) (M0 : Mem) (w0 : World) (ρ0 : Rho) (listed : Array Bool) (a : Act) (w : World) : Prop where
  size : listed.size = ops.size
  closed : Closed ops listed
  st : ∃ (ρ : Rho) (i0 : Nat) (G : Nat → Nat), (i0 = 0 ∨ ∃ (e : Nat) (o : Oper), ops[e]? = some o ∧ isEff o = true ∧ i0 = e + 1) ∧
    (∀ (e : Nat) (o : Oper), ops[e]? = some o → isEff o = true → e < i0 → listed.getD e false = true) ∧
    (∀ (e : Nat) (o : Oper), ops[e]? = some o → isEff o = true → fl P ops e = false → listed.getD e false = true → e < i0) ∧
    St P ops es F0 M0 w0 ρ0 listed a w ρ i0 G

theorem mem_same {P : Program} {call : CallT} {ops : Array Oper} {es : List (AV × Mem)} {F0 : Fr} {M0 : Mem} (hs : evSeq P call ops ops.toList F0 M0 = some es) : ∀ (k i : Nat), i + k ≤ ops.size → (∀ (e : Nat) (o : Oper), i ≤ e → e < i + k → ops[e]? = some o → isEff o = false) → memAt es M0 (i + k) = memAt es M0 i
  | 0, i, _, _ => rfl
  | k + 1, i, hle, hn => by
    have ih := mem_same hs k i (by omega) (fun e o h1 h2 h3 => hn e o h1 (by omega) h3)
    have hlt : i + k < ops.size := by omega
    have ho : ops.toList[i + k]? = some ops[i + k] := by simp [hlt]
    obtain ⟨_, h2⟩ := evSeq_spec _ _ _ _ hs
    obtain ⟨v, _, h3⟩ := h2 (i + k) _ ho
    have hne := hn (i + k) ops[i + k] (by omega) (by omega) (by simp [hlt])
    have : memAt es M0 (i + k + 1) = memAt es M0 (i + k) := by
      rcases h3 with ⟨_, h4, _⟩ | ⟨_, _, _, h4⟩ | ⟨_, _, h4⟩
      · rw [hne] at h4; cases h4
      · exact h4.1
      · exact h4
    rw [← ih, ← this]; rfl

theorem grow_at {P : Program} {call : CallT} (hcall : CallOk P call) {ops : Array Oper} {es : List (AV × Mem)} {F0 : Fr} {M0 : Mem} (hs : evSeq P call ops ops.toList F0 M0 = some es) (hO : ∀ x ∈ obSeq P call ops ops.toList es F0 M0, x = true) : ∀ (k i : Nat), i + k ≤ ops.size → Grow (memAt es M0 i) (memAt es M0 (i + k))
  | 0, i, _ => Grow.refl _
  | k + 1, i, hle => by
    have ih := grow_at hcall hs hO k i (by omega)
    have hlt : i + k < ops.size := by omega
    have ho : ops.toList[i + k]? = some ops[i + k] := by simp [hlt]
    obtain ⟨h1, h2⟩ := evSeq_spec _ _ _ _ hs
    obtain ⟨v, _, h3⟩ := h2 (i + k) _ ho
    have hob := obSeq_spec _ _ _ _ hO h1 (i + k) _ ho
    refine ih.trans ?_
    show Grow (memAt es M0 (i + k)) (memAt es M0 (i + k + 1))
    rcases h3 with ⟨h4, _, h5⟩ | ⟨_, _, _, h4⟩ | ⟨_, _, h4⟩
    · exact evOp1_grow hcall h5 (hob h4)
    · rw [h4.1]; exact Grow.refl _
    · rw [h4]; exact Grow.refl _

theorem Mem.get_put_ne {M : Mem} {b b' : Nat} (B : Option Blk) (hb : b' < M.top) (hne : b ≠ b') : (M.put b' B).get b = M.get b := by
  rw [Mem.put_def, Mem.get_def, Mem.get_def]
  by_cases h : b < M.top
  · simp only [h, if_true, List.getElem?_set]
    rw [if_neg (by omega)]
  · simp only [h, if_false]
theorem get_put_push {M : Mem} {b b' : Nat} {C : Option Blk} {B : Blk} (h : b < M.top) (hb : b' < M.top) (hne : b ≠ b') : ((M.put b' C).push B).get b = M.get b := by
  rw [Mem.get_push_old _ _ (by simpa [Mem.put] using h)]
  exact Mem.get_put_ne _ hb hne
theorem evAppend_keeps {P : Program} {M M' : Mem} {t : TypeId} {x y v : AV} {b b' : Nat} (he : evAppend P M t x y = some (v, M')) (hx : blkA x = some b') (hne : b ≠ b') (h : b < M.top) : M'.get b = M.get b := by
  unfold evAppend at he
  split at he
  · split at he
    · cases he
    · split at he
      · split at he
        · split at he
          · simp at he; rw [← he.2]
          · simp at he; rw [← he.2]
          · cases he
        · split at he
          · split at he
            · cases hx
            · split at he
              · split at he
                · simp at he; rw [← he.2]; exact Mem.get_push_old _ _ h
                · cases he
              · cases he
            · simp only [blkA, Option.some.injEq] at hx
              subst hx
              split at he
              · rename_i B hB
                split at he
                · simp at he; rw [← he.2]; exact get_put_push h (Mem.get_lt hB) hne
                · cases he
              · cases he
            · cases he
          · cases he
      · cases he
  · cases he
theorem evAppendS_keeps {P : Program} {M M' : Mem} {t : TypeId} {x y v : AV} {b b' : Nat} (he : evAppendS P M t x y = some (v, M')) (hx : blkA x = some b') (hne : b ≠ b') (h : b < M.top) : M'.get b = M.get b := by
  unfold evAppendS at he
  split at he
  · split at he
    · cases he
    · split at he
      · split at he
        · split at he
          · cases hx
          · simp only [blkA, Option.some.injEq] at hx
            subst hx
            split at he
            · rename_i B hB
              split at he
              · split at he
                · simp at he; rw [← he.2]; exact get_put_push h (Mem.get_lt hB) hne
                · cases he
              · cases he
            · cases he
          · cases he
        · cases he
      · cases he
  · cases he
theorem evAppend2_keeps {P : Program} {M M' : Mem} {t : TypeId} {x y v : AV} {b b' : Nat} (he : evAppend2 P M t x y = some (v, M')) (hx : blkA x = some b') (hne : b ≠ b') (h : b < M.top) : M'.get b = M.get b := by
  rw [evAppend2_def] at he
  split at he
  · rename_i r hr
    simp at he; subst he
    exact evAppend_keeps hr hx hne h
  · unfold evAppendT at he
    split at he
    · rename_i Mx hr
      unfold slRows at hr
      split at hr
      · rename_i b2 o n c s
        simp only [blkA, Option.some.injEq] at hx
        subst hx
        split at hr
        · rename_i B hB
          split at hr
          · simp at hr
            subst hr
            rw [evAppendS_keeps he rfl hne (by simpa [Mem.put] using h)]
            exact Mem.get_put_ne _ (Mem.get_lt hB) hne
          · cases hr
        · cases hr
      · cases hr
    · exact evAppendS_keeps he hx hne h
theorem append_keeps {P : Program} {call : CallT} {F : Fr} {M M' : Mem} {o : Oper} {c : Call} {x y : Operand} {u v : AV} {b b' : Nat} (hop : o.op = .call c) (hc : c.callee = .builtin .append) (ha : c.args.toList = [x, y]) (hx : evX F x = some u) (he : evOp1 P call F M o = some (v, M')) (hb : blkA u = some b') (hne : b ≠ b') (h : b < M.top) : M'.get b = M.get b := by
  unfold evOp1 at he
  rw [hop] at he
  simp only at he
  have e1 : calleeA F c = none := by unfold calleeA; rw [hc]
  rw [e1] at he
  simp only at he
  rw [evOp_def] at he
  split at he
  · simp at he; rw [← he.2]
  · unfold evEff at he
    rw [hop] at he
    simp only [eAppend, hc, ha] at he
    split at he
    · rename_i x' y' t t' e1 e2
      simp at e1
      obtain ⟨rfl, rfl⟩ := e1
      split at he
      · obtain ⟨u', h1, he⟩ := obind_some he
        obtain ⟨v', h2, he⟩ := obind_some he
        rw [hx] at h1
        simp at h1; subst h1
        exact evAppend2_keeps he hb hne h
      · cases he
    · cases he
theorem stays_spec {P : Program} {call : CallT} (hcall : CallOk P call) {ops : Array Oper} {es : List (AV × Mem)} {F0 : Fr} {M0 : Mem} (hs : evSeq P call ops ops.toList F0 M0 = some es) (hO : ∀ x ∈ obSeq P call ops ops.toList es F0 M0, x = true) {b k : Nat} (hk : k < ops.size) (h : stays ops es F0 M0 b k = true) : (memAt es M0 (k + 1)).get b = (memAt es M0 k).get b := by
  unfold stays at h
  rw [Bool.or_eq_true] at h
  rcases h with h | h
  · simp only [Bool.and_eq_true, Nat.blt_eq] at h
    exact (grow_at hcall hs hO 1 k (by omega)).same (Nat.eq_of_beq_eq_true h.1).symm b h.2
  · obtain ⟨_, hspec⟩ := evSeq_spec _ _ _ _ hs
    have ho : ops[k]? = some ops[k] := by simp [hk]
    obtain ⟨v, _, hstep⟩ := hspec k ops[k] (by simp [hk])
    rw [ho] at h
    simp only at h
    split at h
    · rename_i t x y hop
      split at h
      · rename_i b' q hx
        have hne : b ≠ b' := fun e => by subst e; simp at h
        rcases hstep with ⟨_, _, h3⟩ | ⟨_, _, _, h4, _⟩ | ⟨_, _, h4⟩
        · unfold evOp1 at h3
          rw [hop] at h3
          simp only at h3
          rw [evOp_def] at h3
          split at h3
          · simp at h3; rw [← h3.2]
          · unfold evEff at h3
            rw [hop] at h3
            simp only [eStore, hx, obind] at h3
            obtain ⟨u, _, h3⟩ := obind_some h3
            obtain ⟨M2, h5, h3⟩ := obind_some h3
            simp at h3
            have h5 : evStore P (memAt es M0 k) t (.ptr b' q) u = some M2 := by
              rw [evStore2_def] at h5
              split at h5
              · rename_i r hr; simp at h5; subst h5; exact hr
              · unfold evStoreR at h5
                split at h5
                · rename_i e1 _; cases e1
                · cases h5
            unfold evStore at h5
            split at h5
            · rename_i b2 o2 n2 e1 e2
              simp at e1
              obtain ⟨rfl, rfl⟩ := e1
              split at h5
              · rename_i B hB
                split at h5
                · simp at h5
                  rw [← h3.2, ← h5]
                  exact Mem.get_put_ne _ (Mem.get_lt hB) hne
                · cases h5
              · cases h5
            · cases h5
        · rw [h4]
        · rw [h4]
      · rename_i b' qi qs q hx
        have hne : b ≠ b' := fun e => by subst e; simp at h
        rcases hstep with ⟨_, _, h3⟩ | ⟨_, _, _, h4, _⟩ | ⟨_, _, h4⟩
        · unfold evOp1 at h3
          rw [hop] at h3
          simp only at h3
          rw [evOp_def] at h3
          split at h3
          · simp at h3; rw [← h3.2]
          · unfold evEff at h3
            rw [hop] at h3
            simp only [eStore, hx, obind] at h3
            obtain ⟨u, _, h3⟩ := obind_some h3
            obtain ⟨M2, h5, h3⟩ := obind_some h3
            simp at h3
            rw [evStore2_def] at h5
            split at h5
            · rename_i r hr
              unfold evStore at hr
              split at hr
              · rename_i e1 _; cases e1
              · cases hr
            · unfold evStoreR at h5
              split at h5
              · rename_i b2 i2 s2 o2 n2 e1 e2
                simp at e1
                obtain ⟨rfl, rfl, rfl, rfl⟩ := e1
                split at h5
                · rename_i B hB
                  split at h5
                  · split at h5
                    · simp at h5
                      rw [← h3.2, ← h5]
                      exact Mem.get_put_ne _ (Mem.get_lt hB) hne
                    · cases h5
                  · cases h5
                · cases h5
              · cases h5
        · rw [h4]
        · rw [h4]
      · cases h
    · rename_i c hop
      split at h
      · rename_i hcal
        split at h
        · rename_i x y hargs
          split at h
          · rename_i u hx
            split at h
            · rename_i b' hb'
              rw [Bool.and_eq_true] at h
              have hne : b ≠ b' := fun e => by subst e; simp at h
              have hlt : b < (memAt es M0 k).top := by simpa [Nat.blt_eq] using h.2
              rcases hstep with ⟨_, _, h3⟩ | ⟨_, _, _, h4, _⟩ | ⟨_, _, h4⟩
              · exact append_keeps hop hcal hargs hx h3 hb' hne hlt
              · rw [h4]
              · rw [h4]
            · cases h
          · cases h
        · cases h
      · cases h
    · cases h
theorem staysTo_spec {P : Program} {call : CallT} (hcall : CallOk P call) {ops : Array Oper} {es : List (AV × Mem)} {F0 : Fr} {M0 : Mem} (hs : evSeq P call ops ops.toList F0 M0 = some es) (hO : ∀ x ∈ obSeq P call ops ops.toList es F0 M0, x = true) {b lo : Nat} : ∀ n, lo + n ≤ ops.size → staysTo ops es F0 M0 b lo n = true → (memAt es M0 (lo + n)).get b = (memAt es M0 lo).get b
  | 0, _, _ => rfl
  | n + 1, hn, h => by
    simp only [staysTo, Bool.and_eq_true] at h
    rw [← staysTo_spec hcall hs hO n (by omega) h.2]
    exact stays_spec hcall hs hO (k := lo + n) (by omega) h.1
theorem load_same {P : Program} {F' : Fr} {o : Oper} {M M' : Mem} {t : TypeId} {x : Operand} (ho : o.op = .load t x) {b : Nat} (hv : (∃ q, evX F' x = some (.ptr b q)) ∨ ∃ i s q, evX F' x = some (.rptr b i s q)) (same : M.get b = M'.get b) : evRead P F' M o = evRead P F' M' o ∧ obRead F' M o = obRead F' M' o := by
  have key : (obind (evX F' x) fun v => evLoad P M t v) = (obind (evX F' x) fun v => evLoad P M' t v) ∧ (obind (evX F' x) fun v => obLoad M v) = (obind (evX F' x) fun v => obLoad M' v) := by
    rcases hv with ⟨q, hv⟩ | ⟨i, s, q, hv⟩
    · rw [hv]; simp only [obind, evLoad, obLoad, same, and_self]
    · rw [hv]; simp only [obind, evLoad, obLoad, same, and_self]
  constructor
  · rw [evRead_def, evRead_def]
    unfold evRead' fLoad
    rw [ho]
    simp only
    rw [key.1]
  · unfold obRead
    rw [ho]
    exact key.2
theorem calmB_spec {P : Program} {call : CallT} (hcall : CallOk P call) {ops : Array Oper} {es : List (AV × Mem)} {F0 : Fr} {M0 : Mem} (hs : evSeq P call ops ops.toList F0 M0 = some es) (hO : ∀ x ∈ obSeq P call ops ops.toList es F0 M0, x = true) {o : Oper} {i p : Nat} (hi : i ≤ ops.size) (hp : p ≤ ops.size) (h : calmB ops es F0 M0 o i p = true) :
    evRead P (frAt ops.toList es F0 i) (memAt es M0 p) o = evRead P (frAt ops.toList es F0 i) (memAt es M0 i) o ∧ obRead (frAt ops.toList es F0 i) (memAt es M0 p) o = obRead (frAt ops.toList es F0 i) (memAt es M0 i) o := by
  have same : ∀ b, (staysTo ops es F0 M0 b p (i - p) && staysTo ops es F0 M0 b i (p - i)) = true → (memAt es M0 p).get b = (memAt es M0 i).get b := fun b hb => by
    rw [Bool.and_eq_true] at hb
    rcases Nat.le_total p i with hh | hh
    · have := staysTo_spec hcall hs hO (i - p) (by omega) hb.1
      rw [show p + (i - p) = i by omega] at this
      exact this.symm
    · have := staysTo_spec hcall hs hO (p - i) (by omega) hb.2
      rwa [show i + (p - i) = p by omega] at this
  unfold calmB at h
  split at h
  · rename_i t x ho
    split at h
    · rename_i b q hv; exact load_same ho (.inl ⟨q, hv⟩) (same b h)
    · rename_i b i' s q hv; exact load_same ho (.inr ⟨i', s, q, hv⟩) (same b h)
    · cases h
  · cases h
theorem noEff_ob {P : Program} {call : CallT} {F : Fr} {M : Mem} {o : Oper} {v : AV} (he : isEff o = false) (hr : evRead P F M o = some v) : obOp1 P call F M o = obRead F M o := by
  have : obOp P F M o = obRead F M o := by unfold obOp; rw [hr]
  unfold obOp1
  split
  · rename_i c ho
    split
    · rename_i f args hc
      exfalso
      simp only [isEff, ho] at he
      unfold calleeA at hc
      split at hc
      · rename_i x hcx; rw [hcx] at he; cases he
      · cases hc
    · exact this
  · exact this

theorem Lone.extra {w0 : World} {ρ : Rho} {M : Mem} {w : World} {g : Nat} (h : Lone w0 ρ M w g) (o : Obj) : Lone w0 ρ M (w.alloc o) g := ⟨h.ge, by have := h.lt; simp; omega, h.still, h.dead⟩
theorem Done.up {P : Program} {ops : Array Oper} {es : List (AV × Mem)} {F0 : Fr} {listed : Array Bool} {i0 : Nat} {ρ : Rho} {a : Act} (h : Done P ops es F0 listed i0 ρ a) (hf : fl P ops i0 = false) : Done P ops es F0 listed (i0 + 1) ρ a :=
  ⟨h.size, h.defers, fun j o t v M h1 h2 h3 h6 h4 h5 => h.wrote j o t v M h1 h2 h3 (fun hh => by
    have := h6 hh
    have hne : j ≠ i0 := fun e => by subst e; rw [hf] at hh; cases hh
    omega) h4 h5, h.stood⟩
/-- one that came up ahead of its turn, at its turn -/
theorem St.next {P : Program} {call : CallT} {ops : Array Oper} (hS : StatOk P ops) {es : List (AV × Mem)} {F0 : Fr} {M0 : Mem} {w0 : World} {ρ0 : Rho} (hs : evSeq P call ops ops.toList F0 M0 = some es) {listed : Array Bool} {a : Act} {w : World} {ρ : Rho} {i0 : Nat} {G : Nat → Nat}
    (h : St P ops es F0 M0 w0 ρ0 listed a w ρ i0 G) {o : Oper} (ho : ops[i0]? = some o) (hc : isEff o = false ∨ (fl P ops i0 = true ∧ listed.getD i0 false = true)) : ∃ ρ', St P ops es F0 M0 w0 ρ0 listed a w ρ' (i0 + 1) G := by
  obtain ⟨hlen, hspec⟩ := evSeq_spec _ _ _ _ hs
  have hlt : i0 < ops.size := (Array.getElem?_eq_some_iff.1 ho).1
  have down : ∀ e, Early P ops listed (i0 + 1) e → Early P ops listed i0 e := fun e he => ⟨he.1, by have := he.2.1; omega, he.2.2⟩
  rcases hc with hc | ⟨hf, hl⟩
  · have hm : memAt es M0 (i0 + 1) = memAt es M0 i0 := mem_same hs 1 i0 (by omega) (fun e o' h1 h2 h3 => by
      have e' : e = i0 := by omega
      subst e'
      rw [ho] at h3; simp at h3; subst h3
      exact hc)
    have hnf : fl P ops i0 = false := by
      cases hh : fl P ops i0 with
      | false => rfl
      | true => rw [fl_eff ho hh] at hc; cases hc
    refine ⟨ρ, h.ext, by rw [hm]; exact h.wr, h.done.up hnf, fun e o' h1 he => ?_, fun e e' h1 h2 h3 => h.two e e' (down e h1) (down e' h2) h3⟩
    rw [hm]
    exact h.early e o' h1 (down e he)
  · have hEff := fl_eff ho hf
    obtain ⟨v, hv, hstep⟩ := hspec i0 o (by simpa using ho)
    have hE0 : Early P ops listed i0 i0 := ⟨hf, Nat.le_refl _, hl⟩
    obtain ⟨u, cur, B, q1, q2, q3, q4⟩ := h.early i0 o ho hE0
    have hm : (memAt es M0 i0).push B = memAt es M0 (i0 + 1) := q4.mem.symm
    have hfr := h.wr.fresh (G i0, cur.size)
    refine ⟨upd ρ (memAt es M0 i0).top (G i0, cur.size), h.ext.trans hfr, ?_, ⟨h.done.size, h.done.defers, fun j p d v' M' h1 h2 h3 h6 h4 h5 => ?_, fun d v' h1 h2 => (h.done.stood d v' h1 h2).ext hfr⟩, fun e o' h1 he => ?_, fun e e' h1 h2 h3 => h.two e e' (down e h1) (down e' h2) h3⟩
    · rw [← hm]
      exact h.wr.adopt B q2 q3 q4.holds
    · by_cases hj : j = i0
      · subst hj
        rw [ho] at h1; simp at h1; subst h1
        rw [q1 d h2 h5]
        exact q4.val v' M' h4 _ (upd_same _ _ _)
      · exact (h.done.wrote j p d v' M' h1 h2 h3 (fun hh => by have := h6 hh; omega) h4 h5).ext hfr
    · obtain ⟨u', cur', B', r1, r2, r3, r4⟩ := h.early e o' h1 (down e he)
      refine ⟨u', cur', B', r1, r2, ⟨r3.ge, r3.lt, r3.still, fun b C tt hb hr => ?_⟩, r4.ext hfr⟩
      rw [← hm] at hb
      rcases Mem.get_push hb with ⟨rfl, _⟩ | ⟨hlt', hb'⟩
      · rw [upd_same] at hr
        simp at hr
        have := h.two i0 e hE0 (down e he) hr.1
        have := he.2.1
        omega
      · rw [upd_other _ _ (by omega)] at hr
        exact r3.dead b C tt hb' hr
theorem St.upto {P : Program} {call : CallT} {ops : Array Oper} (hS : StatOk P ops) {es : List (AV × Mem)} {F0 : Fr} {M0 : Mem} {w0 : World} {ρ0 : Rho} (hs : evSeq P call ops ops.toList F0 M0 = some es) {listed : Array Bool} {a : Act} {w : World} {i0 : Nat} {G : Nat → Nat} : ∀ (k : Nat) {ρ : Rho},
    St P ops es F0 M0 w0 ρ0 listed a w ρ i0 G → i0 + k ≤ ops.size → (∀ (e : Nat) (o : Oper), i0 ≤ e → e < i0 + k → ops[e]? = some o → isEff o = false ∨ (fl P ops e = true ∧ listed.getD e false = true)) → ∃ ρ', St P ops es F0 M0 w0 ρ0 listed a w ρ' (i0 + k) G
  | 0, ρ, h, _, _ => ⟨ρ, h⟩
  | k + 1, ρ, h, hk, hc => by
    obtain ⟨ρ1, h1⟩ := St.upto hS hs k h (by omega) (fun e o q1 q2 q3 => hc e o q1 (by omega) q3)
    have hlt : i0 + k < ops.size := by omega
    exact St.next hS hs h1 (o := ops[i0 + k]) (by simp [hlt]) (hc (i0 + k) ops[i0 + k] (by omega) (by omega) (by simp [hlt]))

theorem inv_op {P : Program} (hP : Plainly P) {call : CallT} (hcall : CallOk P call) {ops : Array Oper} (hS : StatOk P ops) {es : List (AV × Mem)} {F0 : Fr} {M0 : Mem} {w0 : World} {ρ0 : Rho} (hs : evSeq P call ops ops.toList F0 M0 = some es) (hL : loadsOk P ops es F0 M0 = true) (hO : ∀ x ∈ obSeq P call ops ops.toList es F0 M0, x = true)
    {listed : Array Bool} {a : Act} {w : World} (h : Inv P ops es F0 M0 w0 ρ0 listed a w) {i : Nat} (hi : i ∈ Region.ready .any ops listed) {Q : Exit → Act → World → Prop} {K : Act → World → Prop} (hK : ∀ a' w', Inv P ops es F0 M0 w0 ρ0 (listed.setIfInBounds i true) a' w' → K a' w') :
    wpOp P ops Q i K a w := by
  obtain ⟨hi0, o, ho, hpre⟩ := mem_ready.1 hi
  have hlt : i < ops.size := (Array.getElem?_eq_some_iff.1 ho).1
  have hlt' : i < listed.size := by rw [h.size]; exact hlt
  have hif : listed.getD i false = false := by
    rw [Array.getD_eq_getD_getElem?, Array.getElem?_eq_getElem hlt'] at hi0 ⊢
    simpa using hi0
  have hp : ∀ p ∈ preds o, listed.getD p false = true := fun p hp => by
    obtain ⟨e, he, hb, rfl⟩ := mem_preds.1 hp
    exact hpre e he hb
  obtain ⟨hlen, hspec⟩ := evSeq_spec _ _ _ _ hs
  have hlen' : es.length = ops.size := by simpa using hlen
  obtain ⟨ρ, i0, G, c1, ca, cb, c4⟩ := h.st
  have hi0le : i0 ≤ ops.size := by
    rcases c1 with rfl | ⟨e, o', e1, _, rfl⟩
    · omega
    · have := (Array.getElem?_eq_some_iff.1 e1).1; omega
  obtain ⟨v, hv, hstep⟩ := hspec i o (by simpa using ho)
  have hob := obSeq_spec _ _ _ _ hO hlen i o (by simpa using ho)
  have hwA : wantedA ops (rst (frAt ops.toList es F0 i) (o.looksAt ops)) o = wantedA ops (frAt ops.toList es F0 i) o := wantedA_congr fun t ht => rst_get _ _ t ht
  have hclosed : Closed ops (listed.setIfInBounds i true) := fun j p hj hl q hq => by
    rw [getD_setB] at hl ⊢
    split
    · rfl
    · split at hl
      · rename_i _ hij
        have e := hij.1
        subst e
        rw [ho] at hj; simp at hj; subst hj
        exact hp q hq
      · exact h.closed j p hj hl q hq
  have keepL : ∀ e, listed.getD e false = true → (listed.setIfInBounds i true).getD e false = true := fun e he => by
    rw [getD_setB]
    split
    · rfl
    · exact he
  have newL : ∀ e, (listed.setIfInBounds i true).getD e false = true → e = i ∨ listed.getD e false = true := fun e he => by
    rw [getD_setB] at he
    split at he
    · rename_i hh; exact .inl hh.1.symm
    · exact .inr he
  have putO : ∀ (u : Value) (e : Nat) (p : Oper) (d : Tmp), ops[e]? = some p → e ≠ i → p.dst = some d → (a.put o.dst u).tmps.getD d undef = a.tmps.getD d undef := fun u e p d h1 h2 h3 => by
    cases hod : o.dst with
    | none => rfl
    | some x =>
      have hne : x ≠ d := fun ee => by
        subst ee
        exact hS.apart i o e p x ho h1 h2 h3 hod
      simp only [Act.put, Array.getD_eq_getD_getElem?, Array.getElem?_setIfInBounds]
      rw [if_neg hne]
  have putS : ∀ u : Value, (a.put o.dst u).tmps.size = a.tmps.size := fun u => by cases o.dst <;> simp [Act.put]
  have hge : isEff o = true → i0 ≤ i := fun he => by
    rcases Nat.lt_or_ge i i0 with hh | hh
    · have := ca i o ho he hh
      rw [hif] at this; cases this
    · exact hh
  unfold wpOp
  simp only [ho]
  cases hE : isEff o with
  | false =>
    have hnf : fl P ops i = false := by
      cases hh : fl P ops i with
      | false => rfl
      | true => rw [fl_eff ho hh] at hE; cases hE
    have hF := c4.done.at hS hlen' h.closed ho hif hp (fun j p d hj hji hf hd hl => absurd hl (hS.flook i o j p d ho hj (by omega) (.inl hE) hf hd))
    have old : ∀ e, Early P ops (listed.setIfInBounds i true) i0 e → e ≠ i ∧ Early P ops listed i0 e := fun e he => by
      have hne : e ≠ i := fun ee => by
        subst ee
        have h1 := he.1
        rw [hnf] at h1; cases h1
      refine ⟨hne, he.1, he.2.1, ?_⟩
      rcases newL e he.2.2 with h1 | h1
      · exact absurd h1 hne
      · exact h1
    have after : ∀ u, rel ρ v u → Inv P ops es F0 M0 w0 ρ0 (listed.setIfInBounds i true) (a.put o.dst u) w := fun u hu =>
      ⟨by simp [h.size], hclosed, ρ, i0, G, c1, fun e o' h1 h2 h3 => keepL e (ca e o' h1 h2 h3), fun e o' h1 h2 h3 h4 => by
        rcases newL e h4 with h5 | h5
        · subst h5
          rw [ho] at h1; simp at h1; subst h1
          rw [hE] at h2; cases h2
        · exact cb e o' h1 h2 h3 h5, ⟨c4.ext, c4.wr, c4.done.step hS ho hlt' hv (fun _ => hu), fun e o' h1 he => by
        obtain ⟨hne, he'⟩ := old e he
        obtain ⟨u', cur', B', r1, r2, r3⟩ := c4.early e o' h1 he'
        exact ⟨u', cur', B', fun d hd hsz => by rw [putO u e o' d h1 hne hd]; exact r1 d hd (by rw [putS] at hsz; exact hsz), r2, r3⟩, fun e e' h1 h2 h3 => c4.two e e' (old e h1).2 (old e' h2).2 h3⟩⟩
    rcases hstep with ⟨_, h2, _⟩ | ⟨h1, h2, h3, h4⟩ | ⟨h1, h2, h3⟩
    · rw [hE] at h2; cases h2
    · rw [wantedA_sound hF (hwA.trans h1), if_pos rfl]
      left
      have hob := hob h1
      rw [noEff_ob h2 h3] at hob
      have hread : evRead P (rst (frAt ops.toList es F0 i) (o.looksAt ops)) (memAt es M0 i0) o = some v ∧ owed (obRead (rst (frAt ops.toList es F0 i) (o.looksAt ops)) (memAt es M0 i0) o) := by
        rw [evRead_congr (F' := frAt ops.toList es F0 i) (fun x hx => rst_ev x hx), obRead_congr (F' := frAt ops.toList es F0 i) (fun x hx => rst_ev x hx)]
        cases hld : isLoad o with
        | false => rw [evRead_mem (M' := memAt es M0 i) hld, obRead_mem (M' := memAt es M0 i) hld]; exact ⟨h3, hob⟩
        | true =>
          unfold loadsOk at hL
          rw [Bool.and_eq_true, List.all_eq_true] at hL
          have := hL.2 (o, i) (mem_zipIdx ho)
          simp only [hld, Bool.not_true, Bool.false_or, List.all_eq_true] at this
          have hm : ∀ p j, ((masks ops.toList []).getD p 0).testBit j = true → Reach ops p j := masks_sound ops.toList [] (fun j => by simp) (fun p j hb => by simp at hb)
          have h5 := this i0 (by
            rcases c1 with rfl | ⟨e, o', e1, e2, rfl⟩
            · simp
            · exact List.mem_cons_of_mem _ (List.mem_map.2 ⟨e, mem_effIdx e1 e2, rfl⟩))
          have hadm : adm (masks ops.toList []) (effIdx ops) i i0 = true := by
            unfold adm
            rw [List.all_eq_true]
            intro e he
            obtain ⟨⟨o', e'⟩, hh1, rfl⟩ := List.mem_map.1 he
            obtain ⟨hh2, hh3⟩ := List.mem_filter.1 hh1
            rw [List.mem_zipIdx_iff_getElem?] at hh2
            have hoe : ops[e']? = some o' := by simpa using hh2
            simp only [Bool.and_eq_true, Bool.or_eq_true, Bool.not_eq_true', decide_eq_true_eq]
            constructor
            · cases hb : ((masks ops.toList []).getD i 0).testBit e' with
              | false => exact .inl rfl
              | true =>
                right
                cases hfe : fl P ops e' with
                | false => exact cb e' o' hoe hh3 hfe (h.closed.ready ho hp (hm _ _ hb))
                | true => rw [hS.fload i o e' o' ho hoe hE hld hfe] at hb; cases hb
            · cases hb : ((masks ops.toList []).getD e' 0).testBit i with
              | false => exact .inl rfl
              | true =>
                right
                rcases Nat.lt_or_ge e' i0 with hh | hh
                · have := h.closed.reach (hm _ _ hb) (ca e' o' hoe hh3 hh)
                  rw [hif] at this; cases this
                · exact hh
          rw [hadm] at h5
          simp only [Bool.not_true, Bool.false_or, loadOk, hv] at h5
          split at h5
          · rename_i cs M2 e2
            simp at e2
            have := h4.2 hld
            rw [e2.1] at this
            cases this
          · rename_i v' M2 hnt e2
            simp at e2
            obtain ⟨rfl, _⟩ := e2
            split at h5
            · rename_i hcalm
              have hG : Grow (memAt es M0 i0) (memAt es M0 i) ∨ Grow (memAt es M0 i) (memAt es M0 i0) := by
                rcases Nat.le_total i0 i with hh | hh
                · left
                  have := grow_at hcall hs hO (i - i0) i0 (by omega)
                  rwa [show i0 + (i - i0) = i by omega] at this
                · right
                  have := grow_at hcall hs hO (i0 - i) i (by omega)
                  rwa [show i + (i0 - i) = i0 by omega] at this
              obtain ⟨g1, g2⟩ := calm_spec (P := P) (fun x _ => rfl) hcalm hG
              rw [g1, g2]
              exact ⟨h3, hob⟩
            · split at h5
              · rename_i hcb
                obtain ⟨g1, g2⟩ := calmB_spec (P := P) hcall hs hO (Nat.le_of_lt hlt) hi0le hcb
                rw [g1, g2]
                exact ⟨h3, hob⟩
              · split at h5
                · rename_i v1 e1
                  split at h5
                  · rename_i hnone
                    rw [e1, aeq_eq h5, hnone]
                    exact ⟨rfl, fun _ e => by cases e⟩
                  · cases h5
                · cases h5
          · cases h5
      obtain ⟨u, q1, q2⟩ := evRead_sound hF c4.wr hread.1 hread.2
      unfold Oper.wp
      rw [q2 w rfl]
      exact hK _ _ (after u q1)
    · rw [wantedA_sound hF (hwA.trans h1)]
      simp only [Bool.false_eq_true, if_false]
      subst h2
      exact hK _ _ (after undef (rel_off _))
  | true =>
    have hge := hge hE
    cases hfl : fl P ops i with
    | true =>
      -- new memory, ahead of its turn
      obtain ⟨hg, hcase⟩ := fl_spec ho hfl
      have hw : Region.wanted o (yielded ops a.tmps) = true := by unfold Region.wanted; rw [hg]
      rw [hw, if_pos rfl]
      left
      unfold Oper.wp
      have h3e : evOp1 P call (frAt ops.toList es F0 i) (memAt es M0 i) o = some (v, memAt es M0 (i + 1)) := by
        rcases hstep with ⟨_, _, h3⟩ | ⟨_, h2, _⟩ | ⟨h1, _⟩
        · exact h3
        · rw [hE] at h2; cases h2
        · unfold wantedA at h1; rw [hg] at h1; cases h1
      rw [← evOp1_congr (F := rst (frAt ops.toList es F0 i) (o.looksAt ops)) (F' := frAt ops.toList es F0 i) (fun x hx => rst_ev x hx)] at h3e
      have hF := c4.done.at hS hlen' h.closed ho hif hp (fun j p d hj hji hf hd hl => absurd hl (hS.flook i o j p d ho hj (by omega) (.inr hfl) hf hd))
      have hnl : ∀ u, v ≠ .lit u := fun u e => by
        subst e
        unfold loadsOk flOk at hL
        rw [Bool.and_eq_true, List.all_eq_true] at hL
        have := hL.1 (o, i) (mem_zipIdx ho)
        simp [hfl, hv] at this
      obtain ⟨u, cur, B, k1, k2, k3, k4⟩ := early_make hF hcase h3e hnl w
      rw [k1]
      have old : ∀ e, e ≠ i → Early P ops (listed.setIfInBounds i true) i0 e → Early P ops listed i0 e := fun e hne he => by
        refine ⟨he.1, he.2.1, ?_⟩
        rcases newL e he.2.2 with h1 | h1
        · exact absurd h1 hne
        · exact h1
      have hpt : ∀ e, e ≠ i → Early P ops (listed.setIfInBounds i true) i0 e → G e < w.heap.size := fun e hne he => by
        have hlte : e < ops.size := by
          rcases Nat.lt_or_ge e ops.size with hh | hh
          · exact hh
          · have h1 := he.1
            unfold fl flB at h1
            rw [Array.getElem?_eq_none hh] at h1; cases h1
        obtain ⟨_, _, _, _, _, r3, _⟩ := c4.early e ops[e] (by simp [hlte]) (old e hne he)
        exact r3.lt
      refine hK (a.put o.dst u) (w.alloc (.cells cur B.elem (0, 0))) ⟨by simp [h.size], hclosed, ρ, i0, fun e => if e = i then w.heap.size else G e, c1, fun e o' h1 h2 h3 => keepL e (ca e o' h1 h2 h3), fun e o' h1 h2 h3 h4 => ?_, ⟨c4.ext, c4.wr.extra _, c4.done.step hS ho hlt' hv (fun hh => by have := hh hfl; omega), fun e o' h1 he => ?_, fun e e' h1 h2 h3 => ?_⟩⟩
      · rcases newL e h4 with h5 | h5
        · subst h5; rw [hfl] at h3; cases h3
        · exact cb e o' h1 h2 h3 h5
      · by_cases hne : e = i
        · subst hne
          rw [ho] at h1; simp at h1; subst h1
          simp only [if_true]
          refine ⟨u, cur, B, fun d hd hsz => ?_, heap_alloc_new w _, ⟨c4.wr.keep.size, by simp, fun o2 => ?_, fun b C tt hb hr => ?_⟩, ⟨k2, k3, fun v' M' hv' ρ' hr => ?_⟩⟩
          · rw [hd] at hsz ⊢
            simp only [Act.put, Array.size_setIfInBounds] at hsz
            simp only [Act.put, Array.getD_eq_getD_getElem?, Array.getElem?_setIfInBounds, if_true, if_pos hsz]
            rfl
          · cases hst : ρ.still w.heap.size o2 with
            | none => rfl
            | some x => have := c4.wr.still_lt hst; omega
          · obtain ⟨_, cur', q3, _⟩ := c4.wr.blk b C _ tt hb hr
            have := (Array.getElem?_eq_some_iff.1 q3).1
            omega
          · rw [hv] at hv'
            simp only [Option.some.injEq, Prod.mk.injEq] at hv'
            rw [← hv'.1]
            exact k4 ρ' hr
        · obtain ⟨u', cur', B', r1, r2, r3, r4⟩ := c4.early e o' h1 (old e hne he)
          rw [if_neg hne]
          exact ⟨u', cur', B', fun d hd hsz => by rw [putO _ e o' d h1 hne hd]; exact r1 d hd (by rw [putS] at hsz; exact hsz), by rw [heap_alloc_old w _ r3.lt]; exact r2, r3.extra _, r4⟩
      · by_cases hne : e = i
        · by_cases hne' : e' = i
          · rw [hne, hne']
          · rw [if_pos hne, if_neg hne'] at h3
            have := hpt e' hne' h2
            omega
        · by_cases hne' : e' = i
          · rw [if_neg hne, if_pos hne'] at h3
            have := hpt e hne h1
            omega
          · rw [if_neg hne, if_neg hne'] at h3
            exact c4.two e e' (old e hne h1) (old e' hne' h2) h3
    | false =>
      -- all that writes ahead of it is done
      have done : ∀ (e : Nat) (o' : Oper), ops[e]? = some o' → isEff o' = true → e < i → listed.getD e false = true := fun e o' h1 h2 h3 => by
        rcases hS.eff i o e o' ho h1 h3 hE h2 with hr | hr
        · exact h.closed.ready ho hp hr
        · rw [hfl] at hr; cases hr
      obtain ⟨ρ1, s1⟩ := St.upto hS hs (i - i0) c4 (by omega) (fun e o' h1 h2 h3 => by
        cases he : isEff o' with
        | false => exact .inl rfl
        | true =>
          right
          have hl := done e o' h3 he (by omega)
          cases hfe : fl P ops e with
          | true => exact ⟨rfl, hl⟩
          | false => have := cb e o' h3 he hfe hl; omega)
      rw [show i0 + (i - i0) = i by omega] at s1
      have hF := s1.done.at hS hlen' h.closed ho hif hp (fun j p d _ hj _ _ _ => hj)
      have old : ∀ e, Early P ops (listed.setIfInBounds i true) (i + 1) e → e ≠ i ∧ Early P ops listed i e := fun e he => by
        have h1 := he.2.1
        refine ⟨by omega, he.1, by omega, ?_⟩
        rcases newL e he.2.2 with h2 | h2
        · omega
        · exact h2
      have after : ∀ ρ' u w', Ext ρ1 ρ' → rel ρ' v u → WR w0 ρ' (memAt es M0 (i + 1)) w' → (∀ g, Lone w0 ρ1 (memAt es M0 i) w g → w'.heap[g]? = w.heap[g]? ∧ Lone w0 ρ' (memAt es M0 (i + 1)) w' g) → Inv P ops es F0 M0 w0 ρ0 (listed.setIfInBounds i true) (a.put o.dst u) w' := fun ρ' u w' q1 q2 q3 q4 =>
        ⟨by simp [h.size], hclosed, ρ', i + 1, G, .inr ⟨i, o, ho, hE, rfl⟩, fun e o' h1 h2 h3 => by
          by_cases hne : e = i
          · subst hne
            rw [getD_setB, if_pos ⟨rfl, hlt'⟩]
          · exact keepL e (done e o' h1 h2 (by omega)), fun e o' h1 h2 h3 h4 => by
          rcases newL e h4 with h5 | h5
          · omega
          · have := cb e o' h1 h2 h3 h5; omega, ⟨s1.ext.trans q1, q3, ((s1.done.ext q1).step hS ho hlt' hv (fun _ => q2)).up hfl, fun e o' h1 he => by
          obtain ⟨hne, he'⟩ := old e he
          obtain ⟨u', cur', B', r1, r2, r3, r4⟩ := s1.early e o' h1 he'
          obtain ⟨f1, f2⟩ := q4 _ r3
          exact ⟨u', cur', B', fun d hd hsz => by rw [putO u e o' d h1 hne hd]; exact r1 d hd (by rw [putS] at hsz; exact hsz), by rw [f1]; exact r2, f2, r4.ext q1⟩, fun e e' h1 h2 h3 => s1.two e e' (old e h1).2 (old e' h2).2 h3⟩⟩
      rcases hstep with ⟨h1, h2, h3⟩ | ⟨h1, h2, h3, h4⟩ | ⟨h1, h2, h3⟩
      · -- it writes
        rw [wantedA_sound hF (hwA.trans h1), if_pos rfl]
        rw [← evOp1_congr (F := rst (frAt ops.toList es F0 i) (o.looksAt ops)) (F' := frAt ops.toList es F0 i) (fun x hx => rst_ev x hx)] at h3
        left
        have hob := hob h1
        rw [← obOp1_congr (F := rst (frAt ops.toList es F0 i) (o.looksAt ops)) (F' := frAt ops.toList es F0 i) (fun x hx => rst_ev x hx)] at hob
        exact evOp1_framed hP hcall hF s1.wr h3 hob (Q := Q) fun ρ' u w' q1 q2 q3 q4 => hK _ _ (after ρ' u w' q1 q2 q3 q4)
      · rw [hE] at h2; cases h2
      · rw [wantedA_sound hF (hwA.trans h1)]
        simp only [Bool.false_eq_true, if_false]
        subst h2
        exact hK _ _ (after ρ1 undef w (Ext.refl _) (rel_off _) (by rw [h3]; exact s1.wr) (fun g hg => ⟨rfl, by rw [h3]; exact hg⟩))

def unl (listed : Array Bool) : Nat := (listed.toList.filter (!·)).length
theorem unl_zero {listed : Array Bool} (h : unl listed = 0) (j : Nat) : listed.getD j true = true := by
  unfold unl at h
  have h1 := List.eq_nil_of_length_eq_zero h
  rw [List.filter_eq_nil_iff] at h1
  rw [Array.getD_eq_getD_getElem?]
  cases hj : listed[j]? with
  | none => rfl
  | some b =>
    have := h1 b (by have := Array.mem_of_getElem? hj; simpa using this)
    simpa using this
theorem unl_set {listed : Array Bool} {i : Nat} (h : listed.getD i true = false) : unl (listed.setIfInBounds i true) + 1 = unl listed := by
  have hi : listed.toList[i]? = some false := by
    rw [Array.getD_eq_getD_getElem?] at h
    cases hj : listed[i]? with
    | none => rw [hj] at h; cases h
    | some b => rw [hj] at h; simp at h; subst h; simpa using hj
  unfold unl
  rw [Array.toList_setIfInBounds]
  generalize listed.toList = l at hi
  clear h
  induction l generalizing i with
  | nil => simp at hi
  | cons x l ih =>
    cases i with
    | zero => simp at hi; subst hi; simp
    | succ i =>
      have := ih (by simpa using hi)
      cases x <;> simp <;> omega

theorem all_of_ready {P : Program} {ops : Array Oper} (hS : StatOk P ops) {listed : Array Bool} (hs : listed.size = ops.size) (h : Region.ready .any ops listed = []) : ∀ j, j < ops.size → listed.getD j false = true := by
  intro j
  induction j using Nat.strongRecOn with
  | _ j ih =>
    intro hj
    cases hl : listed.getD j false with
    | true => rfl
    | false =>
      exfalso
      have hm : j ∈ Region.ready .any ops listed := mem_ready.2 ⟨by
        rw [Array.getD_eq_getD_getElem?, Array.getElem?_eq_getElem (by omega)] at hl ⊢
        simpa using hl, ops[j], by simp [hj], fun e he hb => by
        have hp : e.on ∈ preds ops[j] := mem_preds.2 ⟨e, he, hb, rfl⟩
        have hlt := hS.back j ops[j] (by simp [hj]) _ hp
        exact ih _ hlt (by omega)⟩
      rw [h] at hm
      cases hm

theorem any_of_inv {P : Program} (hP : Plainly P) {call : CallT} (hcall : CallOk P call) {ops : Array Oper} (hS : StatOk P ops) {es : List (AV × Mem)} {F0 : Fr} {M0 : Mem} {w0 : World} {ρ0 : Rho} (hs : evSeq P call ops ops.toList F0 M0 = some es) (hL : loadsOk P ops es F0 M0 = true) (hO : ∀ x ∈ obSeq P call ops ops.toList es F0 M0, x = true) {Q : Exit → Act → World → Prop}
    (hQ : ∀ ρ' a' w', Ext ρ0 ρ' → FR ρ' (frAt ops.toList es F0 ops.size) a' → WR w0 ρ' (memAt es M0 ops.size) w' → Q .normal a' w') :
    ∀ (fuel : Nat) (listed : Array Bool) (a : Act) (w : World), unl listed = fuel → Inv P ops es F0 M0 w0 ρ0 listed a w → wpAny P .any ops Q fuel listed a w := by
  have fin : ∀ (listed : Array Bool) (a : Act) (w : World), Inv P ops es F0 M0 w0 ρ0 listed a w → Region.ready .any ops listed = [] → Q .normal a w := fun listed a w h hr => by
    have hall := all_of_ready hS h.size hr
    obtain ⟨ρ0', i0, G, c1, ca, cb, c4⟩ := h.st
    obtain ⟨hlen, hspec⟩ := evSeq_spec _ _ _ _ hs
    have hlen' : es.length = ops.size := by simpa using hlen
    have hi0 : i0 ≤ ops.size := by
      rcases c1 with rfl | ⟨e, o, e1, _, rfl⟩
      · omega
      · have := (Array.getElem?_eq_some_iff.1 e1).1; omega
    obtain ⟨ρ, s1⟩ := St.upto hS hs (ops.size - i0) c4 (by omega) (fun e o' h1 h2 h3 => by
      cases he : isEff o' with
      | false => exact .inl rfl
      | true =>
        right
        have hl := hall e (Array.getElem?_eq_some_iff.1 h3).1
        cases hfe : fl P ops e with
        | true => exact ⟨rfl, hl⟩
        | false => have := cb e o' h3 he hfe hl; omega)
    rw [show i0 + (ops.size - i0) = ops.size by omega] at s1
    have c5 := s1.done
    have h0 := (frAt_get ops.toList es F0 ops.size 0 (by simp) (by simpa using hlen')).1
    refine hQ ρ a w s1.ext ⟨by rw [h0, c5.size], fun t v hv => ?_, c5.defers⟩ s1.wr
    rcases (frAt_get ops.toList es F0 ops.size t (by simp) (by simpa using hlen')).2 with ⟨j, p, v', M', q1, q2, q3, q4, q5⟩ | ⟨q1, q2⟩
    · have e := q5 v hv
      subst e
      exact c5.wrote j p t v M' (by simpa using q2) q3 (hall j q1) (fun _ => q1) q4 (by rw [← c5.size, ← h0]; exact (List.getElem?_eq_some_iff.1 hv).1)
    · rw [q2] at hv
      refine c5.stood t v (fun j p hj hd => ?_) hv
      exact absurd hd (q1 j p (Array.getElem?_eq_some_iff.1 hj).1 (by simpa using hj))
  intro fuel
  induction fuel with
  | zero =>
    intro listed a w hu h
    have hr : Region.ready .any ops listed = [] := by
      rcases hx : Region.ready .any ops listed with _ | ⟨x, xs⟩
      · rfl
      · have hm : x ∈ Region.ready .any ops listed := by rw [hx]; simp
        have h1 := (mem_ready.1 hm).1
        rw [unl_zero hu x] at h1
        cases h1
    exact ⟨hr, fin listed a w h hr⟩
  | succ fuel ih =>
    intro listed a w hu h
    refine ⟨fin listed a w h, fun i hi => inv_op hP hcall hS hs hL hO h hi fun a' w' h' => ih _ a' w' ?_ h'⟩
    have := unl_set (mem_ready.1 hi).1
    omega

theorem evDraw_sound {P : Program} (hP : Plainly P) (hm : P.follows .mixedOrders = true) {call : CallT} (hcall : CallOk P call) {w0 : World} {ops : Array Oper} {ρ : Rho} {F F' : Fr} {M M' : Mem} {w : World} {a : Act} (hF : FR ρ F a) (hW : WR w0 ρ M w)
    {obs : List Bool} (he : evDraw P call ops F M = some (F', M', obs)) (hO : ∀ x ∈ obs, x = true) {id : Nat} {Q : Exit → Act → World → Prop} (hQ : ∀ ρ' a' w', Ext ρ ρ' → FR ρ' F' a' → WR w0 ρ' M' w' → Q .normal a' w') : (Code.region id ops true).wp P Q a w := by
  unfold evDraw at he
  split at he
  · rename_i hst
    split at he
    · rename_i es hs
      split at he
      · rename_i hL
        simp only [Option.some.injEq, Prod.mk.injEq] at he
        obtain ⟨rfl, rfl, rfl⟩ := he
        have hfalse : ∀ j, (Array.replicate ops.size false).getD j false = false := fun j => by
          rw [Array.getD_eq_getD_getElem?, Array.getElem?_replicate]
          split <;> rfl
        refine wp_region_any hm (any_of_inv hP hcall (stat_spec hst) hs hL hO hQ ops.size _ a _ ?_ ⟨by simp, ?_, ρ, 0, fun _ => 0, .inl rfl, ?_, ?_, ⟨Ext.refl _, ?_, ⟨hF.len, hF.defers, ?_, ?_⟩, ?_, ?_⟩⟩)
        · unfold unl
          rw [Array.toList_replicate, List.filter_replicate]
          simp
        · intro i o ho hl
          rw [hfalse] at hl; cases hl
        · intro e o ho hh hlt
          omega
        · intro e o ho hh hf hl
          rw [hfalse] at hl; cases hl
        · have : memAt es M 0 = M := by cases es <;> rfl
          rw [this]
          exact hW.drew
        · intro j o t v M2 h1 h2 h3
          rw [hfalse] at h3; cases h3
        · intro t v _ hv
          exact hF.val t v hv
        · intro e o _ he
          have := he.2.2
          rw [hfalse] at this; cases this
        · intro e e' he
          have := he.2.2
          rw [hfalse] at this; cases this
      · cases he
    · cases he
  · cases he

end Go.Proofs.YtmlhipckgmbpfaaGreat.Sy
