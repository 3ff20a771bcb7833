/-
  Lemmas for QueryTexts, part 7; no conditions.
-/
import Derived.Scope
import Derived.Test.YtlmanlpgknhfpaaProg
import Derived.Laws.IdiomStrings
import Derived.Test.YtlmanlpgknhfpaaQtxF
set_option linter.unusedVariables false
set_option linter.unusedSimpArgs false
namespace Go.Proofs.Ytlmanlpgknhfpaa.Ev
open Go Go.RowKit
def effIdx (ops : Array Oper) : List Nat := (ops.toList.zipIdx.filter fun oi => isEff oi.1).map (·.2)
def adm (ms E : List Nat) (i p : Nat) : Bool := E.all fun e => (!(ms.getD i 0).testBit e || decide (e < p)) && (!(ms.getD e 0).testBit i || decide (p ≤ e))
noncomputable def loadOk (P : Program) (ops : Array Oper) (es : List (AV × Mem)) (F : Fr) (M : Mem) (o : Oper) (i p : Nat) : Bool := match wantedA ops (frAt ops.toList es F i) o with
  | some true => match evRead P (frAt ops.toList es F i) (memAt es M p) o, es[i]? with
    | some v, some (v', _) => aeq v v'
    | _, _ => false
  | _ => true
noncomputable def flOk (P : Program) (ops : Array Oper) (es : List (AV × Mem)) : Bool :=
  ops.toList.zipIdx.all fun oi => !fl P ops oi.2 || (match es[oi.2]? with | some (.lit _, _) => false | _ => true)
noncomputable def loadsOk (P : Program) (ops : Array Oper) (es : List (AV × Mem)) (F : Fr) (M : Mem) : Bool :=
  flOk P ops es && ops.toList.zipIdx.all fun oi => !isLoad oi.1 || (0 :: (effIdx ops).map (· + 1)).all fun p => !adm (masks ops.toList []) (effIdx ops) oi.2 p || loadOk P ops es F M oi.1 oi.2 p
noncomputable def evDraw (P : Program) (call : CallF) (ops : Array Oper) (F : Fr) (M : Mem) : Option (Fr × Mem) :=
  if stat P ops then match evSeq P call ops ops.toList F M with
    | some es => if loadsOk P ops es F M then some (frAt ops.toList es F ops.size, memAt es M ops.size) else none
    | none => none
  else none
theorem mem_effIdx {ops : Array Oper} {e : Nat} {o : Oper} (h : ops[e]? = some o) (he : isEff o = true) : e ∈ effIdx ops := by
  unfold effIdx
  exact List.mem_map.2 ⟨(o, e), List.mem_filter.2 ⟨mem_zipIdx h, he⟩, rfl⟩
theorem evRead_mem {P : Program} {F : Fr} {M M' : Mem} {o : Oper} (h : isLoad o = false) : evRead P F M o = evRead P F M' o := by
  have key : evRead' P F M o = evRead' P F M' o := by
    unfold evRead'
    cases ho : o.op <;> first | rfl | (exfalso; simp [isLoad, ho] at h; done)
  rw [evRead_def, evRead_def, key]
def rst (F : Fr) (ts : List Tmp) : Fr := F.mapIdx fun t x => if ts.contains t then x else none
theorem rst_get (F : Fr) (ts : List Tmp) (t : Nat) (h : t ∈ ts) : (rst F ts)[t]? = F[t]? := by
  simp only [rst, List.getElem?_mapIdx]
  cases F[t]? with
  | none => rfl
  | some x => simp [h]
theorem rst_some {F : Fr} {ts : List Tmp} {t : Nat} {v : AV} (h : (rst F ts)[t]? = some (some v)) : t ∈ ts ∧ F[t]? = some (some v) := by
  simp only [rst, List.getElem?_mapIdx] at h
  cases hx : F[t]? with
  | none => simp [hx] at h
  | some x =>
    simp only [hx, Option.map_some, Option.some.injEq] at h
    split at h
    · rename_i hc
      exact ⟨by simpa using hc, by rw [h]⟩
    · cases h
theorem rst_ev {F : Fr} {o : Oper} {ops : Array Oper} : ∀ x ∈ o.op.operands, evX (rst F (o.looksAt ops)) x = evX F x := fun x hx => by
  cases x with
  | tmp t =>
    rw [evX_tmp, evX_tmp]
    have ht : t ∈ o.looksAt ops := List.mem_append_left _ (List.mem_filterMap.2 ⟨Operand.tmp t, by simpa using hx, rfl⟩)
    rw [rst_get F (o.looksAt ops) t ht]
  | _ => rfl
structure Lone (w0 : Base) (ρ : Rho) (M : Mem) (w : World) (g : Nat) : Prop where
  ge : w0.w.heap.size ≤ g
  lt : g < w.heap.size
  dead : ∀ b B t, M.get b = some B → ρ b = some (g, t) → False
noncomputable def reb (ρ : Rho) (M : Mem) (w : World) : Base := ⟨w, fun k => @decide (∃ b B t, M.get b = some B ∧ ρ b = some (k, t)) (Classical.propDecidable _)⟩
theorem reb_mine {ρ : Rho} {M : Mem} {w : World} {k : Nat} : (reb ρ M w).mine k = true ↔ ∃ b B t, M.get b = some B ∧ ρ b = some (k, t) := by simp [reb]
theorem reb_wr {w0 : Base} {ρ : Rho} {M : Mem} {w : World} (h : WR w0 ρ M w) : WR (reb ρ M w) ρ M w :=
  ⟨Keep.refl _ _, h.dom, fun b B h1 => by
    obtain ⟨g, tot, q1, q2, q3⟩ := h.blk b B h1
    exact ⟨g, tot, q1, .inr (reb_mine.2 ⟨b, B, tot, h1, q1⟩), q3⟩, h.inj⟩
theorem back_wr {w0 : Base} {ρ ρ2 : Rho} {M M' : Mem} {w w' : World} (h : WR w0 ρ M w) (h2 : WR (reb ρ M w) ρ2 M' w') : WR w0 ρ2 M' w' ∧ ∀ g, Lone w0 ρ M w g → w'.heap[g]? = w.heap[g]? ∧ Lone w0 ρ2 M' w' g := by
  have own : ∀ k, (reb ρ M w).mine k = true → w0.w.heap.size ≤ k ∨ w0.mine k = true := fun k hk => by
    obtain ⟨b, B, t, q1, q2⟩ := reb_mine.1 hk
    obtain ⟨g, tot, r1, r2, _⟩ := h.blk b B q1
    rw [q2] at r1; simp at r1
    rw [r1.1]; exact r2
  have old : ∀ k, k < w0.w.heap.size → w0.mine k = false → (reb ρ M w).mine k = false := fun k hk hm => by
    cases hc : (reb ρ M w).mine k with
    | false => rfl
    | true =>
      rcases own k hc with q3 | q3
      · omega
      · rw [hm] at q3; cases q3
  refine ⟨⟨⟨h2.keep.os.trans h.keep.os, h2.keep.tape.trans h.keep.tape, h2.keep.output.trans h.keep.output, Nat.le_trans h.keep.size h2.keep.size, fun k hk hm => ?_⟩, h2.dom, fun b B h3 => ?_, h2.inj⟩, fun g hL => ?_⟩
  · rw [h2.keep.block k (Nat.lt_of_lt_of_le hk h.keep.size) (old k hk hm)]
    exact h.keep.block k hk hm
  · obtain ⟨g, tot, q0, q1, q3⟩ := h2.blk b B h3
    refine ⟨g, tot, q0, ?_, q3⟩
    rcases q1 with q1 | q1
    · have hsz := h.keep.size
      left
      have : w.heap.size ≤ g := q1
      omega
    · exact own g q1
  · have hmf : (reb ρ M w).mine g = false := by
      cases hc : (reb ρ M w).mine g with
      | false => rfl
      | true =>
        obtain ⟨b, B, t, q1, q2⟩ := reb_mine.1 hc
        exact (hL.dead b B t q1 q2).elim
    refine ⟨h2.keep.block g hL.lt hmf, hL.ge, Nat.lt_of_lt_of_le hL.lt h2.keep.size, fun b B t q1 q2 => ?_⟩
    obtain ⟨g', tot, r0, q3, _⟩ := h2.blk b B q1
    rw [q2] at r0; simp at r0
    obtain ⟨rfl, rfl⟩ := r0
    rcases q3 with q3 | q3
    · have := hL.lt
      have : w.heap.size ≤ g := q3
      omega
    · rw [hmf] at q3; cases q3
theorem evOp1_framed {P : Program} (hP : Plainly P) {call : CallF} (hcall : CallOk P call) {w0 : Base} {ρ : Rho} {M M' : Mem} {w : World} {F : Fr} {a : Act} (hF : FR ρ F a) (hW : WR w0 ρ M w) {o : Oper} {v : AV} (he : evOp1 P call F M o = some (v, M'))
    {K : Act → World → Prop} {Q : Exit → Act → World → Prop} (hK : ∀ ρ' u w', Ext ρ ρ' → rel ρ' v u → WR w0 ρ' M' w' → (∀ g, Lone w0 ρ M w g → w'.heap[g]? = w.heap[g]? ∧ Lone w0 ρ' M' w' g) → K (a.put o.dst u) w') : o.wp P a w K Q :=
  evOp1_sound hP hcall hF (reb_wr hW) he fun ρ2 u w' q1 q2 q3 => by
    obtain ⟨r2, r4⟩ := back_wr hW q3
    exact hK _ u w' q1 q2 r2 r4
theorem run_alloc {P : Program} {ev : Operand → Value} {o : Oper} {t : TypeId} {z : Value} (ho : o.op = .alloc t) (hz : zeroA P t = some z) (w : World) : (execOp ev o).run P w = .ok (.value (.pointer (some ⟨w.heap.size, 0, none⟩))) (w.alloc (.cells z.cells t (0, 0))) := by
  unfold execOp
  simp only [ho]
  simp [Instr.alloc, run_zeroA hz, newVar, newRow]
theorem ev_alloc {P : Program} {call : CallF} {F : Fr} {M : Mem} {o : Oper} {t : TypeId} {z : Value} (ho : o.op = .alloc t) (hz : zeroA P t = some z) (w : World) : evOp1 P call F M o = some (.ptr M.top 0, M.push ⟨cellsA (.lit z), t⟩) := by
  have hno : ∀ x ∈ o.op.operands, evX F x = evX [] x := fun x hx => by simp [ho, Op.operands] at hx
  have hr : evRead P F M o = none := by
    cases hr : evRead P F M o with
    | none => rfl
    | some v =>
      exfalso
      rw [evRead_congr hno, evRead_mem (o := o) (M' := ⟨0, []⟩) (by simp [isLoad, ho])] at hr
      obtain ⟨u, _, h2⟩ := evRead_sound (F := []) (a := ⟨#[], []⟩) ⟨rfl, fun t v h => by simp at h, rfl⟩ (WR.start w) hr
      have h3 := h2 w rfl
      rw [run_alloc ho hz w] at h3
      simp only [Result.ok.injEq] at h3
      have h4 := congrArg (fun w => w.heap.size) h3.2
      simp at h4
  unfold evOp1
  split
  · rename_i c hc; rw [ho] at hc; cases hc
  · rw [evOp_def, hr]
    simp only
    unfold evEff
    rw [ho]
    simp only [eAlloc, hz, obind]
def Holds (ρ : Rho) (B : Blk) (cur : Array Value) : Prop := ∀ (i : Nat) (v : AV), B.cells[i]? = some v → ∃ u, cur[i]? = some u ∧ rel ρ v u
theorem Holds.ext {ρ ρ' : Rho} {B : Blk} {cur : Array Value} (h : Holds ρ B cur) (he : Ext ρ ρ') : Holds ρ' B cur := fun i v hv => by
  obtain ⟨u, h1, h2⟩ := h i v hv
  exact ⟨u, h1, h2.ext he⟩
structure Made (es : List (AV × Mem)) (M0 : Mem) (ρ : Rho) (e : Nat) (g : Nat) (B : Blk) (cur : Array Value) (u : Value) : Prop where
  mem : memAt es M0 (e + 1) = (memAt es M0 e).push B
  holds : Holds ρ B cur
  val : ∀ v M', es[e]? = some (v, M') → ∀ ρ' : Rho, ρ' (memAt es M0 e).top = some (g, cur.size) → rel ρ' v u
theorem Made.ext {es : List (AV × Mem)} {M0 : Mem} {ρ ρ' : Rho} {e g : Nat} {B : Blk} {cur : Array Value} {u : Value} (h : Made es M0 ρ e g B cur u) (he : Ext ρ ρ') : Made es M0 ρ' e g B cur u := ⟨h.mem, h.holds.ext he, h.val⟩
theorem build_make {P : Program} {ρ : Rho} {M M' : Mem} {t : TypeId} {len : Nat} {ps : List (Nat × AV)} {ups : Array (Nat × Value)} {v : AV} (hl : ps.length = ups.toList.length)
    (hp : ∀ (i : Nat) (p : Nat × AV) (q : Nat × Value), ps[i]? = some p → ups.toList[i]? = some q → p.1 = q.1 ∧ rel ρ p.2 q.2) (he : evBuildSlice P M t len ps = some (v, M')) :
    ∃ cur B, (∀ w : World, (Instr.buildSlice t len ups).run P w = .ok (.slice (some ⟨w.heap.size, 0, none⟩) len len) (w.alloc (.cells cur B.elem (0, 0)))) ∧ M' = M.push B ∧ Holds ρ B cur ∧ ∀ (ρ' : Rho) (g : Nat), ρ' M.top = some (g, cur.size) → rel ρ' v (.slice (some ⟨g, 0, none⟩) len len) := by
  unfold evBuildSlice at he
  split at he
  · rename_i e s hse
    obtain ⟨hu, hs⟩ := sliceElem_spec hse
    split at he
    · rename_i z hz
      split at he
      · rename_i hsm
        split at he
        · rename_i cs hf
          split at he
          · rename_i hlen
            simp at he
            obtain ⟨rfl, rfl⟩ := he
            obtain ⟨uo, h1, h2⟩ := fillA_sound ps ups.toList _ ((Array.range (len * s)).map (fun i => z.cells[i % z.cells.size]!)) cs hl hp (rels.lits _) hf
            have h3 := h2.len
            refine ⟨uo, ⟨cs, e⟩, fun w => ?_, rfl, fun i x hx => (by obtain ⟨y, h4, h5⟩ := h2.get i x hx; exact ⟨y, by simpa using h4, h5⟩), fun ρ' g hg => ?_⟩
            · have h16 : ¬ (len * s > 2 ^ 24) := by omega
              by_cases h0 : len * s = 0
              · have hb : ((Array.range (len * s)).map (fun i => z.cells[i % z.cells.size]!)) = #[] := by simp [h0]
                rw [hb] at h1
                have hr : (Array.map (fun (x : Nat) => (default : Value)) (Array.range 0)) = #[] := Array.eq_empty_of_size_eq_zero (by simp)
                simp [Instr.buildSlice, run_underlying hu, run_szT hs, h0, newRow]
                rw [hr, h1]
                simp
              · have h16' : ¬ (16777216 < len * s) := by omega
                simp [Instr.buildSlice, run_underlying hu, run_szT hs, h0, run_zeroA hz, h16', h1, newRow]
            · simp only [rel]
              refine ⟨_, _, len, hg, rfl, Nat.le_refl _, ?_, fun k hk => by simpa using hk, ?_⟩
              · have := hsm.2; unfold maxLen; omega
              · simp only [Array.length_toList] at h3; omega
          · cases he
        · cases he
      · cases he
    · cases he
  · cases he
theorem early_make {P : Program} {call : CallF} {ρ : Rho} {M M' : Mem} {F : Fr} {a : Act} (hF : FR ρ F a) {o : Oper} (hc : (∃ t z, o.op = .alloc t ∧ zeroA P t = some z) ∨ ∃ t n ps, o.op = .buildSlice t n ps) {v : AV} (he : evOp1 P call F M o = some (v, M')) (hnl : ∀ u, v ≠ .lit u) (w : World) :
    ∃ u cur B, (execOp a.eval o).run P w = .ok (.value u) (w.alloc (.cells cur B.elem (0, 0))) ∧ M' = M.push B ∧ Holds ρ B cur ∧ ∀ ρ' : Rho, ρ' M.top = some (w.heap.size, cur.size) → rel ρ' v u := by
  rcases hc with ⟨t, z, hop, hz⟩ | ⟨t, n, ps, hop⟩
  · rw [ev_alloc hop hz w] at he
    simp only [Option.some.injEq, Prod.mk.injEq] at he
    obtain ⟨rfl, rfl⟩ := he
    refine ⟨_, z.cells, ⟨cellsA (.lit z), t⟩, run_alloc hop hz w, rfl, fun k x hx => ?_, fun ρ' hr => ?_⟩
    · obtain ⟨y, r1, r2⟩ := (show rel ρ (.lit z) z by simp [rel]).cells.get k x hx
      exact ⟨y, by simpa using r1, r2⟩
    · simp only [rel]
      exact ⟨_, _, hr, rfl⟩
  · unfold evOp1 at he
    split at he
    · rename_i c hc; rw [hop] at hc; cases hc
    · rw [evOp_def] at he
      split at he
      · rename_i v' hr
        exfalso
        simp at he
        obtain ⟨rfl, _⟩ := he
        rw [evRead_def] at hr
        have e1 : evRead' P F M o = none := by unfold evRead'; rw [hop]
        rw [e1] at hr
        simp only at hr
        unfold evPure at hr
        split at hr
        · split at hr
          · simp at hr; exact hnl _ hr.symm
          · cases hr
        · cases hr
      · unfold evEff at he
        rw [hop] at he
        simp only [eSlice] at he
        obtain ⟨l, hl, he⟩ := obind_some he
        obtain ⟨h1, h2⟩ := partsX_sound hF _ _ hl
        have e : (ps.map fun (p : Nat × Operand) => (p.1, a.eval p.2)).toList = ps.toList.map fun p => (p.1, a.eval p.2) := by simp
        obtain ⟨cur, B, k1, k2, k3, k4⟩ := build_make (ups := ps.map fun (p : Nat × Operand) => (p.1, a.eval p.2)) (ρ := ρ) (by rw [e]; exact h1) (by rw [e]; exact h2) he
        refine ⟨_, cur, B, ?_, k2, k3, fun ρ' hr => k4 ρ' _ hr⟩
        unfold execOp
        rw [hop]
        simp only [Sem.run_bind]
        rw [show (ps.map fun (x : Nat × Operand) => (x.1, a.eval x.2)) = ps.map fun (p : Nat × Operand) => (p.1, a.eval p.2) from rfl, k1 w]
        rfl
theorem upd_other (ρ : Rho) (b : Nat) (x : Nat × Nat) {b' : Nat} (h : b' ≠ b) : upd ρ b x b' = ρ b' := by unfold upd; rw [if_neg h]
theorem WR.adopt {w0 : Base} {ρ : Rho} {M : Mem} {w : World} (h : WR w0 ρ M w) (B : Blk) {us : Array Value} {g : Nat} (hg : w.heap[g]? = some (.cells us B.elem (0, 0))) (hL : Lone w0 ρ M w g) (hx : ∀ (i : Nat) (v : AV), B.cells[i]? = some v → ∃ u, us[i]? = some u ∧ rel ρ v u) : WR w0 (upd ρ M.top (g, us.size)) (M.push B) w := by
  have hE := h.fresh (g, us.size)
  have key : ∀ (b : Nat) (C : Blk) (g' t : Nat), (M.push B).get b = some C → upd ρ M.top (g, us.size) b = some (g', t) → (b = M.top ∧ C = B ∧ g' = g ∧ t = us.size) ∨ (b < M.top ∧ M.get b = some C ∧ ρ b = some (g', t)) := fun b C g' t hb hr => by
    rcases Mem.get_push hb with ⟨rfl, rfl⟩ | ⟨hlt, hb'⟩
    · rw [upd_same] at hr; simp at hr; exact .inl ⟨rfl, rfl, hr.1.symm, hr.2.symm⟩
    · rw [upd_other _ _ _ (by omega)] at hr
      exact .inr ⟨hlt, hb', hr⟩
  refine ⟨h.keep, fun b x hb => ?_, fun b C hb => ?_, fun b b' C C' g' t t' h1 h2 h3 h4 => ?_⟩
  · simp only [Mem.push]
    by_cases e : b = M.top
    · omega
    · rw [upd_other _ _ _ e] at hb
      have := h.dom b x hb; omega
  · rcases Mem.get_push hb with ⟨rfl, rfl⟩ | ⟨hlt, hb'⟩
    · refine ⟨g, us.size, upd_same _ _ _, .inl hL.ge, us, hg, rfl, fun i v hv => ?_⟩
      obtain ⟨u, r1, r2⟩ := hx i v hv
      exact ⟨u, r1, r2.ext hE⟩
    · obtain ⟨g', tot, e1, e2, cur, e3, e4, e5⟩ := h.blk b C hb'
      refine ⟨g', tot, hE _ _ e1, e2, cur, e3, e4, fun i v hv => ?_⟩
      obtain ⟨u, r1, r2⟩ := e5 i v hv
      exact ⟨u, r1, r2.ext hE⟩
  · rcases key b C g' t h1 h3 with ⟨e1, _, e2, _⟩ | ⟨e1, e2, e3⟩ <;> rcases key b' C' g' t' h2 h4 with ⟨f1, _, f2, _⟩ | ⟨f1, f2, f3⟩
    · omega
    · subst e2; exact (hL.dead b' C' t' f2 f3).elim
    · subst f2; exact (hL.dead b C t e2 e3).elim
    · exact h.inj b b' C C' g' t t' e2 f2 e3 f3
theorem WR.extra {w0 : Base} {ρ : Rho} {M : Mem} {w : World} (h : WR w0 ρ M w) (o : Obj) : WR w0 ρ M (w.alloc o) :=
  ⟨h.keep.alloc o, h.dom, fun b B h1 => by
    obtain ⟨g, tot, q0, q1, cur, q3, q4, q5⟩ := h.blk b B h1
    exact ⟨g, tot, q0, q1, cur, by rw [heap_alloc_old w _ (Array.getElem?_eq_some_iff.1 q3).1]; exact q3, q4, q5⟩, h.inj⟩
structure Done (P : Program) (ops : Array Oper) (es : List (AV × Mem)) (F0 : Fr) (listed : Array Bool) (i0 : Nat) (ρ : Rho) (a : Act) : Prop where
  size : F0.length = a.tmps.size
  defers : a.defers = []
  wrote : ∀ (j : Nat) (o : Oper) (t : Nat) (v : AV) (M : Mem), ops[j]? = some o → o.dst = some t → listed.getD j false = true → (fl P ops j = true → j < i0) → es[j]? = some (v, M) → t < a.tmps.size → rel ρ v (a.tmps.getD t undef)
  stood : ∀ (t : Nat) (v : AV), (∀ (j : Nat) (o : Oper), ops[j]? = some o → o.dst = some t → listed.getD j false = false) → F0[t]? = some (some v) → rel ρ v (a.tmps.getD t undef)
theorem Done.ext {P : Program} {ops : Array Oper} {es : List (AV × Mem)} {F0 : Fr} {listed : Array Bool} {i0 : Nat} {ρ ρ' : Rho} {a : Act} (h : Done P ops es F0 listed i0 ρ a) (he : Ext ρ ρ') : Done P ops es F0 listed i0 ρ' a :=
  ⟨h.size, h.defers, fun j o t v M h1 h2 h3 h6 h4 h5 => (h.wrote j o t v M h1 h2 h3 h6 h4 h5).ext he, fun t v h1 h2 => (h.stood t v h1 h2).ext he⟩
def Closed (ops : Array Oper) (listed : Array Bool) : Prop := ∀ (i : Nat) (o : Oper), ops[i]? = some o → listed.getD i false = true → ∀ p ∈ preds o, listed.getD p false = true
theorem Closed.reach {ops : Array Oper} {listed : Array Bool} (h : Closed ops listed) {i j : Nat} (hr : Reach ops i j) : listed.getD i false = true → listed.getD j false = true := by
  induction hr with
  | one ho hp => exact fun hi => h _ _ ho hi _ hp
  | more ho hp _ ih => exact fun hi => ih (h _ _ ho hi _ hp)
theorem Closed.ready {ops : Array Oper} {listed : Array Bool} (h : Closed ops listed) {i j : Nat} {o : Oper} (ho : ops[i]? = some o) (hp : ∀ p ∈ preds o, listed.getD p false = true) (hr : Reach ops i j) : listed.getD j false = true := by
  cases hr with
  | one ho' hj => rw [ho] at ho'; simp at ho'; subst ho'; exact hp _ hj
  | more ho' hq hr' => rw [ho] at ho'; simp at ho'; subst ho'; exact h.reach hr' (hp _ hq)
theorem getD_setB (listed : Array Bool) (i j : Nat) (d : Bool) : (listed.setIfInBounds i true).getD j d = if i = j ∧ i < listed.size then true else listed.getD j d := by
  rw [Array.getD_eq_getD_getElem?, Array.getElem?_setIfInBounds, Array.getD_eq_getD_getElem?]
  by_cases h : i = j
  · subst h
    by_cases h2 : i < listed.size
    · simp [h2]
    · simp [h2]
  · simp [h]
theorem Done.at {P : Program} {ops : Array Oper} (hS : StatOk P ops) {es : List (AV × Mem)} {F0 : Fr} {listed : Array Bool} {i0 : Nat} {ρ : Rho} {a : Act} (h : Done P ops es F0 listed i0 ρ a) (hl : es.length = ops.size) (hc : Closed ops listed) {i : Nat} {o : Oper} (ho : ops[i]? = some o)
    (hi : listed.getD i false = false) (hp : ∀ p ∈ preds o, listed.getD p false = true) (hnf : ∀ (j : Nat) (p : Oper) (d : Tmp), ops[j]? = some p → j < i → fl P ops j = true → p.dst = some d → d ∈ o.looksAt ops → j < i0) : FR ρ (rst (frAt ops.toList es F0 i) (o.looksAt ops)) a := by
  have hlt : i < ops.size := (Array.getElem?_eq_some_iff.1 ho).1
  have h0 := (frAt_get ops.toList es F0 i 0 (by simp; omega) (by simpa using hl)).1
  refine ⟨by simp [rst, h0, h.size], fun t v hv => ?_, h.defers⟩
  obtain ⟨ht, hv'⟩ := rst_some hv
  rcases (frAt_get ops.toList es F0 i t (by simp; omega) (by simpa using hl)).2 with ⟨j, p, v', M', q1, q2, q3, q4, q5⟩ | ⟨q1, q2⟩
  · have e := q5 v hv'
    subst e
    have hj : ops[j]? = some p := by simpa using q2
    have hd : listed.getD j false = true := by
      rcases hS.look i o j p t ho hj (by omega) q3 ht with hr | hr
      · exact hc.ready ho hp hr
      · have := hr.lt hS; omega
    have hsz : t < a.tmps.size := by
      rw [← h.size, ← h0]
      exact (List.getElem?_eq_some_iff.1 hv').1
    exact h.wrote j p t v M' hj q3 hd (fun hf => hnf j p t hj q1 hf q3 ht) q4 hsz
  · rw [q2] at hv'
    refine h.stood t v (fun j p hj hd => ?_) hv'
    by_cases hji : j = i
    · subst hji; exact hi
    · have hge : ¬ j < i := fun hlt' => q1 j p hlt' (by simpa using hj) hd
      rcases hS.look i o j p t ho hj hji hd ht with hr | hr
      · have := hr.lt hS; omega
      · cases hlj : listed.getD j false with
        | false => rfl
        | true => rw [hc.reach hr hlj] at hi; cases hi
theorem Done.step {P : Program} {ops : Array Oper} (hS : StatOk P ops) {es : List (AV × Mem)} {F0 : Fr} {listed : Array Bool} {i0 : Nat} {ρ : Rho} {a : Act} (h : Done P ops es F0 listed i0 ρ a) {i : Nat} {o : Oper} (ho : ops[i]? = some o) (hlt : i < listed.size) {v : AV} {M : Mem} (hv : es[i]? = some (v, M)) {u : Value} (hu : (fl P ops i = true → i < i0) → rel ρ v u) :
    Done P ops es F0 (listed.setIfInBounds i true) i0 ρ (a.put o.dst u) := by
  have hsz : (a.put o.dst u).tmps.size = a.tmps.size := by cases o.dst <;> simp [Act.put]
  refine ⟨by rw [hsz]; exact h.size, by cases hd : o.dst <;> simp [Act.put, h.defers], fun j p t v' M' hj hd hl hfl he ht => ?_, fun t v' hn hF => ?_⟩
  · rw [hsz] at ht
    by_cases hji : j = i
    · subst hji
      rw [ho] at hj; simp at hj; subst hj
      rw [hv] at he; simp at he
      obtain ⟨rfl, rfl⟩ := he
      rw [hd]
      simp only [Act.put, Array.getD_eq_getD_getElem?, Array.getElem?_setIfInBounds, if_true, if_pos ht]
      exact hu hfl
    · rw [getD_setB, if_neg (by omega)] at hl
      have := h.wrote j p t v' M' hj hd hl hfl he ht
      cases hod : o.dst with
      | none => exact this
      | some d =>
        have hne : d ≠ t := fun e => by
          subst e
          exact hS.apart i o j p d ho hj hji hd hod
        simp only [Act.put, Array.getD_eq_getD_getElem?, Array.getElem?_setIfInBounds]
        rw [if_neg hne, ← Array.getD_eq_getD_getElem?]
        exact this
  · have hno : o.dst ≠ some t := fun e => by
      have := hn i o ho e
      rw [getD_setB, if_pos ⟨rfl, hlt⟩] at this
      cases this
    have := h.stood t v' (fun j p hj hd => by
      have := hn j p hj hd
      rw [getD_setB] at this
      split at this
      · cases this
      · exact this) hF
    cases hod : o.dst with
    | none => exact this
    | some d =>
      simp only [Act.put, Array.getD_eq_getD_getElem?, Array.getElem?_setIfInBounds]
      rw [if_neg (fun e => hno (by rw [hod, e])), ← Array.getD_eq_getD_getElem?]
      exact this
def Early (P : Program) (ops : Array Oper) (listed : Array Bool) (i0 e : Nat) : Prop := fl P ops e = true ∧ i0 ≤ e ∧ listed.getD e false = true
structure St (P : Program) (ops : Array Oper) (es : List (AV × Mem)) (F0 : Fr) (M0 : Mem) (w0 : Base) (ρ0 : Rho) (listed : Array Bool) (a : Act) (w : World) (ρ : Rho) (i0 : Nat) (G : Nat → Nat) : Prop where
  ext : Ext ρ0 ρ
  wr : WR w0 ρ (memAt es M0 i0) w
  done : Done P ops es F0 listed i0 ρ a
  early : ∀ (e : Nat) (o : Oper), ops[e]? = some o → Early P ops listed i0 e → ∃ u cur B, (∀ d, o.dst = some d → d < a.tmps.size → a.tmps.getD d undef = u) ∧ w.heap[G e]? = some (.cells cur B.elem (0, 0)) ∧ Lone w0 ρ (memAt es M0 i0) w (G e) ∧ Made es M0 ρ e (G e) B cur u
  two : ∀ e e', Early P ops listed i0 e → Early P ops listed i0 e' → G e = G e' → e = e'
structure Inv (P : Program) (ops : Array Oper) (es : List (AV × Mem)) (F0 : Fr) (M0 : Mem) (w0 : Base) (ρ0 : Rho) (listed : Array Bool) (a : Act) (w : World) : Prop where
  size : listed.size = ops.size
  closed : Closed ops listed
  st : ∃ (ρ : Rho) (i0 : Nat) (G : Nat → Nat), (i0 = 0 ∨ ∃ (e : Nat) (o : Oper), ops[e]? = some o ∧ isEff o = true ∧ i0 = e + 1) ∧
    (∀ (e : Nat) (o : Oper), ops[e]? = some o → isEff o = true → e < i0 → listed.getD e false = true) ∧
    (∀ (e : Nat) (o : Oper), ops[e]? = some o → isEff o = true → fl P ops e = false → listed.getD e false = true → e < i0) ∧
    St P ops es F0 M0 w0 ρ0 listed a w ρ i0 G
theorem mem_same {P : Program} {call : CallF} {ops : Array Oper} {es : List (AV × Mem)} {F0 : Fr} {M0 : Mem} (hs : evSeq P call ops ops.toList F0 M0 = some es) : ∀ (k i : Nat), i + k ≤ ops.size → (∀ (e : Nat) (o : Oper), i ≤ e → e < i + k → ops[e]? = some o → isEff o = false) → memAt es M0 (i + k) = memAt es M0 i
  | 0, i, _, _ => rfl
  | k + 1, i, hle, hn => by
    have ih := mem_same hs k i (by omega) (fun e o h1 h2 h3 => hn e o h1 (by omega) h3)
    have hlt : i + k < ops.size := by omega
    have ho : ops.toList[i + k]? = some ops[i + k] := by simp [hlt]
    obtain ⟨_, h2⟩ := evSeq_spec _ _ _ _ hs
    obtain ⟨v, _, h3⟩ := h2 (i + k) _ ho
    have hne := hn (i + k) ops[i + k] (by omega) (by omega) (by simp [hlt])
    have : memAt es M0 (i + k + 1) = memAt es M0 (i + k) := by
      rcases h3 with ⟨_, h4, _⟩ | ⟨_, _, _, h4⟩ | ⟨_, _, h4⟩
      · rw [hne] at h4; cases h4
      · exact h4
      · exact h4
    rw [← ih, ← this]; rfl
theorem Lone.extra {w0 : Base} {ρ : Rho} {M : Mem} {w : World} {g : Nat} (h : Lone w0 ρ M w g) (o : Obj) : Lone w0 ρ M (w.alloc o) g := ⟨h.ge, by have := h.lt; simp; omega, h.dead⟩
theorem Done.up {P : Program} {ops : Array Oper} {es : List (AV × Mem)} {F0 : Fr} {listed : Array Bool} {i0 : Nat} {ρ : Rho} {a : Act} (h : Done P ops es F0 listed i0 ρ a) (hf : fl P ops i0 = false) : Done P ops es F0 listed (i0 + 1) ρ a :=
  ⟨h.size, h.defers, fun j o t v M h1 h2 h3 h6 h4 h5 => h.wrote j o t v M h1 h2 h3 (fun hh => by
    have := h6 hh
    have hne : j ≠ i0 := fun e => by subst e; rw [hf] at hh; cases hh
    omega) h4 h5, h.stood⟩
theorem St.next {P : Program} {call : CallF} {ops : Array Oper} (hS : StatOk P ops) {es : List (AV × Mem)} {F0 : Fr} {M0 : Mem} {w0 : Base} {ρ0 : Rho} (hs : evSeq P call ops ops.toList F0 M0 = some es) {listed : Array Bool} {a : Act} {w : World} {ρ : Rho} {i0 : Nat} {G : Nat → Nat}
    (h : St P ops es F0 M0 w0 ρ0 listed a w ρ i0 G) {o : Oper} (ho : ops[i0]? = some o) (hc : isEff o = false ∨ (fl P ops i0 = true ∧ listed.getD i0 false = true)) : ∃ ρ', St P ops es F0 M0 w0 ρ0 listed a w ρ' (i0 + 1) G := by
  obtain ⟨hlen, hspec⟩ := evSeq_spec _ _ _ _ hs
  have hlt : i0 < ops.size := (Array.getElem?_eq_some_iff.1 ho).1
  have down : ∀ e, Early P ops listed (i0 + 1) e → Early P ops listed i0 e := fun e he => ⟨he.1, by have := he.2.1; omega, he.2.2⟩
  rcases hc with hc | ⟨hf, hl⟩
  · have hm : memAt es M0 (i0 + 1) = memAt es M0 i0 := mem_same hs 1 i0 (by omega) (fun e o' h1 h2 h3 => by
      have e' : e = i0 := by omega
      subst e'
      rw [ho] at h3; simp at h3; subst h3
      exact hc)
    have hnf : fl P ops i0 = false := by
      cases hh : fl P ops i0 with
      | false => rfl
      | true => rw [fl_eff ho hh] at hc; cases hc
    refine ⟨ρ, h.ext, by rw [hm]; exact h.wr, h.done.up hnf, fun e o' h1 he => ?_, fun e e' h1 h2 h3 => h.two e e' (down e h1) (down e' h2) h3⟩
    rw [hm]
    exact h.early e o' h1 (down e he)
  · have hEff := fl_eff ho hf
    obtain ⟨v, hv, hstep⟩ := hspec i0 o (by simpa using ho)
    have hE0 : Early P ops listed i0 i0 := ⟨hf, Nat.le_refl _, hl⟩
    obtain ⟨u, cur, B, q1, q2, q3, q4⟩ := h.early i0 o ho hE0
    have hm : (memAt es M0 i0).push B = memAt es M0 (i0 + 1) := q4.mem.symm
    have hfr := h.wr.fresh (G i0, cur.size)
    refine ⟨upd ρ (memAt es M0 i0).top (G i0, cur.size), h.ext.trans hfr, ?_, ⟨h.done.size, h.done.defers, fun j p d v' M' h1 h2 h3 h6 h4 h5 => ?_, fun d v' h1 h2 => (h.done.stood d v' h1 h2).ext hfr⟩, fun e o' h1 he => ?_, fun e e' h1 h2 h3 => h.two e e' (down e h1) (down e' h2) h3⟩
    · rw [← hm]
      exact h.wr.adopt B q2 q3 q4.holds
    · by_cases hj : j = i0
      · subst hj
        rw [ho] at h1; simp at h1; subst h1
        rw [q1 d h2 h5]
        exact q4.val v' M' h4 _ (upd_same _ _ _)
      · exact (h.done.wrote j p d v' M' h1 h2 h3 (fun hh => by have := h6 hh; omega) h4 h5).ext hfr
    · obtain ⟨u', cur', B', r1, r2, r3, r4⟩ := h.early e o' h1 (down e he)
      refine ⟨u', cur', B', r1, r2, ⟨r3.ge, r3.lt, fun b C tt hb hr => ?_⟩, r4.ext hfr⟩
      rw [← hm] at hb
      rcases Mem.get_push hb with ⟨rfl, _⟩ | ⟨hlt', hb'⟩
      · rw [upd_same] at hr
        simp at hr
        have := h.two i0 e hE0 (down e he) hr.1
        have := he.2.1
        omega
      · rw [upd_other _ _ _ (by omega)] at hr
        exact r3.dead b C tt hb' hr
theorem St.upto {P : Program} {call : CallF} {ops : Array Oper} (hS : StatOk P ops) {es : List (AV × Mem)} {F0 : Fr} {M0 : Mem} {w0 : Base} {ρ0 : Rho} (hs : evSeq P call ops ops.toList F0 M0 = some es) {listed : Array Bool} {a : Act} {w : World} {i0 : Nat} {G : Nat → Nat} : ∀ (k : Nat) {ρ : Rho},
    St P ops es F0 M0 w0 ρ0 listed a w ρ i0 G → i0 + k ≤ ops.size → (∀ (e : Nat) (o : Oper), i0 ≤ e → e < i0 + k → ops[e]? = some o → isEff o = false ∨ (fl P ops e = true ∧ listed.getD e false = true)) → ∃ ρ', St P ops es F0 M0 w0 ρ0 listed a w ρ' (i0 + k) G
  | 0, ρ, h, _, _ => ⟨ρ, h⟩
  | k + 1, ρ, h, hk, hc => by
    obtain ⟨ρ1, h1⟩ := St.upto hS hs k h (by omega) (fun e o q1 q2 q3 => hc e o q1 (by omega) q3)
    have hlt : i0 + k < ops.size := by omega
    exact St.next hS hs h1 (o := ops[i0 + k]) (by simp [hlt]) (hc (i0 + k) ops[i0 + k] (by omega) (by omega) (by simp [hlt]))
theorem inv_op {P : Program} (hP : Plainly P) {call : CallF} (hcall : CallOk P call) {ops : Array Oper} (hS : StatOk P ops) {es : List (AV × Mem)} {F0 : Fr} {M0 : Mem} {w0 : Base} {ρ0 : Rho} (hs : evSeq P call ops ops.toList F0 M0 = some es) (hL : loadsOk P ops es F0 M0 = true)
    {listed : Array Bool} {a : Act} {w : World} (h : Inv P ops es F0 M0 w0 ρ0 listed a w) {i : Nat} (hi : i ∈ Region.ready .any ops listed) {Q : Exit → Act → World → Prop} {K : Act → World → Prop} (hK : ∀ a' w', Inv P ops es F0 M0 w0 ρ0 (listed.setIfInBounds i true) a' w' → K a' w') :
    wpOp P ops Q i K a w := by
  obtain ⟨hi0, o, ho, hpre⟩ := mem_ready.1 hi
  have hlt : i < ops.size := (Array.getElem?_eq_some_iff.1 ho).1
  have hlt' : i < listed.size := by rw [h.size]; exact hlt
  have hif : listed.getD i false = false := by
    rw [Array.getD_eq_getD_getElem?, Array.getElem?_eq_getElem hlt'] at hi0 ⊢
    simpa using hi0
  have hp : ∀ p ∈ preds o, listed.getD p false = true := fun p hp => by
    obtain ⟨e, he, hb, rfl⟩ := mem_preds.1 hp
    exact hpre e he hb
  obtain ⟨hlen, hspec⟩ := evSeq_spec _ _ _ _ hs
  have hlen' : es.length = ops.size := by simpa using hlen
  obtain ⟨ρ, i0, G, c1, ca, cb, c4⟩ := h.st
  have hi0le : i0 ≤ ops.size := by
    rcases c1 with rfl | ⟨e, o', e1, _, rfl⟩
    · omega
    · have := (Array.getElem?_eq_some_iff.1 e1).1; omega
  obtain ⟨v, hv, hstep⟩ := hspec i o (by simpa using ho)
  have hwA : wantedA ops (rst (frAt ops.toList es F0 i) (o.looksAt ops)) o = wantedA ops (frAt ops.toList es F0 i) o := wantedA_congr fun t ht => rst_get _ _ t ht
  have hclosed : Closed ops (listed.setIfInBounds i true) := fun j p hj hl q hq => by
    rw [getD_setB] at hl ⊢
    split
    · rfl
    · split at hl
      · rename_i _ hij
        have e := hij.1
        subst e
        rw [ho] at hj; simp at hj; subst hj
        exact hp q hq
      · exact h.closed j p hj hl q hq
  have keepL : ∀ e, listed.getD e false = true → (listed.setIfInBounds i true).getD e false = true := fun e he => by
    rw [getD_setB]
    split
    · rfl
    · exact he
  have newL : ∀ e, (listed.setIfInBounds i true).getD e false = true → e = i ∨ listed.getD e false = true := fun e he => by
    rw [getD_setB] at he
    split at he
    · rename_i hh; exact .inl hh.1.symm
    · exact .inr he
  have putO : ∀ (u : Value) (e : Nat) (p : Oper) (d : Tmp), ops[e]? = some p → e ≠ i → p.dst = some d → (a.put o.dst u).tmps.getD d undef = a.tmps.getD d undef := fun u e p d h1 h2 h3 => by
    cases hod : o.dst with
    | none => rfl
    | some x =>
      have hne : x ≠ d := fun ee => by
        subst ee
        exact hS.apart i o e p x ho h1 h2 h3 hod
      simp only [Act.put, Array.getD_eq_getD_getElem?, Array.getElem?_setIfInBounds]
      rw [if_neg hne]
  have putS : ∀ u : Value, (a.put o.dst u).tmps.size = a.tmps.size := fun u => by cases o.dst <;> simp [Act.put]
  have hge : isEff o = true → i0 ≤ i := fun he => by
    rcases Nat.lt_or_ge i i0 with hh | hh
    · have := ca i o ho he hh
      rw [hif] at this; cases this
    · exact hh
  unfold wpOp
  simp only [ho]
  cases hE : isEff o with
  | false =>
    have hnf : fl P ops i = false := by
      cases hh : fl P ops i with
      | false => rfl
      | true => rw [fl_eff ho hh] at hE; cases hE
    have hF := c4.done.at hS hlen' h.closed ho hif hp (fun j p d hj hji hf hd hl => absurd hl (hS.flook i o j p d ho hj (by omega) (.inl hE) hf hd))
    have old : ∀ e, Early P ops (listed.setIfInBounds i true) i0 e → e ≠ i ∧ Early P ops listed i0 e := fun e he => by
      have hne : e ≠ i := fun ee => by
        subst ee
        have h1 := he.1
        rw [hnf] at h1; cases h1
      refine ⟨hne, he.1, he.2.1, ?_⟩
      rcases newL e he.2.2 with h1 | h1
      · exact absurd h1 hne
      · exact h1
    have after : ∀ u, rel ρ v u → Inv P ops es F0 M0 w0 ρ0 (listed.setIfInBounds i true) (a.put o.dst u) w := fun u hu =>
      ⟨by simp [h.size], hclosed, ρ, i0, G, c1, fun e o' h1 h2 h3 => keepL e (ca e o' h1 h2 h3), fun e o' h1 h2 h3 h4 => by
        rcases newL e h4 with h5 | h5
        · subst h5
          rw [ho] at h1; simp at h1; subst h1
          rw [hE] at h2; cases h2
        · exact cb e o' h1 h2 h3 h5, ⟨c4.ext, c4.wr, c4.done.step hS ho hlt' hv (fun _ => hu), fun e o' h1 he => by
        obtain ⟨hne, he'⟩ := old e he
        obtain ⟨u', cur', B', r1, r2, r3⟩ := c4.early e o' h1 he'
        exact ⟨u', cur', B', fun d hd hsz => by rw [putO u e o' d h1 hne hd]; exact r1 d hd (by rw [putS] at hsz; exact hsz), r2, r3⟩, fun e e' h1 h2 h3 => c4.two e e' (old e h1).2 (old e' h2).2 h3⟩⟩
    rcases hstep with ⟨_, h2, _⟩ | ⟨h1, h2, h3, h4⟩ | ⟨h1, h2, h3⟩
    · rw [hE] at h2; cases h2
    · rw [wantedA_sound hF (hwA.trans h1), if_pos rfl]
      left
      have hread : evRead P (rst (frAt ops.toList es F0 i) (o.looksAt ops)) (memAt es M0 i0) o = some v := by
        rw [evRead_congr (F' := frAt ops.toList es F0 i) (fun x hx => rst_ev x hx)]
        cases hld : isLoad o with
        | false => rw [evRead_mem (M' := memAt es M0 i) hld]; exact h3
        | true =>
          unfold loadsOk at hL
          rw [Bool.and_eq_true, List.all_eq_true] at hL
          have := hL.2 (o, i) (mem_zipIdx ho)
          simp only [hld, Bool.not_true, Bool.false_or, List.all_eq_true] at this
          have hm : ∀ p j, ((masks ops.toList []).getD p 0).testBit j = true → Reach ops p j := masks_sound ops.toList [] (fun j => by simp) (fun p j hb => by simp at hb)
          have h5 := this i0 (by
            rcases c1 with rfl | ⟨e, o', e1, e2, rfl⟩
            · simp
            · exact List.mem_cons_of_mem _ (List.mem_map.2 ⟨e, mem_effIdx e1 e2, rfl⟩))
          have hadm : adm (masks ops.toList []) (effIdx ops) i i0 = true := by
            unfold adm
            rw [List.all_eq_true]
            intro e he
            obtain ⟨⟨o', e'⟩, hh1, rfl⟩ := List.mem_map.1 he
            obtain ⟨hh2, hh3⟩ := List.mem_filter.1 hh1
            rw [List.mem_zipIdx_iff_getElem?] at hh2
            have hoe : ops[e']? = some o' := by simpa using hh2
            simp only [Bool.and_eq_true, Bool.or_eq_true, Bool.not_eq_true', decide_eq_true_eq]
            constructor
            · cases hb : ((masks ops.toList []).getD i 0).testBit e' with
              | false => exact .inl rfl
              | true =>
                right
                cases hfe : fl P ops e' with
                | false => exact cb e' o' hoe hh3 hfe (h.closed.ready ho hp (hm _ _ hb))
                | true => rw [hS.fload i o e' o' ho hoe hE hld hfe] at hb; cases hb
            · cases hb : ((masks ops.toList []).getD e' 0).testBit i with
              | false => exact .inl rfl
              | true =>
                right
                rcases Nat.lt_or_ge e' i0 with hh | hh
                · have := h.closed.reach (hm _ _ hb) (ca e' o' hoe hh3 hh)
                  rw [hif] at this; cases this
                · exact hh
          rw [hadm] at h5
          simp only [Bool.not_true, Bool.false_or, loadOk, h1, hv] at h5
          split at h5
          · rename_i x y v1 v2 M2 e1 e2
            simp at e2
            rw [e1, aeq_eq h5, e2.1]
          · cases h5
      obtain ⟨u, q1, q2⟩ := evRead_sound hF c4.wr hread
      unfold Oper.wp
      rw [q2 w rfl]
      exact hK _ _ (after u q1)
    · rw [wantedA_sound hF (hwA.trans h1)]
      simp only [Bool.false_eq_true, if_false]
      subst h2
      exact hK _ _ (after undef (by simp [rel]))
  | true =>
    have hge := hge hE
    cases hfl : fl P ops i with
    | true =>
      obtain ⟨hg, hcase⟩ := fl_spec ho hfl
      have hw : Region.wanted o (yielded ops a.tmps) = true := by unfold Region.wanted; rw [hg]
      rw [hw, if_pos rfl]
      left
      unfold Oper.wp
      have h3e : evOp1 P call (frAt ops.toList es F0 i) (memAt es M0 i) o = some (v, memAt es M0 (i + 1)) := by
        rcases hstep with ⟨_, _, h3⟩ | ⟨_, h2, _⟩ | ⟨h1, _⟩
        · exact h3
        · rw [hE] at h2; cases h2
        · unfold wantedA at h1; rw [hg] at h1; cases h1
      rw [← evOp1_congr (F := rst (frAt ops.toList es F0 i) (o.looksAt ops)) (F' := frAt ops.toList es F0 i) (fun x hx => rst_ev x hx)] at h3e
      have hF := c4.done.at hS hlen' h.closed ho hif hp (fun j p d hj hji hf hd hl => absurd hl (hS.flook i o j p d ho hj (by omega) (.inr hfl) hf hd))
      have hnl : ∀ u, v ≠ .lit u := fun u e => by
        subst e
        unfold loadsOk flOk at hL
        rw [Bool.and_eq_true, List.all_eq_true] at hL
        have := hL.1 (o, i) (mem_zipIdx ho)
        simp [hfl, hv] at this
      obtain ⟨u, cur, B, k1, k2, k3, k4⟩ := early_make hF hcase h3e hnl w
      rw [k1]
      have old : ∀ e, e ≠ i → Early P ops (listed.setIfInBounds i true) i0 e → Early P ops listed i0 e := fun e hne he => by
        refine ⟨he.1, he.2.1, ?_⟩
        rcases newL e he.2.2 with h1 | h1
        · exact absurd h1 hne
        · exact h1
      have hpt : ∀ e, e ≠ i → Early P ops (listed.setIfInBounds i true) i0 e → G e < w.heap.size := fun e hne he => by
        have hlte : e < ops.size := by
          rcases Nat.lt_or_ge e ops.size with hh | hh
          · exact hh
          · have h1 := he.1
            unfold fl flB at h1
            rw [Array.getElem?_eq_none hh] at h1; cases h1
        obtain ⟨_, _, _, _, _, r3, _⟩ := c4.early e ops[e] (by simp [hlte]) (old e hne he)
        exact r3.lt
      refine hK (a.put o.dst u) (w.alloc (.cells cur B.elem (0, 0))) ⟨by simp [h.size], hclosed, ρ, i0, fun e => if e = i then w.heap.size else G e, c1, fun e o' h1 h2 h3 => keepL e (ca e o' h1 h2 h3), fun e o' h1 h2 h3 h4 => ?_, ⟨c4.ext, c4.wr.extra _, c4.done.step hS ho hlt' hv (fun hh => by have := hh hfl; omega), fun e o' h1 he => ?_, fun e e' h1 h2 h3 => ?_⟩⟩
      · rcases newL e h4 with h5 | h5
        · subst h5; rw [hfl] at h3; cases h3
        · exact cb e o' h1 h2 h3 h5
      · by_cases hne : e = i
        · subst hne
          rw [ho] at h1; simp at h1; subst h1
          simp only [if_true]
          refine ⟨u, cur, B, fun d hd hsz => ?_, heap_alloc_new w _, ⟨c4.wr.keep.size, by simp, fun b C tt hb hr => ?_⟩, ⟨k2, k3, fun v' M' hv' ρ' hr => ?_⟩⟩
          · rw [hd] at hsz ⊢
            simp only [Act.put, Array.size_setIfInBounds] at hsz
            simp only [Act.put, Array.getD_eq_getD_getElem?, Array.getElem?_setIfInBounds, if_true, if_pos hsz]
            rfl
          · obtain ⟨g', tot', r0, _, cur', q3, _⟩ := c4.wr.blk b C hb
            rw [hr] at r0; simp at r0
            have := (Array.getElem?_eq_some_iff.1 q3).1
            omega
          · rw [hv] at hv'
            simp only [Option.some.injEq, Prod.mk.injEq] at hv'
            rw [← hv'.1]
            exact k4 ρ' hr
        · obtain ⟨u', cur', B', r1, r2, r3, r4⟩ := c4.early e o' h1 (old e hne he)
          rw [if_neg hne]
          exact ⟨u', cur', B', fun d hd hsz => by rw [putO _ e o' d h1 hne hd]; exact r1 d hd (by rw [putS] at hsz; exact hsz), by rw [heap_alloc_old w _ r3.lt]; exact r2, r3.extra _, r4⟩
      · by_cases hne : e = i
        · by_cases hne' : e' = i
          · rw [hne, hne']
          · rw [if_pos hne, if_neg hne'] at h3
            have := hpt e' hne' h2
            omega
        · by_cases hne' : e' = i
          · rw [if_neg hne, if_pos hne'] at h3
            have := hpt e hne h1
            omega
          · rw [if_neg hne, if_neg hne'] at h3
            exact c4.two e e' (old e hne h1) (old e' hne' h2) h3
    | false =>
      have done : ∀ (e : Nat) (o' : Oper), ops[e]? = some o' → isEff o' = true → e < i → listed.getD e false = true := fun e o' h1 h2 h3 => by
        rcases hS.eff i o e o' ho h1 h3 hE h2 with hr | hr
        · exact h.closed.ready ho hp hr
        · rw [hfl] at hr; cases hr
      obtain ⟨ρ1, s1⟩ := St.upto hS hs (i - i0) c4 (by omega) (fun e o' h1 h2 h3 => by
        cases he : isEff o' with
        | false => exact .inl rfl
        | true =>
          right
          have hl := done e o' h3 he (by omega)
          cases hfe : fl P ops e with
          | true => exact ⟨rfl, hl⟩
          | false => have := cb e o' h3 he hfe hl; omega)
      rw [show i0 + (i - i0) = i by omega] at s1
      have hF := s1.done.at hS hlen' h.closed ho hif hp (fun j p d _ hj _ _ _ => hj)
      have old : ∀ e, Early P ops (listed.setIfInBounds i true) (i + 1) e → e ≠ i ∧ Early P ops listed i e := fun e he => by
        have h1 := he.2.1
        refine ⟨by omega, he.1, by omega, ?_⟩
        rcases newL e he.2.2 with h2 | h2
        · omega
        · exact h2
      have after : ∀ ρ' u w', Ext ρ1 ρ' → rel ρ' v u → WR w0 ρ' (memAt es M0 (i + 1)) w' → (∀ g, Lone w0 ρ1 (memAt es M0 i) w g → w'.heap[g]? = w.heap[g]? ∧ Lone w0 ρ' (memAt es M0 (i + 1)) w' g) → Inv P ops es F0 M0 w0 ρ0 (listed.setIfInBounds i true) (a.put o.dst u) w' := fun ρ' u w' q1 q2 q3 q4 =>
        ⟨by simp [h.size], hclosed, ρ', i + 1, G, .inr ⟨i, o, ho, hE, rfl⟩, fun e o' h1 h2 h3 => by
          by_cases hne : e = i
          · subst hne
            rw [getD_setB, if_pos ⟨rfl, hlt'⟩]
          · exact keepL e (done e o' h1 h2 (by omega)), fun e o' h1 h2 h3 h4 => by
          rcases newL e h4 with h5 | h5
          · omega
          · have := cb e o' h1 h2 h3 h5; omega, ⟨s1.ext.trans q1, q3, ((s1.done.ext q1).step hS ho hlt' hv (fun _ => q2)).up hfl, fun e o' h1 he => by
          obtain ⟨hne, he'⟩ := old e he
          obtain ⟨u', cur', B', r1, r2, r3, r4⟩ := s1.early e o' h1 he'
          obtain ⟨f1, f2⟩ := q4 _ r3
          exact ⟨u', cur', B', fun d hd hsz => by rw [putO u e o' d h1 hne hd]; exact r1 d hd (by rw [putS] at hsz; exact hsz), by rw [f1]; exact r2, f2, r4.ext q1⟩, fun e e' h1 h2 h3 => s1.two e e' (old e h1).2 (old e' h2).2 h3⟩⟩
      rcases hstep with ⟨h1, h2, h3⟩ | ⟨h1, h2, h3, h4⟩ | ⟨h1, h2, h3⟩
      · 
        rw [wantedA_sound hF (hwA.trans h1), if_pos rfl]
        rw [← evOp1_congr (F := rst (frAt ops.toList es F0 i) (o.looksAt ops)) (F' := frAt ops.toList es F0 i) (fun x hx => rst_ev x hx)] at h3
        left
        exact evOp1_framed hP hcall hF s1.wr h3 (Q := Q) fun ρ' u w' q1 q2 q3 q4 => hK _ _ (after ρ' u w' q1 q2 q3 q4)
      · rw [hE] at h2; cases h2
      · rw [wantedA_sound hF (hwA.trans h1)]
        simp only [Bool.false_eq_true, if_false]
        subst h2
        exact hK _ _ (after ρ1 undef w (Ext.refl _) (by simp [rel]) (by rw [h3]; exact s1.wr) (fun g hg => ⟨rfl, by rw [h3]; exact hg⟩))
def unl (listed : Array Bool) : Nat := (listed.toList.filter (!·)).length
theorem unl_zero {listed : Array Bool} (h : unl listed = 0) (j : Nat) : listed.getD j true = true := by
  unfold unl at h
  have h1 := List.eq_nil_of_length_eq_zero h
  rw [List.filter_eq_nil_iff] at h1
  rw [Array.getD_eq_getD_getElem?]
  cases hj : listed[j]? with
  | none => rfl
  | some b =>
    have := h1 b (by have := Array.mem_of_getElem? hj; simpa using this)
    simpa using this
theorem unl_set {listed : Array Bool} {i : Nat} (h : listed.getD i true = false) : unl (listed.setIfInBounds i true) + 1 = unl listed := by
  have hi : listed.toList[i]? = some false := by
    rw [Array.getD_eq_getD_getElem?] at h
    cases hj : listed[i]? with
    | none => rw [hj] at h; cases h
    | some b => rw [hj] at h; simp at h; subst h; simpa using hj
  unfold unl
  rw [Array.toList_setIfInBounds]
  generalize listed.toList = l at hi
  clear h
  induction l generalizing i with
  | nil => simp at hi
  | cons x l ih =>
    cases i with
    | zero => simp at hi; subst hi; simp
    | succ i =>
      have := ih (by simpa using hi)
      cases x <;> simp <;> omega
theorem all_of_ready {P : Program} {ops : Array Oper} (hS : StatOk P ops) {listed : Array Bool} (hs : listed.size = ops.size) (h : Region.ready .any ops listed = []) : ∀ j, j < ops.size → listed.getD j false = true := by
  intro j
  induction j using Nat.strongRecOn with
  | _ j ih =>
    intro hj
    cases hl : listed.getD j false with
    | true => rfl
    | false =>
      exfalso
      have hm : j ∈ Region.ready .any ops listed := mem_ready.2 ⟨by
        rw [Array.getD_eq_getD_getElem?, Array.getElem?_eq_getElem (by omega)] at hl ⊢
        simpa using hl, ops[j], by simp [hj], fun e he hb => by
        have hp : e.on ∈ preds ops[j] := mem_preds.2 ⟨e, he, hb, rfl⟩
        have hlt := hS.back j ops[j] (by simp [hj]) _ hp
        exact ih _ hlt (by omega)⟩
      rw [h] at hm
      cases hm
theorem any_of_inv {P : Program} (hP : Plainly P) {call : CallF} (hcall : CallOk P call) {ops : Array Oper} (hS : StatOk P ops) {es : List (AV × Mem)} {F0 : Fr} {M0 : Mem} {w0 : Base} {ρ0 : Rho} (hs : evSeq P call ops ops.toList F0 M0 = some es) (hL : loadsOk P ops es F0 M0 = true) {Q : Exit → Act → World → Prop}
    (hQ : ∀ ρ' a' w', Ext ρ0 ρ' → FR ρ' (frAt ops.toList es F0 ops.size) a' → WR w0 ρ' (memAt es M0 ops.size) w' → Q .normal a' w') :
    ∀ (fuel : Nat) (listed : Array Bool) (a : Act) (w : World), unl listed = fuel → Inv P ops es F0 M0 w0 ρ0 listed a w → wpAny P .any ops Q fuel listed a w := by
  have fin : ∀ (listed : Array Bool) (a : Act) (w : World), Inv P ops es F0 M0 w0 ρ0 listed a w → Region.ready .any ops listed = [] → Q .normal a w := fun listed a w h hr => by
    have hall := all_of_ready hS h.size hr
    obtain ⟨ρ0', i0, G, c1, ca, cb, c4⟩ := h.st
    obtain ⟨hlen, hspec⟩ := evSeq_spec _ _ _ _ hs
    have hlen' : es.length = ops.size := by simpa using hlen
    have hi0 : i0 ≤ ops.size := by
      rcases c1 with rfl | ⟨e, o, e1, _, rfl⟩
      · omega
      · have := (Array.getElem?_eq_some_iff.1 e1).1; omega
    obtain ⟨ρ, s1⟩ := St.upto hS hs (ops.size - i0) c4 (by omega) (fun e o' h1 h2 h3 => by
      cases he : isEff o' with
      | false => exact .inl rfl
      | true =>
        right
        have hl := hall e (Array.getElem?_eq_some_iff.1 h3).1
        cases hfe : fl P ops e with
        | true => exact ⟨rfl, hl⟩
        | false => have := cb e o' h3 he hfe hl; omega)
    rw [show i0 + (ops.size - i0) = ops.size by omega] at s1
    have c5 := s1.done
    have h0 := (frAt_get ops.toList es F0 ops.size 0 (by simp) (by simpa using hlen')).1
    refine hQ ρ a w s1.ext ⟨by rw [h0, c5.size], fun t v hv => ?_, c5.defers⟩ s1.wr
    rcases (frAt_get ops.toList es F0 ops.size t (by simp) (by simpa using hlen')).2 with ⟨j, p, v', M', q1, q2, q3, q4, q5⟩ | ⟨q1, q2⟩
    · have e := q5 v hv
      subst e
      exact c5.wrote j p t v M' (by simpa using q2) q3 (hall j q1) (fun _ => q1) q4 (by rw [← c5.size, ← h0]; exact (List.getElem?_eq_some_iff.1 hv).1)
    · rw [q2] at hv
      refine c5.stood t v (fun j p hj hd => ?_) hv
      exact absurd hd (q1 j p (Array.getElem?_eq_some_iff.1 hj).1 (by simpa using hj))
  intro fuel
  induction fuel with
  | zero =>
    intro listed a w hu h
    have hr : Region.ready .any ops listed = [] := by
      rcases hx : Region.ready .any ops listed with _ | ⟨x, xs⟩
      · rfl
      · have hm : x ∈ Region.ready .any ops listed := by rw [hx]; simp
        have h1 := (mem_ready.1 hm).1
        rw [unl_zero hu x] at h1
        cases h1
    exact ⟨hr, fin listed a w h hr⟩
  | succ fuel ih =>
    intro listed a w hu h
    refine ⟨fin listed a w h, fun i hi => inv_op hP hcall hS hs hL h hi fun a' w' h' => ih _ a' w' ?_ h'⟩
    have := unl_set (mem_ready.1 hi).1
    omega
theorem evDraw_any {P : Program} (hP : Plainly P) {call : CallF} (hcall : CallOk P call) {w0 : Base} {ops : Array Oper} {ρ : Rho} {F F' : Fr} {M M' : Mem} {w : World} {a : Act} (hF : FR ρ F a) (hW : WR w0 ρ M w)
    (he : evDraw P call ops F M = some (F', M')) {Q : Exit → Act → World → Prop} (hQ : ∀ ρ' a' w', Ext ρ ρ' → FR ρ' F' a' → WR w0 ρ' M' w' → Q .normal a' w') : wpAny P .any ops Q ops.size (Array.replicate ops.size false) a { w with drawn := w.drawn + 1 } := by
  unfold evDraw at he
  split at he
  · rename_i hst
    split at he
    · rename_i es hs
      split at he
      · rename_i hL
        simp only [Option.some.injEq, Prod.mk.injEq] at he
        obtain ⟨rfl, rfl⟩ := he
        have hfalse : ∀ j, (Array.replicate ops.size false).getD j false = false := fun j => by
          rw [Array.getD_eq_getD_getElem?, Array.getElem?_replicate]
          split <;> rfl
        refine any_of_inv hP hcall (stat_spec hst) hs hL hQ ops.size _ a _ ?_ ⟨by simp, ?_, ρ, 0, fun _ => 0, .inl rfl, ?_, ?_, ⟨Ext.refl _, ?_, ⟨hF.len, hF.defers, ?_, ?_⟩, ?_, ?_⟩⟩
        · unfold unl
          rw [Array.toList_replicate, List.filter_replicate]
          simp
        · intro i o ho hl
          rw [hfalse] at hl; cases hl
        · intro e o ho hh hlt
          omega
        · intro e o ho hh hf hl
          rw [hfalse] at hl; cases hl
        · have : memAt es M 0 = M := by cases es <;> rfl
          rw [this]
          exact hW.drew
        · intro j o t v M2 h1 h2 h3
          rw [hfalse] at h3; cases h3
        · intro t v _ hv
          exact hF.val t v hv
        · intro e o _ he
          have := he.2.2
          rw [hfalse] at this; cases this
        · intro e e' he
          have := he.2.2
          rw [hfalse] at this; cases this
      · cases he
    · cases he
  · cases he
end Go.Proofs.Ytlmanlpgknhfpaa.Ev
namespace Go.Proofs.Ytlmanlpgknhfpaa.Ev
open Go Go.RowKit
def renO (pos : Nat → Nat) (o : Oper) : Oper := { o with after := o.after.map fun e => { e with on := pos e.on }, guard := o.guard.map fun g => (pos g.1, g.2) }
structure Renum (ops ops' : Array Oper) (pos : Nat → Nat) : Prop where
  size : ops'.size = ops.size
  at_ : ∀ (i : Nat) (o : Oper), ops[i]? = some o → ops'[pos i]? = some (renO pos o)
  back : ∀ j, j < ops.size → ∃ i, i < ops.size ∧ pos i = j
  inj : ∀ i j, i < ops.size → j < ops.size → pos i = pos j → i = j
  lt : ∀ (i : Nat) (o : Oper), ops[i]? = some o → (∀ e ∈ o.after, e.on < ops.size) ∧ ∀ g, o.guard = some g → g.1 < ops.size
theorem ren_yielded {ops ops' : Array Oper} {pos : Nat → Nat} (h : Renum ops ops' pos) {j : Nat} (hj : j < ops.size) (tmps : Array Value) : yielded ops' tmps (pos j) = yielded ops tmps j := by
  have h1 : ops[j]? = some ops[j] := by simp [hj]
  unfold yielded
  rw [h.at_ j _ h1, h1]
  rfl
theorem ren_wanted {ops ops' : Array Oper} {pos : Nat → Nat} (h : Renum ops ops' pos) {i : Nat} {o : Oper} (ho : ops[i]? = some o) (tmps : Array Value) : Region.wanted (renO pos o) (yielded ops' tmps) = Region.wanted o (yielded ops tmps) := by
  unfold Region.wanted
  have hg := (h.lt i o ho).2
  cases hgd : o.guard with
  | none => simp [renO, hgd]
  | some g =>
    obtain ⟨j, b⟩ := g
    simp only [renO, hgd, Option.map_some]
    rw [ren_yielded h (hg (j, b) hgd)]
theorem ren_wp {P : Program} {pos : Nat → Nat} {o : Oper} {a : Act} {w : World} {K : Act → World → Prop} {Q : Exit → Act → World → Prop} (h : (renO pos o).wp P a w K Q) : o.wp P a w K Q := h
theorem ren_asks {P : Program} {pos : Nat → Nat} {o : Oper} {a : Act} {w : World} (h : (renO pos o).asks P a w) : o.asks P a w := h
theorem mem_ready' {ops : Array Oper} {listed : Array Bool} {i : Nat} : i ∈ Region.ready .any ops listed ↔ listed.getD i true = false ∧ ∃ o, ops[i]? = some o ∧ ∀ e ∈ o.after, Region.binds .any e = true → listed.getD e.on false = true := mem_ready
theorem ren_ready {ops ops' : Array Oper} {pos : Nat → Nat} (h : Renum ops ops' pos) {listed listed' : Array Bool} (hs : listed.size = ops.size) (hs' : listed'.size = ops.size) (hl : ∀ i, i < ops.size → listed'.getD (pos i) false = listed.getD i false) {i : Nat} : i ∈ Region.ready .any ops listed ↔ i < ops.size ∧ pos i ∈ Region.ready .any ops' listed' := by
  have tf : ∀ (l : Array Bool) (k : Nat), k < l.size → l.getD k true = l.getD k false := fun l k hk => by
    rw [Array.getD_eq_getD_getElem?, Array.getD_eq_getD_getElem?, Array.getElem?_eq_getElem hk]; rfl
  have plt : ∀ i, i < ops.size → pos i < ops.size := fun i hi => by
    have h1 : ops[i]? = some ops[i] := by simp [hi]
    have := (Array.getElem?_eq_some_iff.1 (h.at_ i _ h1)).1
    rw [h.size] at this; exact this
  have key : ∀ i, i < ops.size → (i ∈ Region.ready .any ops listed ↔ pos i ∈ Region.ready .any ops' listed') := fun i hi => by
    have h1 : ops[i]? = some ops[i] := by simp [hi]
    rw [mem_ready', mem_ready', h.at_ i _ h1, h1, tf listed i (by omega), tf listed' (pos i) (by rw [hs']; exact plt i hi), hl i hi]
    constructor
    · rintro ⟨q1, o, q2, q3⟩
      simp at q2; subst q2
      refine ⟨q1, _, rfl, fun e he hb => ?_⟩
      simp only [renO, Array.mem_map] at he
      obtain ⟨e0, he0, rfl⟩ := he
      show listed'.getD (pos e0.on) false = true
      rw [hl _ ((h.lt i _ h1).1 e0 he0)]
      exact q3 e0 he0 hb
    · rintro ⟨q1, o, q2, q3⟩
      simp at q2; subst q2
      refine ⟨q1, _, rfl, fun e he hb => ?_⟩
      have := q3 { e with on := pos e.on } (by simp only [renO, Array.mem_map]; exact ⟨e, he, rfl⟩) hb
      have this : listed'.getD (pos e.on) false = true := this
      rw [hl _ ((h.lt i _ h1).1 e he)] at this
      exact this
  constructor
  · intro hi
    have hlt : i < ops.size := by
      obtain ⟨_, o, q2, _⟩ := mem_ready'.1 hi
      exact (Array.getElem?_eq_some_iff.1 q2).1
    exact ⟨hlt, (key i hlt).1 hi⟩
  · rintro ⟨hlt, hi⟩
    exact (key i hlt).2 hi
theorem ren_any {P : Program} {ops ops' : Array Oper} {pos : Nat → Nat} (h : Renum ops ops' pos) {Q : Exit → Act → World → Prop} : ∀ (fuel : Nat) (listed listed' : Array Bool) (a : Act) (w : World), listed.size = ops.size → listed'.size = ops.size → (∀ i, i < ops.size → listed'.getD (pos i) false = listed.getD i false) →
    wpAny P .any ops' Q fuel listed' a w → wpAny P .any ops Q fuel listed a w := by
  have nil : ∀ (listed listed' : Array Bool), listed.size = ops.size → listed'.size = ops.size → (∀ i, i < ops.size → listed'.getD (pos i) false = listed.getD i false) → (Region.ready .any ops listed = [] ↔ Region.ready .any ops' listed' = []) := fun listed listed' hs hs' hl => by
    constructor
    · intro hr
      refine List.eq_nil_iff_forall_not_mem.2 fun j hj => ?_
      have hjl : j < ops.size := by
        obtain ⟨_, o, q2, _⟩ := mem_ready'.1 hj
        rw [← h.size]; exact (Array.getElem?_eq_some_iff.1 q2).1
      obtain ⟨i, hi, rfl⟩ := h.back j hjl
      have := (ren_ready h hs hs' hl).2 ⟨hi, hj⟩
      rw [hr] at this; cases this
    · intro hr
      refine List.eq_nil_iff_forall_not_mem.2 fun i hi => ?_
      have := ((ren_ready h hs hs' hl).1 hi).2
      rw [hr] at this; cases this
  intro fuel
  induction fuel with
  | zero =>
    intro listed listed' a w hs hs' hl hw
    exact ⟨(nil listed listed' hs hs' hl).2 hw.1, hw.2⟩
  | succ fuel ih =>
    intro listed listed' a w hs hs' hl hw
    refine ⟨fun hr => hw.1 ((nil listed listed' hs hs' hl).1 hr), fun i hi => ?_⟩
    obtain ⟨hlt, hi'⟩ := (ren_ready h hs hs' hl).1 hi
    have h1 : ops[i]? = some ops[i] := by simp [hlt]
    have hstep := hw.2 (pos i) hi'
    have hnext : ∀ a' w', wpAny P .any ops' Q fuel (listed'.setIfInBounds (pos i) true) a' w' → wpAny P .any ops Q fuel (listed.setIfInBounds i true) a' w' := fun a' w' hh => ih _ _ a' w' (by simp [hs]) (by simp [hs']) (fun k hk => by
      rw [getD_setB, getD_setB, hl k hk]
      have plt : pos i < listed'.size := by
        have := (Array.getElem?_eq_some_iff.1 (h.at_ i _ h1)).1
        rw [h.size] at this; omega
      by_cases e : i = k
      · subst e; rw [if_pos ⟨rfl, plt⟩, if_pos ⟨rfl, by omega⟩]
      · rw [if_neg (fun hc => e (h.inj i k hlt hk hc.1)), if_neg (fun hc => e hc.1)]) hh
    unfold wpOp at hstep ⊢
    rw [h.at_ i _ h1] at hstep
    rw [h1]
    simp only at hstep ⊢
    rw [ren_wanted h h1] at hstep
    split
    · rename_i hwt
      rw [if_pos hwt] at hstep
      rcases hstep with hs1 | ⟨hs1, hs2⟩
      · exact .inl (Oper.wp_mono hnext (ren_wp hs1))
      · exact .inr ⟨ren_asks hs1, hs2⟩
    · rename_i hwt
      rw [if_neg hwt] at hstep
      exact hnext _ _ hstep
def permO (ops : Array Oper) (p : List Nat) : Array Oper := (p.map fun i => renO (fun k => p.idxOf k) (ops.getD i default)).toArray
def permOk (ops : Array Oper) (p : List Nat) : Bool := Nat.beq p.length ops.size && ((List.range ops.size).all fun i => Nat.blt (p.idxOf i) ops.size && (Nat.blt (p.getD i 0) ops.size && Nat.beq (p.idxOf (p.getD i 0)) i)) &&
  ops.toList.all fun o => o.after.toList.all (fun e => Nat.blt e.on ops.size) && (match o.guard with | some g => Nat.blt g.1 ops.size | none => true)
theorem idx_get : ∀ (p : List Nat) (i : Nat), p.idxOf i < p.length → p[p.idxOf i]? = some i
  | [], i, h => by simp at h
  | x :: p, i, h => by
    rw [List.idxOf_cons] at h ⊢
    by_cases e : x == i
    · simp only [e, cond_true] at h ⊢
      have : x = i := by simpa using e
      simp [this]
    · simp only [e, cond_false] at h ⊢
      rw [List.getElem?_cons_succ]
      exact idx_get p i (by simpa using h)
theorem permOk_spec {ops : Array Oper} {p : List Nat} (h : permOk ops p = true) : Renum ops (permO ops p) (fun k => p.idxOf k) := by
  unfold permOk at h
  rw [Bool.and_eq_true, Bool.and_eq_true, List.all_eq_true, List.all_eq_true] at h
  obtain ⟨⟨h1, h2⟩, h3⟩ := h
  have h1 := Nat.eq_of_beq_eq_true h1
  have h4 : ∀ i, i < ops.size → p.idxOf i < ops.size ∧ p.getD i 0 < ops.size ∧ p.idxOf (p.getD i 0) = i := fun i hi => by
    have := h2 i (List.mem_range.2 hi)
    rw [Bool.and_eq_true, Bool.and_eq_true, Nat.blt_eq, Nat.blt_eq] at this
    exact ⟨this.1, this.2.1, Nat.eq_of_beq_eq_true this.2.2⟩
  refine ⟨by simp [permO, h1], fun i o ho => ?_, fun j hj => ⟨p.getD j 0, (h4 j hj).2.1, (h4 j hj).2.2⟩, fun i j hi hj he => ?_, fun i o ho => ?_⟩
  · have hi := (Array.getElem?_eq_some_iff.1 ho).1
    have h5 := idx_get p i (by rw [h1]; exact (h4 i hi).1)
    unfold permO
    rw [List.getElem?_toArray, List.getElem?_map, h5]
    simp only [Option.map_some, Array.getD_eq_getD_getElem?, ho, Option.getD_some]
  · have a1 := idx_get p i (by rw [h1]; exact (h4 i hi).1)
    have a2 := idx_get p j (by rw [h1]; exact (h4 j hj).1)
    rw [he, a2] at a1
    simpa using a1.symm
  · have := h3 o (by
      have := Array.mem_of_getElem? ho
      simpa using this)
    rw [Bool.and_eq_true, List.all_eq_true] at this
    refine ⟨fun e he => by have := this.1 e (by simpa using he); rwa [Nat.blt_eq] at this, fun g hg => ?_⟩
    have := this.2
    rw [hg] at this
    simpa [Nat.blt_eq] using this
def lateAl (o : Oper) : Bool := match o.guard, o.op with
  | none, .alloc _ => true
  | none, .buildSlice .. => true
  | _, _ => false
def lateGo (ms : List Nat) : List (Oper × Nat) → List Nat → List Nat → List Nat
  | [], wait, out => out ++ wait
  | (o, i) :: rest, wait, out => match lateAl o with
    | true => lateGo ms rest (wait ++ [i]) out
    | false => lateGo ms rest (wait.filter fun j => !(ms.getD i 0).testBit j) (out ++ (wait.filter fun j => (ms.getD i 0).testBit j) ++ [i])
def lateP (ops : Array Oper) : List Nat := lateGo (masks ops.toList []) ops.toList.zipIdx [] []
noncomputable def evDraw2 (P : Program) (call : CallF) (ops : Array Oper) (F : Fr) (M : Mem) : Option (Fr × Mem) := match evDraw P call ops F M with
  | some r => some r
  | none => match permOk ops (lateP ops) with
    | true => evDraw P call (permO ops (lateP ops)) F M
    | false => none
theorem evDraw2_sound {P : Program} (hP : Plainly P) (hm : P.follows .mixedOrders = true) {call : CallF} (hcall : CallOk P call) {w0 : Base} {ops : Array Oper} {ρ : Rho} {F F' : Fr} {M M' : Mem} {w : World} {a : Act} (hF : FR ρ F a) (hW : WR w0 ρ M w)
    (he : evDraw2 P call ops F M = some (F', M')) {id : Nat} {Q : Exit → Act → World → Prop} (hQ : ∀ ρ' a' w', Ext ρ ρ' → FR ρ' F' a' → WR w0 ρ' M' w' → Q .normal a' w') : (Code.region id ops true).wp P Q a w := by
  unfold evDraw2 at he
  split at he
  · rename_i r hr
    simp at he; subst he
    exact wp_region_any hm (evDraw_any hP hcall hF hW hr hQ)
  · split at he
    · rename_i hok
      have hR := permOk_spec hok
      have h1 := evDraw_any hP hcall hF hW he hQ
      rw [hR.size] at h1
      refine wp_region_any hm (ren_any hR _ _ _ a _ (by simp) (by simp) (fun i hi => ?_) h1)
      have hf : ∀ j, (Array.replicate ops.size false).getD j false = false := fun j => by
        rw [Array.getD_eq_getD_getElem?, Array.getElem?_replicate]
        split <;> rfl
      rw [hf, hf]
    · cases he
end Go.Proofs.Ytlmanlpgknhfpaa.Ev
namespace Go.Proofs.Ytlmanlpgknhfpaa.Ev
open Go Go.RowKit
noncomputable def evOps (P : Program) (call : CallF) (ops : Array Oper) : List Oper → Fr → Mem → Option (Fr × Mem)
  | [], F, M => some (F, M)
  | o :: rest, F, M => match wantedA ops F o with
    | some true => match evOp1 P call F M o with
      | some (v, M') => evOps P call ops rest (putF F o.dst (some v)) M'
      | none => none
    | some false => evOps P call ops rest (putF F o.dst (some (.lit undef))) M
    | none => none
theorem evOps_sound {P : Program} (hP : Plainly P) {call : CallF} (hcall : CallOk P call) {w0 : Base} (ops : Array Oper) : ∀ (l : List Oper) {ρ : Rho} {F F' : Fr} {M M' : Mem} {w : World} {a : Act}, FR ρ F a → WR w0 ρ M w → evOps P call ops l F M = some (F', M') →
    ∀ {Q : Exit → Act → World → Prop}, (∀ ρ' a' w', Ext ρ ρ' → FR ρ' F' a' → WR w0 ρ' M' w' → Q .normal a' w') → wpList P ops Q l a w
  | [], ρ, F, F', M, M', w, a, hF, hW, he, Q, hQ => by
    simp [evOps] at he
    obtain ⟨rfl, rfl⟩ := he
    exact hQ ρ a w (Ext.refl _) hF hW
  | o :: rest, ρ, F, F', M, M', w, a, hF, hW, he, Q, hQ => by
    simp only [evOps] at he
    refine wpList_step fun K hK => ?_
    split at he
    · rename_i hw
      rw [wantedA_sound hF hw, if_pos rfl]
      split at he
      · rename_i v M2 ho
        exact evOp1_sound hP hcall hF hW ho fun ρ' u w' h1 h2 h3 => hK _ _ (evOps_sound hP hcall ops rest ((hF.ext h1).put o.dst h2) h3 he fun ρ2 a2 w2 q1 q2 q3 => hQ ρ2 a2 w2 (h1.trans q1) q2 q3)
      · cases he
    · rename_i hw
      rw [wantedA_sound hF hw]
      simp only [Bool.false_eq_true, if_false]
      exact hK _ _ (evOps_sound hP hcall ops rest (hF.put o.dst (by simp [rel])) hW he hQ)
    · cases he
inductive Ex where
  | norm
  | exit (id : Nat)
  | ret
def Ex.to : Ex → Exit
  | .norm => .normal
  | .exit id => .exit id
  | .ret => .ret
def evLoop (f : Fr → Mem → Option (Ex × Fr × Mem)) : Nat → Fr → Mem → Option (Ex × Fr × Mem)
  | 0, _, _ => none
  | n + 1, F, M => match f F M with
    | some (.norm, F', M') => evLoop f n F' M'
    | r => r
noncomputable def evCode (P : Program) (call : CallF) (n : Nat) : Code → Fr → Mem → Option (Ex × Fr × Mem)
  | .skip, F, M => some (.norm, F, M)
  | .label _, F, M => some (.norm, F, M)
  | .region _ ops draw, F, M => match (match draw with | true => evDraw2 P call ops F M | false => evOps P call ops ops.toList F M) with
    | some (F', M') => some (.norm, F', M')
    | none => none
  | .seq a b, F, M => match evCode P call n a F M with
    | some (.norm, F', M') => evCode P call n b F' M'
    | r => r
  | .cond c t e, F, M => match litX F c with
    | some (.bool true) => evCode P call n t F M
    | some (.bool false) => evCode P call n e F M
    | _ => none
  | .block id body, F, M => match evCode P call n body F M with
    | some (.exit id', F', M') => if id' = id then some (.norm, F', M') else some (.exit id', F', M')
    | r => r
  | .loop body, F, M => evLoop (evCode P call n body) n F M
  | .scope body, F, M => evCode P call n body F M
  | .exit id, F, M => some (.exit id, F, M)
  | .ret, F, M => some (.ret, F, M)
  | _, _, _ => none
theorem evCode_sound {P : Program} (hP : Plainly P) (hm : P.follows .mixedOrders = true) {call : CallF} (hcall : CallOk P call) (n : Nat) {w0 : Base} : ∀ (c : Code) {ρ : Rho} {F F' : Fr} {M M' : Mem} {w : World} {a : Act} {ex : Ex}, FR ρ F a → WR w0 ρ M w →
    evCode P call n c F M = some (ex, F', M') → ∀ {Q : Exit → Act → World → Prop}, (∀ ρ' a' w', Ext ρ ρ' → FR ρ' F' a' → WR w0 ρ' M' w' → Q ex.to a' w') → c.wp P Q a w := by
  intro c
  induction c with
  | skip =>
    intro ρ F F' M M' w a ex hF hW he Q hQ
    simp [evCode] at he
    obtain ⟨rfl, rfl, rfl⟩ := he
    exact wp_skip (hQ ρ a w (Ext.refl _) hF hW)
  | label l =>
    intro ρ F F' M M' w a ex hF hW he Q hQ
    simp [evCode] at he
    obtain ⟨rfl, rfl, rfl⟩ := he
    exact wp_label (hQ ρ a w (Ext.refl _) hF hW)
  | exit id =>
    intro ρ F F' M M' w a ex hF hW he Q hQ
    simp [evCode] at he
    obtain ⟨rfl, rfl, rfl⟩ := he
    exact wp_exit (hQ ρ a w (Ext.refl _) hF hW)
  | ret =>
    intro ρ F F' M M' w a ex hF hW he Q hQ
    simp [evCode] at he
    obtain ⟨rfl, rfl, rfl⟩ := he
    exact wp_ret (hQ ρ a w (Ext.refl _) hF hW)
  | region id ops draw =>
    intro ρ F F' M M' w a ex hF hW he Q hQ
    simp only [evCode] at he
    cases draw with
    | true =>
      simp only at he
      split at he
      · rename_i F2 M2 hd
        simp at he
        obtain ⟨rfl, rfl, rfl⟩ := he
        exact evDraw2_sound hP hm hcall hF hW hd hQ
      · cases he
    | false =>
      simp only at he
      split at he
      · rename_i F2 M2 hd
        simp at he
        obtain ⟨rfl, rfl, rfl⟩ := he
        exact wp_region_list (evOps_sound hP hcall ops ops.toList hF hW hd hQ)
      · cases he
  | seq x y ihx ihy =>
    intro ρ F F' M M' w a ex hF hW he Q hQ
    simp only [evCode] at he
    cases hx : evCode P call n x F M with
    | none => simp [hx] at he
    | some r =>
      obtain ⟨e1, F1, M1⟩ := r
      refine wp_seq (ihx hF hW hx fun ρ' a' w' h1 h2 h3 => ?_)
      cases e1 with
      | norm =>
        simp only [hx] at he
        exact ihy h2 h3 he fun ρ2 a2 w2 q1 q2 q3 => hQ ρ2 a2 w2 (h1.trans q1) q2 q3
      | exit id =>
        simp only [hx, Option.some.injEq, Prod.mk.injEq] at he
        obtain ⟨rfl, rfl, rfl⟩ := he
        exact hQ ρ' a' w' h1 h2 h3
      | ret =>
        simp only [hx, Option.some.injEq, Prod.mk.injEq] at he
        obtain ⟨rfl, rfl, rfl⟩ := he
        exact hQ ρ' a' w' h1 h2 h3
  | cond c t e iht ihe =>
    intro ρ F F' M M' w a ex hF hW he Q hQ
    simp only [evCode] at he
    split at he
    · rename_i hc
      exact wp_cond_true (litX_sound hF hc) (iht hF hW he hQ)
    · rename_i hc
      exact wp_cond_false (litX_sound hF hc) (ihe hF hW he hQ)
    · cases he
  | block id body ih =>
    intro ρ F F' M M' w a ex hF hW he Q hQ
    simp only [evCode] at he
    cases hx : evCode P call n body F M with
    | none => simp [hx] at he
    | some r =>
      obtain ⟨e1, F1, M1⟩ := r
      refine wp_block (ih hF hW hx fun ρ' a' w' h1 h2 h3 => ?_)
      cases e1 with
      | norm =>
        simp only [hx, Option.some.injEq, Prod.mk.injEq] at he
        obtain ⟨rfl, rfl, rfl⟩ := he
        exact hQ ρ' a' w' h1 h2 h3
      | exit id' =>
        simp only [hx] at he
        by_cases hid : id' = id
        · rw [if_pos hid] at he
          simp at he
          obtain ⟨rfl, rfl, rfl⟩ := he
          simp only [Ex.to, Exit.inBlock, hid, if_true]
          exact hQ ρ' a' w' h1 h2 h3
        · rw [if_neg hid] at he
          simp at he
          obtain ⟨rfl, rfl, rfl⟩ := he
          simp only [Ex.to, Exit.inBlock, hid, if_false]
          exact hQ ρ' a' w' h1 h2 h3
      | ret =>
        simp only [hx, Option.some.injEq, Prod.mk.injEq] at he
        obtain ⟨rfl, rfl, rfl⟩ := he
        exact hQ ρ' a' w' h1 h2 h3
  | loop body ih =>
    intro ρ F F' M M' w a ex hF hW he Q hQ
    simp only [evCode] at he
    have key : ∀ (k : Nat) {ρ : Rho} {F : Fr} {M : Mem} {w : World} {a : Act}, FR ρ F a → WR w0 ρ M w → evLoop (evCode P call n body) k F M = some (ex, F', M') →
        (∀ ρ' a' w', Ext ρ ρ' → FR ρ' F' a' → WR w0 ρ' M' w' → Q ex.to a' w') → Code.rounds P body Q k a w := by
      intro k
      induction k with
      | zero => intro ρ F M w a _ _ h; simp [evLoop] at h
      | succ k ihk =>
        intro ρ F M w a hF hW h hQ
        rw [rounds_succ]
        simp only [evLoop] at h
        cases hx : evCode P call n body F M with
        | none => simp [hx] at h
        | some r =>
          obtain ⟨e1, F1, M1⟩ := r
          refine ih hF hW hx fun ρ' a' w' h1 h2 h3 => ?_
          cases e1 with
          | norm =>
            simp only [hx] at h
            exact ihk h2 h3 h fun ρ2 a2 w2 q1 q2 q3 => hQ ρ2 a2 w2 (h1.trans q1) q2 q3
          | exit id =>
            simp only [hx, Option.some.injEq, Prod.mk.injEq] at h
            obtain ⟨rfl, rfl, rfl⟩ := h
            exact hQ ρ' a' w' h1 h2 h3
          | ret =>
            simp only [hx, Option.some.injEq, Prod.mk.injEq] at h
            obtain ⟨rfl, rfl, rfl⟩ := h
            exact hQ ρ' a' w' h1 h2 h3
    exact wp_loop_rounds n (key n hF hW he hQ)
  | scope body ih =>
    intro ρ F F' M M' w a ex hF hW he Q hQ
    simp only [evCode] at he
    exact wp_scope_straight (ih hF hW he fun ρ' a' w' h1 h2 h3 => by cases ex <;> exact hQ ρ' a' w' h1 h2 h3)
  | _ => intro ρ F F' M M' w a ex hF hW he; simp [evCode] at he
noncomputable def resA (P : Program) (F : Fr) (M : Mem) : ResultVar → Option AV
  | .tmp t => match F[t]? with | some (some v) => some v | _ => none
  | .cell x t => match F[x]? with | some (some v) => evLoad P M t v | _ => none
noncomputable def ressA (P : Program) (F : Fr) (M : Mem) : List ResultVar → Option (List AV)
  | [] => some []
  | r :: rs => match resA P F M r, ressA P F M rs with | some v, some l => some (v :: l) | _, _ => none
noncomputable def resultsA (P : Program) (F : Fr) (M : Mem) (fn : Func) : Option AV := match ressA P F M fn.results.toList with
  | some [v] => some v
  | some l => some (.tup l)
  | none => none
def resS (tmps : Array Value) : ResultVar → Sem Value
  | .tmp t => pure (tmps.getD t undef)
  | .cell x t => do loadVar t (← asAddr (tmps.getD x undef))
theorem results_eq (fn : Func) (tmps : Array Value) : results fn tmps = (do let vs ← fn.results.mapM (resS tmps); pure (if h : vs.size = 1 then vs[0] else .tuple vs)) := by
  unfold results
  congr 1
theorem resA_sound {P : Program} {w0 : Base} {ρ : Rho} {M : Mem} {w : World} {F : Fr} {a : Act} (hF : FR ρ F a) (hW : WR w0 ρ M w) {r : ResultVar} {v : AV} (he : resA P F M r = some v) :
    ∃ u, rel ρ v u ∧ (resS a.tmps r).run P w = .ok u w := by
  cases r with
  | tmp t =>
    simp only [resA] at he
    split at he
    · rename_i heq
      simp at he; subst he
      exact ⟨_, hF.val _ _ heq, rfl⟩
    · cases he
  | cell x t =>
    simp only [resA] at he
    split at he
    · rename_i v' heq
      obtain ⟨g, o, e, u, h1, h2⟩ := evLoad_sound hW (hF.val _ _ heq) he
      exact ⟨u, h1, by simp only [resS, e, asAddr, Sem.run_bind, Sem.run_pure, Result.andThen_ok, h2 w rfl]⟩
    · cases he
theorem ressA_sound {P : Program} {w0 : Base} {ρ : Rho} {M : Mem} {w : World} {F : Fr} {a : Act} (hF : FR ρ F a) (hW : WR w0 ρ M w) : ∀ (rs : List ResultVar) (l : List AV), ressA P F M rs = some l →
    ∃ us : List Value, rels ρ l us ∧ (rs.mapM (resS a.tmps)).run P w = .ok us w
  | [], l, he => by simp [ressA] at he; subst he; exact ⟨[], by simp [rels], by simp⟩
  | r :: rs, l, he => by
    simp only [ressA] at he
    cases hr : resA P F M r with
    | none => simp [hr] at he
    | some v =>
      cases hrs : ressA P F M rs with
      | none => simp [hr, hrs] at he
      | some l' =>
        simp [hr, hrs] at he; subst he
        obtain ⟨u, h1, h2⟩ := resA_sound hF hW hr
        obtain ⟨us, h3, h4⟩ := ressA_sound hF hW rs l' hrs
        refine ⟨u :: us, by simp only [rels]; exact ⟨u, us, rfl, h1, h3⟩, ?_⟩
        simp only [List.mapM_cons, Sem.run_bind, h2, Result.andThen_ok, h4]
        rfl
theorem resultsA_sound {P : Program} {w0 : Base} {ρ : Rho} {M : Mem} {w : World} {F : Fr} {a : Act} (hF : FR ρ F a) (hW : WR w0 ρ M w) {fn : Func} {v : AV} (he : resultsA P F M fn = some v) :
    ∃ u, rel ρ v u ∧ (results fn a.tmps).run P w = .ok u w := by
  unfold resultsA at he
  rw [results_eq, Array.mapM_eq_mapM_toList]
  split at he
  · rename_i v' hr
    simp at he; subst he
    obtain ⟨us, h1, h2⟩ := ressA_sound hF hW _ _ hr
    have hl := h1.len
    match us, h1, h2, hl with
    | [u], h1, h2, _ =>
      simp only [rels] at h1
      obtain ⟨y, ys, e, h3, _⟩ := h1
      simp at e
      obtain ⟨rfl, rfl⟩ := e
      refine ⟨u, h3, ?_⟩
      simp only [Sem.run_bind, Sem.run_map, h2, Result.andThen_ok]
      rfl
  · rename_i l hne hr
    simp at he; subst he
    obtain ⟨us, h1, h2⟩ := ressA_sound hF hW _ _ hr
    have hl := h1.len
    refine ⟨.tuple us.toArray, by simp only [rel]; exact ⟨us, rfl, h1⟩, ?_⟩
    have hne1 : us.length ≠ 1 := fun e => by
      match l, hl, hne with
      | [], hl, _ => simp at hl; omega
      | [v], _, hne => exact hne v rfl
      | _ :: _ :: _, hl, _ => simp at hl; omega
    simp only [Sem.run_bind, Sem.run_map, h2, Result.andThen_ok]
    simp [hne1]
  · cases he
theorem frame_start {ρ : Rho} {args : List AV} {us : List Value} (h : rels ρ args us) (n : Nat) : FR ρ (args.map some ++ List.replicate (n - args.length) (some (.lit undef))) { tmps := us.toArray ++ Array.replicate (n - us.toArray.size) undef, defers := [] } := by
  have hl := h.len
  refine ⟨by simp [hl], fun t v hv => ?_, rfl⟩
  rw [List.getElem?_append] at hv
  simp only [List.length_map] at hv
  rw [Array.getD_eq_getD_getElem?, Array.getElem?_append]
  simp only [List.size_toArray]
  by_cases ht : t < args.length
  · rw [if_pos ht] at hv
    rw [if_pos (by omega)]
    simp at hv
    obtain ⟨y, h1, h2⟩ := h.get t v hv
    simp [h1]; exact h2
  · rw [if_neg ht] at hv
    rw [if_neg (by omega)]
    rw [List.getElem?_replicate] at hv
    split at hv
    · simp at hv; subst hv
      rw [Array.getElem?_replicate]
      simp only [rel]
      split <;> rfl
    · cases hv
end Go.Proofs.Ytlmanlpgknhfpaa.Ev
namespace Go.Proofs.Ytlmanlpgknhfpaa
open Go Go.RowKit
theorem Ev.plainly_of {P : Program} (h : (P.funcs.toList.all fun fn => !(fn.name == "runtime.NumGoroutine")) = true) : Ev.Plainly P := fun f fn hf => by
  have := List.all_eq_true.1 h fn (by
    have := Array.mem_of_getElem? hf
    simpa using this)
  simpa using this
theorem plainly : Ev.Plainly Try.prog := Ev.plainly_of (by kernel_rfl)
theorem mixed : Try.prog.follows .mixedOrders = true := by kernel_rfl
def Ev.isTrue : Option (Ev.AV × Ev.Mem) → Bool
  | some (.lit (.bool true), _) => true
  | _ => false
end Go.Proofs.Ytlmanlpgknhfpaa
namespace Go.Proofs.Ytlmanlpgknhfpaa.Ev
open Go Go.RowKit
noncomputable def evCallT (P : Program) (T : CallF) (k : Nat) : Nat → CallF
  | 0 => fun _ _ _ => none
  | n + 1 => fun f args M => match T f args M with
    | some r => some r
    | none => match P.funcs[f]? with
      | some fn => match fn.body with
        | some c => match evCode P (evCallT P T k n) k c (args.map some ++ List.replicate (fn.ntmps - args.length) (some (.lit undef))) M with
          | some (.norm, F', M') => match resultsA P F' M' fn with | some v => some (v, M') | none => none
          | some (.ret, F', M') => match resultsA P F' M' fn with | some v => some (v, M') | none => none
          | _ => none
        | none => none
      | none => none
theorem evCallT_ok {P : Program} (hP : Plainly P) (hm : P.follows .mixedOrders = true) {T : CallF} (hT : CallOk P T) (k : Nat) : ∀ n, CallOk P (evCallT P T k n)
  | 0 => fun f args M v M' h => by simp [evCallT] at h
  | n + 1 => fun f args M v M' h w0 ρ us w hr hW => by
    simp only [evCallT] at h
    cases ht : T f args M with
    | some r =>
      rw [ht] at h
      simp at h
      subst h
      exact hT f args M v M' ht w0 ρ us w hr hW
    | none =>
    rw [ht] at h
    simp only at h
    cases hf : P.funcs[f]? with
    | none => simp [hf] at h
    | some fn =>
      cases hb : fn.body with
      | none => simp [hf, hb] at h
      | some c =>
        simp only [hf, hb] at h
        have hF := frame_start hr fn.ntmps
        refine calls_of_wp hf hb ?_
        split at h
        · rename_i F' M2 hc
          split at h
          · rename_i v' hres
            simp at h
            obtain ⟨rfl, rfl⟩ := h
            refine evCode_sound hP hm (evCallT_ok hP hm hT k n) k c hF hW hc fun ρ' a' w' h1 h2 h3 => ?_
            obtain ⟨u, q1, q2⟩ := resultsA_sound h2 h3 hres
            exact bodyPost_end q2 h2.defers ⟨ρ', u, rfl, h1, q1, h3⟩
          · cases h
        · rename_i F' M2 hc
          split at h
          · rename_i v' hres
            simp at h
            obtain ⟨rfl, rfl⟩ := h
            refine evCode_sound hP hm (evCallT_ok hP hm hT k n) k c hF hW hc fun ρ' a' w' h1 h2 h3 => ?_
            obtain ⟨u, q1, q2⟩ := resultsA_sound h2 h3 hres
            exact bodyPost_ret q2 h2.defers ⟨ρ', u, rfl, h1, q1, h3⟩
          · cases h
        · cases h
theorem true_ofT {T : CallF} (hT : CallOk Try.prog T) {f k n : Nat} (h : isTrue (evCallT Try.prog T k n f [] ⟨0, []⟩) = true) (w : World) : Calls Try.prog f #[] w fun e w' => e = .returned (.bool true) ∧ Below w.heap.size w w' := by
  unfold isTrue at h
  split at h
  · rename_i M' he
    have := evCallT_ok plainly mixed hT k n f [] ⟨0, []⟩ _ _ he ⟨w, fun _ => false⟩ (fun _ => none) [] w (by simp [rels]) (WR.start w)
    refine this.mono ?_
    rintro e w' ⟨ρ', u, rfl, _, h2, h3⟩
    simp only [rel] at h2
    exact ⟨by rw [h2], h3.keep.below⟩
  · cases h
noncomputable def atN (f0 : FuncId) (n0 : Int) (v0 : Value) (T : CallF) : CallF := fun f args M => match Nat.beq f f0 with
  | true => match args with
    | [.lit (.int .i64 n)] => match decide (n = n0) with
      | true => some (.lit v0, M)
      | false => T f args M
    | _ => T f args M
  | false => T f args M
theorem WR.more {w0 : Base} {ρ : Rho} {M : Mem} {w w' : World} (h : WR w0 ρ M w) (hb : Below w.heap.size w w') : WR w0 ρ M w' :=
  ⟨⟨hb.os.trans h.keep.os, hb.tape.trans h.keep.tape, hb.output.trans h.keep.output, Nat.le_trans h.keep.size hb.size, fun k hk hm => by rw [hb.block k (Nat.lt_of_lt_of_le hk h.keep.size)]; exact h.keep.block k hk hm⟩, h.dom, fun b B hB => by
    obtain ⟨g, tot, q1, q2, cur, q3, q4⟩ := h.blk b B hB
    exact ⟨g, tot, q1, q2, cur, by rw [hb.block g (Array.getElem?_eq_some_iff.1 q3).1]; exact q3, q4⟩, h.inj⟩
theorem none_ok (P : Program) : CallOk P fun _ _ _ => none := fun f args M v M' h => by cases h
theorem atN_ok {f0 : FuncId} {n0 : Int} {v0 : Value} {T : CallF} (hT : CallOk Try.prog T) (h : ∀ w, Calls Try.prog f0 #[.int .i64 n0] w fun e w' => e = .returned v0 ∧ Below w.heap.size w w') : CallOk Try.prog (atN f0 n0 v0 T) := fun f args M v M' hr w0 ρ us w hrel hW => by
  unfold atN at hr
  split at hr
  · rename_i hf
    have hf := Nat.eq_of_beq_eq_true hf
    subst hf
    split at hr
    · rename_i n
      split at hr
      · rename_i hn
        have hn := of_decide_eq_true hn
        subst hn
        simp at hr
        obtain ⟨rfl, rfl⟩ := hr
        simp only [rels, rel] at hrel
        obtain ⟨u, us', rfl, rfl, rfl⟩ := hrel
        refine (h w).mono ?_
        rintro e w' ⟨rfl, hb⟩
        exact ⟨ρ, v0, rfl, Ext.refl ρ, by simp only [rel], hW.more hb⟩
      · exact hT _ _ _ _ _ hr w0 ρ us w hrel hW
    · exact hT _ _ _ _ _ hr w0 ρ us w hrel hW
  · exact hT _ _ _ _ _ hr w0 ρ us w hrel hW
end Go.Proofs.Ytlmanlpgknhfpaa.Ev
namespace Go.Proofs.Ytlmanlpgknhfpaa
open Go Go.RowKit
set_option maxRecDepth 20000
theorem conv1 (w : World) (g : Nat) (b : UInt8) (n : Int) (hb : n = b.toNat) (h : w.cell? ⟨g, 0, none⟩ = some (.int .u8 n)) : (convert 96 9 (.slice (some ⟨g, 0, none⟩) 1 1)).run Try.prog w = .ok (.string ⟨#[b]⟩) w :=
  run_convert_bytes_back w 96 9 5 ⟨g, 0, none⟩ 1 [b] Try.underlying96 Try.underlying5 Try.underlying9 fun j hj => by
    have : j = 0 := by simpa using hj
    subst this
    subst hb
    exact h
theorem whole_4 (w : World) : Calls Try.prog 82 #[.int .i64 4] w fun e w' => e = .returned (.string ⟨#[52]⟩) ∧ Below w.heap.size w w' := by
  go_enter Try.func82, Try.ntmps82
  go_wp2
  rw [conv1 _ _ 52 52 rfl (by simp)]
  go_wp2
  go_ret
  exact ⟨rfl, balloc (Below.refl _ _) _⟩
theorem whole_40 (w : World) : Calls Try.prog 82 #[.int .i64 40] w fun e w' => e = .returned (.string ⟨#[52, 48]⟩) ∧ Below w.heap.size w w' := by
  have H4 := Lib.hid whole_4
  have hconv : ∀ (W : World) (g : Nat), W.cell? ⟨g, 0, none⟩ = some (.int .u8 48) → (convert 96 9 (.slice (some ⟨g, 0, none⟩) 1 1)).run Try.prog W = .ok (.string ⟨#[48]⟩) W := fun W g h => conv1 W g 48 48 rfl h
  go_enter Try.func82, Try.ntmps82
  go_wp2_with fail
  go_region_with (first
    | (go_at_call 82; refine (H4.out _).mono ?_; rintro e w1 ⟨rfl, h1⟩; have hc1 := fun hlt => h1.cell (p := ⟨w.heap.size, 0, none⟩) hlt)
    | (rw [hconv _ _ (by first | assumption | (simp; done) | (simp; decide) | (rw [hc1 (by simp)]; simp; done) | (rw [hc1 (by simp)]; simp; decide))]))
  all_goals go_wp2
  all_goals go_ret
  all_goals refine ⟨rfl, ?_⟩
  all_goals first
    | exact balloc ((Below.refl w.heap.size w).drew.trans h1) _
    | exact (((balloc (Below.refl w.heap.size w) _).drew).trans (h1.mono (by simp)))
    | exact ((((Below.refl w.heap.size w).drew).trans (balloc (Below.refl w.heap.size _) _)).trans (h1.mono (by simp)))
    | go_show
theorem whole_400 (w : World) : Calls Try.prog 82 #[.int .i64 400] w fun e w' => e = .returned (.string ⟨#[52, 48, 48]⟩) ∧ Below w.heap.size w w' := by
  have H40 := Lib.hid whole_40
  have hconv : ∀ (W : World) (g : Nat), W.cell? ⟨g, 0, none⟩ = some (.int .u8 48) → (convert 96 9 (.slice (some ⟨g, 0, none⟩) 1 1)).run Try.prog W = .ok (.string ⟨#[48]⟩) W := fun W g h => conv1 W g 48 48 rfl h
  go_enter Try.func82, Try.ntmps82
  go_wp2_with fail
  go_region_with (first
    | (go_at_call 82; try rw [show IntKind.i64.wrap 40 = 40 by decide]; refine (H40.out _).mono ?_; rintro e w1 ⟨rfl, h1⟩; have hc1 := fun hlt => h1.cell (p := ⟨w.heap.size, 0, none⟩) hlt)
    | (rw [hconv _ _ (by first | assumption | (simp; done) | (simp; decide) | (rw [hc1 (by simp)]; simp; done) | (rw [hc1 (by simp)]; simp; decide))]))
  all_goals go_wp2
  all_goals go_ret
  all_goals refine ⟨rfl, ?_⟩
  all_goals first
    | exact balloc ((Below.refl w.heap.size w).drew.trans h1) _
    | exact (((balloc (Below.refl w.heap.size w) _).drew).trans (h1.mono (by simp)))
    | exact ((((Below.refl w.heap.size w).drew).trans (balloc (Below.refl w.heap.size _) _)).trans (h1.mono (by simp)))
    | go_show
end Go.Proofs.Ytlmanlpgknhfpaa
namespace Go.Proofs.Ytlmanlpgknhfpaa
open Go.RowKit
theorem known08 (w : World) : Calls Try.prog 6 #[] w fun e w' => e = .returned (.bool true) ∧ Below w.heap.size w w' :=
  Ev.true_ofT (Ev.atN_ok (Ev.atN_ok (Ev.atN_ok (Ev.none_ok _) whole_4) whole_40) whole_400) (k := 300) (n := 60) (by kernel_rfl) w
end Go.Proofs.Ytlmanlpgknhfpaa
namespace Go.Proofs.Ytlmanlpgknhfpaa
open Go Go.RowKit Go.ChangeShapes Go.WideShapes Go.ChangeAt Go.Deep
section
variable {H : Type} {enc : TypeId × Value → H} {W : World}
end
theorem Sy.law_true {f : FuncId} {args : List Sy.AV} {us : List Value} {W : World} (h : Sy.CallTo Try.prog f args Sy.M0 fun v _ => v = Sy.boo true) (hr : Sy.rels (Sy.rho0 W) args us) : Calls Try.prog f us.toArray W fun e w' => e = .returned (.bool true) ∧ Below W.heap.size W w' :=
  ((h.mono (H := fun v _ => ∃ u, v = .lit u ∧ u = .bool true) fun v _ e => ⟨_, e, rfl⟩).calls hr).mono fun e w' ⟨⟨u, h1, h2⟩, h3⟩ => ⟨by rw [h1, h2], h3⟩
end Go.Proofs.Ytlmanlpgknhfpaa
namespace Go.Proofs.Ytlmanlpgknhfpaa
open Go Go.RowKit Pl Sy
noncomputable abbrev Sy.cKnown08 : Con Try.prog := at1 6 [] (boo true) True fun _ => ⟨⟨trivial, trivial⟩, (CallTo.of_calls (us := []) known08 M0).mono fun _ _ h => h.1⟩
noncomputable abbrev Sy.cSer (s t : ByteArray) (xs ys : List QNodeV) : Con Try.prog := at1 12 [Sy.query s xs, Sy.query t ys] (boo (sameQ s t xs ys)) (xs.length ≤ 17592186044416) fun h => ⟨⟨⟨qv_free s xs, qv_free t ys, trivial⟩, trivial⟩, ser_t s t xs ys h⟩
noncomputable abbrev Sy.cQpsG : Con Try.prog := conG 9 (fun l => .tup [query (rdS l) (rdN l), int (rdE l)]) (fun l => limC l ∧ TxtOk l) fun l h => ⟨⟨query_free _ _, trivial, trivial⟩, qps_v l h.1 h.2⟩
namespace Sy
end Sy
namespace Sy
end Sy
theorem tk_kv (l : List TokV) : toksOf l.length (fun i j => AV.lit ([Value.int IntKind.i64 (l.getD i tok0).kind, Value.string (l.getD i tok0).text, Value.int IntKind.i64 (l.getD i tok0).n].getD j (Value.tuple ⟨[]⟩))) = l := toksOf_is (CellIs.kc l)
end Go.Proofs.Ytlmanlpgknhfpaa
namespace Go.Proofs.Ytlmanlpgknhfpaa
open Go Go.RowKit Pl Sy
abbrev Sy.nilQ : AV := .agg [.lit (.string ⟨#[]⟩), .lit (.slice none 0 0)]
theorem Sy.ser_nil (s : ByteArray) (xs : List QNodeV) (h : xs.length ≤ 17592186044416) : CallTo Try.prog 12 [Sy.query s xs, nilQ] M0 fun v _ => v = boo (sameQ s ⟨#[]⟩ xs []) :=
  CallTo.sub (ser_t s ⟨#[]⟩ xs [] h) fun ρ us hr => by
    simp only [rels, rel] at hr ⊢
    obtain ⟨u, us', r1, r2, u2, us2, r3, r4, r5⟩ := hr
    refine ⟨u, us', r1, r2, u2, us2, r3, ?_, r5⟩
    obtain ⟨ws, q1, w, ws', q2, q3, w2, ws2, q4, q5, q6⟩ := r4
    refine ⟨ws, q1, w, ws', q2, q3, w2, ws2, q4, ?_, q6⟩
    refine ⟨none, 0, q5, Nat.le_refl _, by unfold maxLen; omega, fun _ => rfl, fun h => by simp at h⟩
noncomputable abbrev Sy.cSer0 (s : ByteArray) (xs : List QNodeV) : Con Try.prog := at1 12 [Sy.query s xs, nilQ] (boo (sameQ s ⟨#[]⟩ xs [])) (xs.length ≤ 17592186044416) fun h => ⟨⟨⟨qv_free s xs, ⟨trivial, trivial, trivial⟩, trivial⟩, trivial⟩, ser_nil s xs h⟩
theorem rd_right {x : List TokV} (he : rdE x = 0) : rightQ (rdS x) (rdN x) = true := by
  have hp : psB (trim x) = true := by
    unfold rdE at he
    by_cases hb : psB (trim x) = true
    · exact hb
    · rw [if_neg hb] at he
      exact absurd he (by decide)
  unfold rdS rdN
  rw [if_pos hp, if_pos hp]
  unfold psB at hp
  rw [Bool.and_eq_true] at hp
  exact hp.2
theorem rd_wrong {x : List TokV} (he : rdE x ≠ 0) : rdE x = 21 ∧ rdS x = ⟨#[]⟩ ∧ rdN x = [] := by
  have hp : ¬ psB (trim x) = true := fun hb => by
    unfold rdE at he
    rw [if_pos hb] at he
    exact he rfl
  unfold rdE rdS rdN
  rw [if_neg hp, if_neg hp, if_neg hp]
  exact ⟨rfl, rfl, rfl⟩
theorem right_size {s : ByteArray} {xs : List QNodeV} (h : rightQ s xs = true) : s.size ≤ 32 := by
  unfold rightQ at h
  rw [Bool.and_eq_true, Bool.or_eq_true, byE_t, Bool.and_eq_true] at h
  have e : s.size = s.data.toList.length := rfl
  rcases h.1 with h1 | h1
  · rw [e, h1]
    exact Nat.zero_le _
  · have h2 := h1.1
    unfold nameL at h2
    simp only [Bool.and_eq_true, decide_eq_true_eq] at h2
    rw [e]
    exact h2.2
theorem Sy.qtx_no (s : ByteArray) (he : rdE (cutT s) ≠ 0) : CallTo Try.prog 4 [.lit (.string s)] M0 fun v _ => v = boo true :=
  toV [cKnown08, cCutA, cQpsG, cQpr (rdS (cutT s)) (rdN (cutT s)), cPri5 (prT (rdS (cutT s)) (rdN (cutT s))), cSer0 (rdS (cutT s)) (rdN (cutT s))] [] 400 30 (.br (.yes .done) (.yes (.yes (.br (.br (.auto 1 (.yes (.auto 0 (.br (.yes (.auto 0 .done)) (.auto 0 .done))))) (.auto 4 .done)) (.yes (.yes (.yes (.yes (.br (.auto 1 (.br (.auto 1 (.yes (.auto 0 (.br (.yes (.auto 0 .done)) (.auto 0 .done))))) (.auto 4 .done))) (.auto 7 .done)))))))))) (let e1 := (@Value.tuple (@Array.mk _ [])); let e2 := (fun y0 => (fun y1 => (@AV.lit ([(@Value.int IntKind.i64 (((@cutT s).getD y0 tok0)).kind), (@Value.string (((@cutT s).getD y0 tok0)).text), (@Value.int IntKind.i64 (((@cutT s).getD y0 tok0)).n)].getD y1 e1)))); let e3 := (@toksOf ((@cutT s)).length e2); let e4 := (@AV.lit (@Value.string (@rdS e3))); let e5 := (@ByteArray.mk (@Array.mk _ [])); let e6 := (@AV.lit (@Value.string e5)); let e7 := (@AV.lit (@Value.slice none 0 0)); let e8 := (@AV.agg (@List.take _ 2 (e4 :: (@qview (@rdN e3)) :: (@List.drop _ (0 + ([e4, (@qview (@rdN e3))]).length) [e6, e7])))); let e9 := (@rdS (@cutT s)); let e10 := (@rdN (@cutT s)); let e11 := ((e10).length ≤ 17592186044416); let e12 := (@prT e9 e10); let e13 := (@AV.view (e12).length 3 (fun y0 => (fun y1 => (@AV.lit ([(@Value.int IntKind.i64 ((e12.getD y0 tok0)).kind), (@Value.string ((e12.getD y0 tok0)).text), (@Value.int IntKind.i64 ((e12.getD y0 tok0)).n)].getD y1 e1))))); let e14 := (@BA (@catL e12)); let e15 := (@AV.lit (@Value.string e14)); let e16 := (fun y0 => (fun y1 => (@AV.lit ([(@Value.int IntKind.i64 (((@cutT e14).getD y0 tok0)).kind), (@Value.string (((@cutT e14).getD y0 tok0)).text), (@Value.int IntKind.i64 (((@cutT e14).getD y0 tok0)).n)].getD y1 e1)))); let e17 := (@toksOf ((@cutT e14)).length e16); let e18 := (@AV.lit (@Value.string (@rdS e17))); (.fork (!(leI (((@ByteArray.size s) : Nat) : Int) (400 : Int))) (.need (@isSo (@And ((@HAppend.hAppend _ _ _ _ (@HAppend.hAppend _ _ _ _ ([] : List AV) ([] : List AV)) []) = []) True)) (.leaf (boo true))) (.need (@isSo (@And ((@HAppend.hAppend _ _ _ _ (@HAppend.hAppend _ _ _ _ [] [(@AV.lit (@Value.string s))]) []) = [(@AV.lit (@Value.string s))]) ((@ByteArray.size s) ≤ 100000000))) (.need (@isSo (@And (((@cutT s)).length ≤ ((@cutT s)).length) (@And (@TokRows ((@cutT s)).length e2) (@And ((e3).length ≤ 100000) (@TxtOk e3))))) (.fork (!(eqI (@rdE e3) (0 : Int))) (.fork (eqI (@rdE e3) (21 : Int)) (.need (@isSo (@And ((@HAppend.hAppend _ _ _ _ (@HAppend.hAppend _ _ _ _ [] [e8, (@AV.agg (@List.map _ _ AV.lit (@Array.toList _ (@Array.mk _ [(@Value.string e5), (@Value.slice none 0 0)]))))]) []) = [(@query e9 e10), (@AV.agg [e6, e7])]) e11)) (.fork (@sameQ e9 e5 e10 []) (.need (@isSo (@And ((@HAppend.hAppend _ _ _ _ (@HAppend.hAppend _ _ _ _ ([] : List AV) ([] : List AV)) []) = []) True)) (.leaf (boo true))) (.leaf (boo false)))) (.leaf (boo false))) (.need (@isSo (@And ((@HAppend.hAppend _ _ _ _ (@HAppend.hAppend _ _ _ _ [] [e8]) []) = [(@query e9 e10)]) (@And ((e10).length ≤ 100000) (@And ((@ByteArray.size e9) ≤ 9223372036854775807) (@PrnOk e9 e10))))) (.need (@isSo (@And ((@HAppend.hAppend _ _ _ _ (@HAppend.hAppend _ _ _ _ [] [e13]) []) = [e13]) (@PrOk e12))) (.need (@isSo (@And ((@HAppend.hAppend _ _ _ _ (@HAppend.hAppend _ _ _ _ [] [e15]) []) = [e15]) ((@ByteArray.size e14) ≤ 100000000))) (.need (@isSo (@And (((@cutT e14)).length ≤ ((@cutT e14)).length) (@And (@TokRows ((@cutT e14)).length e16) (@And ((e17).length ≤ 100000) (@TxtOk e17))))) (.fork (eqI (@prE e9 e10) (0 : Int)) (.fork (eqI (@rdE e17) (0 : Int)) (.need (@isSo (@And ((@HAppend.hAppend _ _ _ _ (@HAppend.hAppend _ _ _ _ [] [(@AV.agg (@List.take _ 2 (e18 :: (@qview (@rdN e17)) :: (@List.drop _ (0 + ([e18, (@qview (@rdN e17))]).length) [e6, e7])))), e8]) []) = [(@query e9 e10), (@AV.agg [e6, e7])]) e11)) (.fork (@sameQ e9 e5 e10 []) (.need (@isSo (@And ((@HAppend.hAppend _ _ _ _ (@HAppend.hAppend _ _ _ _ ([] : List AV) ([] : List AV)) []) = []) True)) (.leaf (boo true))) (.leaf (boo false)))) (.leaf (boo false))) (.leaf (boo false)))))))))))) (by kernel_rfl) (by
    conv => zeta
    refine fork_ok (fun q => need_so ⟨rfl, trivial⟩ rfl) (fun q => ?_)
    simp only [Bool.not_eq_false', leI_t] at q
    have hs : limB s.size := by unfold limB; omega
    have hx := cutT_len s
    have ox : TxtOk (cutT s) := fun t ht => by
      have := cutT_ok hs t ht
      have hm : maxLen ≤ 9223372036854775807 := by decide
      omega
    generalize cutT s = x at *
    have hxl : limC x := show x.length ≤ 100000 by omega
    rw [tk_kv x]
    refine need_so ⟨rfl, hs⟩ (need_so ⟨Nat.le_refl _, TokRows.kc x, hxl, ox⟩ ?_)
    obtain ⟨w1, w2, w3⟩ := rd_wrong he
    rw [w1, w2, w3]
    exact fork_t rfl (fork_t rfl (need_so ⟨rfl, Nat.zero_le _⟩ (fork_t (sameQ_self _ _) (need_so ⟨rfl, trivial⟩ rfl)))))
theorem Sy.qtx_yes (s : ByteArray) (he : rdE (cutT s) = 0) : CallTo Try.prog 4 [.lit (.string s)] M0 fun v _ => v = boo true :=
  toV [cKnown08, cCutA, cQpsG, cQpr (rdS (cutT s)) (rdN (cutT s)), cPri5 (prT (rdS (cutT s)) (rdN (cutT s))), cSer (rdS (cutT (BA (catL (prT (rdS (cutT s)) (rdN (cutT s))))))) (rdS (cutT s)) (rdN (cutT (BA (catL (prT (rdS (cutT s)) (rdN (cutT s))))))) (rdN (cutT s))] [] 400 30 (.br (.yes .done) (.yes (.yes (.br (.br (.auto 1 (.yes (.auto 0 (.br (.yes (.auto 0 .done)) (.auto 0 .done))))) (.auto 4 .done)) (.yes (.yes (.yes (.yes (.br (.auto 1 (.br (.auto 1 (.yes (.auto 0 (.br (.yes (.auto 0 .done)) (.auto 0 .done))))) (.auto 4 .done))) (.auto 7 .done)))))))))) (let e1 := (@Value.tuple (@Array.mk _ [])); let e2 := (fun y0 => (fun y1 => (@AV.lit ([(@Value.int IntKind.i64 (((@cutT s).getD y0 tok0)).kind), (@Value.string (((@cutT s).getD y0 tok0)).text), (@Value.int IntKind.i64 (((@cutT s).getD y0 tok0)).n)].getD y1 e1)))); let e3 := (@toksOf ((@cutT s)).length e2); let e4 := (@AV.lit (@Value.string (@rdS e3))); let e5 := (@Value.string (@ByteArray.mk (@Array.mk _ []))); let e6 := (@AV.lit (@Value.slice none 0 0)); let e7 := (@AV.agg (@List.take _ 2 (e4 :: (@qview (@rdN e3)) :: (@List.drop _ (0 + ([e4, (@qview (@rdN e3))]).length) [(@AV.lit e5), e6])))); let e8 := (@rdS (@cutT s)); let e9 := (@rdN (@cutT s)); let e10 := (@BA (@catL (@prT e8 e9))); let e11 := (@rdN (@cutT e10)); let e12 := (@query (@rdS (@cutT e10)) e11); let e13 := ((e11).length ≤ 17592186044416); let e14 := (@AV.view ((@prT e8 e9)).length 3 (fun y0 => (fun y1 => (@AV.lit ([(@Value.int IntKind.i64 (((@prT e8 e9).getD y0 tok0)).kind), (@Value.string (((@prT e8 e9).getD y0 tok0)).text), (@Value.int IntKind.i64 (((@prT e8 e9).getD y0 tok0)).n)].getD y1 e1))))); let e15 := (@AV.lit (@Value.string e10)); let e16 := (fun y0 => (fun y1 => (@AV.lit ([(@Value.int IntKind.i64 (((@cutT e10).getD y0 tok0)).kind), (@Value.string (((@cutT e10).getD y0 tok0)).text), (@Value.int IntKind.i64 (((@cutT e10).getD y0 tok0)).n)].getD y1 e1)))); let e17 := (@toksOf ((@cutT e10)).length e16); let e18 := (@AV.lit (@Value.string (@rdS e17))); (.fork (!(leI (((@ByteArray.size s) : Nat) : Int) (400 : Int))) (.need (@isSo (@And ((@HAppend.hAppend _ _ _ _ (@HAppend.hAppend _ _ _ _ ([] : List AV) ([] : List AV)) []) = []) True)) (.leaf (boo true))) (.need (@isSo (@And ((@HAppend.hAppend _ _ _ _ (@HAppend.hAppend _ _ _ _ [] [(@AV.lit (@Value.string s))]) []) = [(@AV.lit (@Value.string s))]) ((@ByteArray.size s) ≤ 100000000))) (.need (@isSo (@And (((@cutT s)).length ≤ ((@cutT s)).length) (@And (@TokRows ((@cutT s)).length e2) (@And ((e3).length ≤ 100000) (@TxtOk e3))))) (.fork (!(eqI (@rdE e3) (0 : Int))) (.fork (eqI (@rdE e3) (21 : Int)) (.need (@isSo (@And ((@HAppend.hAppend _ _ _ _ (@HAppend.hAppend _ _ _ _ [] [e7, (@AV.agg (@List.map _ _ AV.lit (@Array.toList _ (@Array.mk _ [e5, (@Value.slice none 0 0)]))))]) []) = [e12, (@query e8 e9)]) e13)) (.fork (@sameQ (@rdS (@cutT e10)) e8 e11 e9) (.need (@isSo (@And ((@HAppend.hAppend _ _ _ _ (@HAppend.hAppend _ _ _ _ ([] : List AV) ([] : List AV)) []) = []) True)) (.leaf (boo true))) (.leaf (boo false)))) (.leaf (boo false))) (.need (@isSo (@And ((@HAppend.hAppend _ _ _ _ (@HAppend.hAppend _ _ _ _ [] [e7]) []) = [(@query e8 e9)]) (@And ((e9).length ≤ 100000) (@And ((@ByteArray.size e8) ≤ 9223372036854775807) (@PrnOk e8 e9))))) (.need (@isSo (@And ((@HAppend.hAppend _ _ _ _ (@HAppend.hAppend _ _ _ _ [] [e14]) []) = [e14]) (@PrOk (@prT e8 e9)))) (.need (@isSo (@And ((@HAppend.hAppend _ _ _ _ (@HAppend.hAppend _ _ _ _ [] [e15]) []) = [e15]) ((@ByteArray.size e10) ≤ 100000000))) (.need (@isSo (@And (((@cutT e10)).length ≤ ((@cutT e10)).length) (@And (@TokRows ((@cutT e10)).length e16) (@And ((e17).length ≤ 100000) (@TxtOk e17))))) (.fork (eqI (@prE e8 e9) (0 : Int)) (.fork (eqI (@rdE e17) (0 : Int)) (.need (@isSo (@And ((@HAppend.hAppend _ _ _ _ (@HAppend.hAppend _ _ _ _ [] [(@AV.agg (@List.take _ 2 (e18 :: (@qview (@rdN e17)) :: (@List.drop _ (0 + ([e18, (@qview (@rdN e17))]).length) [(@AV.lit e5), e6])))), e7]) []) = [e12, (@query e8 e9)]) e13)) (.fork (@sameQ (@rdS (@cutT e10)) e8 e11 e9) (.need (@isSo (@And ((@HAppend.hAppend _ _ _ _ (@HAppend.hAppend _ _ _ _ ([] : List AV) ([] : List AV)) []) = []) True)) (.leaf (boo true))) (.leaf (boo false)))) (.leaf (boo false))) (.leaf (boo false)))))))))))) (by kernel_rfl) (by
    conv => zeta
    refine fork_ok (fun q => need_so ⟨rfl, trivial⟩ rfl) (fun q => ?_)
    simp only [Bool.not_eq_false', leI_t] at q
    have hs : limB s.size := by unfold limB; omega
    have hx := cutT_len s
    have ox : TxtOk (cutT s) := fun t ht => by
      have := cutT_ok hs t ht
      have hm : maxLen ≤ 9223372036854775807 := by decide
      omega
    generalize cutT s = x at *
    have hxl : limC x := show x.length ≤ 100000 by omega
    rw [tk_kv x]
    refine need_so ⟨rfl, hs⟩ (need_so ⟨Nat.le_refl _, TokRows.kc x, hxl, ox⟩ ?_)
    have hr := rd_right he
    rw [he]
    generalize rdS x = n at *
    generalize rdN x = xs at *
    have eT : prT n xs = qryT n xs := by unfold prT; rw [if_pos hr]
    have eE : prE n xs = 0 := by unfold prE; rw [if_pos hr]
    have hsz := right_size hr
    have hm : 1000 ≤ maxLen := by decide
    obtain ⟨_, ⟨_, h32⟩, _, _⟩ := right_parts hr
    obtain ⟨g1, g2⟩ := qry_nice hr
    have hch := g2.chain g1
    have hcut := cut_cat g1 hch
    have hlen := qry_len hr
    have hcs := cat_size _ g1
    have htx := qry_txt hr (by omega)
    obtain ⟨r1, r2, r3⟩ := qry_read hr
    have hpr : PrOk (qryT n xs) := ⟨g1, hch, by unfold limB; omega, by omega⟩
    have hb : (BA (catL (qryT n xs))).size ≤ 100000000 := by rw [ba_size]; omega
    have hpo := right_prn n xs
    have hlc : limC (qryT n xs) := show _ ≤ 100000 by omega
    rw [eT, eE, hcut]
    generalize qryT n xs = Q at *
    first | rw [tk_kv Q] | rw [toksOf_is (CellIs.kc Q)]
    rw [r1, r2, r3]
    refine fork_f rfl (need_so ⟨rfl, by omega, by omega, hpo⟩ (need_so ⟨rfl, hpr⟩ (need_so ⟨rfl, hb⟩ (need_so ⟨Nat.le_refl _, TokRows.kc Q, hlc, htx⟩ (fork_t rfl (fork_t rfl (need_so ⟨rfl, by omega⟩ (fork_t (sameQ_self _ _) (need_so ⟨rfl, trivial⟩ rfl)))))))))
    )
theorem texts_walk {W : World} (s : ByteArray) : Calls Try.prog 4 #[.string s] W fun e w' => e = .returned (.bool true) ∧ Below W.heap.size W w' := by
  by_cases he : rdE (cutT s) = 0
  · exact Sy.law_true (Sy.qtx_yes s he) (us := [_]) ⟨_, _, rfl, rfl, rfl⟩
  · exact Sy.law_true (Sy.qtx_no s he) (us := [_]) ⟨_, _, rfl, rfl, rfl⟩
end Go.Proofs.Ytlmanlpgknhfpaa
