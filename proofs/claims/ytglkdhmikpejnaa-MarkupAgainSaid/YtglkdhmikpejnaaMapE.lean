/-
  Lemmas for MarkupAgain, part 5; no conditions.
-/
import Derived.Lib.UnsafeStr
import Derived.RegionCalls
import Derived.Test.YtglkdhmikpejnaaMapD
set_option linter.unusedVariables false
set_option linter.unusedSimpArgs false
set_option linter.unusedSectionVars false
namespace Go.Proofs.Ytglkdhmikpejnaa
open Go Go.RowKit Pl Sy
namespace Sy
abbrev wwB (a o z : AV) : Blk := ⟨[a, o, z], 62, none⟩
abbrev byB (n : Nat) (c : Nat → Nat → AV) : Blk := ⟨[], 5, some ⟨n, 1, c⟩⟩
def AdrOk (b : Nat) (a : AV) : Prop := a = .lit (.pointer none) ∨ a = .ptr b 0
end Sy
theorem set3 {cur : Array Value} {ρ : Rho} {a o z : AV} (h : ∀ (i : Nat) (v : AV), [a, o, z][i]? = some v → ∃ u, cur[i]? = some u ∧ rel ρ v u) (hs : 3 ≤ cur.size) {a' : AV} {u' : Value} (hu : rel ρ a' u') (k : Nat) (hk : k < 3) :
    ∀ (i : Nat) (v : AV), ([a, o, z].set k a')[i]? = some v → ∃ u, (cur.setIfInBounds k u')[i]? = some u ∧ rel ρ v u := fun i v hv => by
  rw [List.getElem?_set] at hv
  rw [Array.getElem?_setIfInBounds]
  by_cases c : k = i
  · subst c
    rw [if_pos rfl] at hv
    rw [if_pos rfl]
    simp only [List.length_cons, List.length_nil] at hv
    rw [if_pos (by omega)] at hv
    simp only [Option.some.injEq] at hv
    subst hv
    rw [if_pos (by omega)]
    exact ⟨u', rfl, hu⟩
  · rw [if_neg c] at hv
    rw [if_neg c]
    exact h i v hv
theorem Sy.cc_at {M : Mem} {b : Nat} {a o z : AV} (hb : M.get b = some (wwB a o z)) (ha : AdrOk b a) : CallTo Try.prog 69 [.ptr b 0] M fun v M' => v = .tup [] ∧ M' = M.put b (some (wwB (.ptr b 0) o z)) := fun w0 ρ us w hr hW => by
  simp only [rels, rel] at hr
  obtain ⟨u, us1, rfl, ⟨g, tot, hg, rfl⟩, rfl⟩ := hr
  obtain ⟨q2, cur, q3, q4, q5⟩ := hW.holds hb hg
  obtain ⟨u0, e0, r0⟩ := q5.1 0 a rfl
  obtain ⟨u2, e2, r2⟩ := q5.1 2 z rfl
  have h3 : 3 ≤ cur.size := by
    have := (Array.getElem?_eq_some_iff.1 e2).1
    omega
  have hc0 : w.cell? ⟨g, 0, none⟩ = some u0 := by rw [Lib.cell_of_heap q3]; exact e0
  rcases ha with rfl | rfl
  · simp only [rel] at r0
    subst r0
    refine (cc_fresh g cur.size h3 w hc0 (by simp [World.shape?, q3]) (Lib.frozen_of_heap q3 0)).mono ?_
    rintro e w' ⟨rfl, rfl⟩
    refine ⟨ρ, .tuple #[], .tup [], _, rfl, Ext.refl ρ, by simp [rel, rels], ?_, rfl, rfl⟩
    rw [setCell_row q3 0 (by omega)]
    exact hW.set hb hg (cs := [.ptr b 0, o, z]) (by rw [Array.size_setIfInBounds]; exact q4) (set3 q5.1 h3 (a' := .ptr b 0) (by simp only [rel]; exact ⟨g, tot, hg, rfl⟩) 0 (by decide))
  · simp only [rel] at r0
    obtain ⟨g', tot', hg', rfl⟩ := r0
    rw [hg] at hg'
    simp only [Option.some.injEq, Prod.mk.injEq] at hg'
    obtain ⟨rfl, rfl⟩ := hg'
    refine (cc_used g w hc0).mono ?_
    rintro e w' ⟨rfl, rfl⟩
    refine ⟨ρ, .tuple #[], .tup [], _, rfl, Ext.refl ρ, by simp [rel, rels], ?_, rfl, rfl⟩
    rw [put_same hb]
    exact hW.restamp _
theorem wpList_run {P : Program} {w : World} {ops : Array Oper} {rest : List Oper} {o : Oper} {a : Act} {Q : Exit → Act → World → Prop} (hgd : o.guard = none) (sl x : Operand) (t u : TypeId)
    (ho : o.op = .call { callee := .builtin .append, args := #[sl, x], argTypes := #[t, u] }) (v : Value) (hs : a.eval sl = v) (s : Value) (hx : a.eval x = s) {v' : Value} {w' : World} (hr : (Builtin.append_ #[t, u] o.type #[v, s]).run P w = .ok v' w') (h : wpList P ops Q rest (a.put o.dst v') w') : wpList P ops Q (o :: rest) a w := by
  refine wpList_plain hgd fun K hK => ?_
  unfold Oper.wp execOp
  simp only [ho, resolve, invoke, builtin, Sem.run_bind, Sem.run_pure, Result.andThen_ok, List.map_toArray, List.map_cons, List.map_nil, hs, hx, hr]
  exact hK _ _ h
theorem own_slice {ρ : Rho} {b n s : Nat} {u : Value} (h : rel ρ (.own b n s) u) : ∃ ao k cp, u = .slice ao k cp := by
  simp only [rel] at h
  rcases h with ⟨_, _, rfl⟩ | ⟨g, tot, cap, _, rfl, _⟩
  · exact ⟨_, _, _, rfl⟩
  · exact ⟨_, _, _, rfl⟩
theorem wpList_does {P : Program} {w w0 : World} {ρ : Rho} {M' : Mem} {v0 : AV} {ops : Array Oper} {rest : List Oper} {o : Oper} {a : Act} {Q : Exit → Act → World → Prop} (hgd : o.guard = none) (sl x : Operand) (t u : TypeId)
    (ho : o.op = .call { callee := .builtin .append, args := #[sl, x], argTypes := #[t, u] }) (v : Value) (hs : a.eval sl = v) (s : Value) (hx : a.eval x = s) (hD : ∀ ty, Does P w0 ρ M' v0 w (Builtin.append_ #[t, u] ty #[v, s])) (h : ∀ ρ' u' w', Ext ρ ρ' → rel ρ' v0 u' → WR w0 ρ' M' w' → wpList P ops Q rest (a.put o.dst u') w') : wpList P ops Q (o :: rest) a w := by
  obtain ⟨ρ', u', w', h1, h2, h3, h4⟩ := hD o.type
  exact wpList_run hgd sl x t u ho v hs s hx h4 (h ρ' u' w' h1 h2 h3)
namespace Sy
noncomputable def wsRes (M : Mem) (b x n : Nat) (c : Nat → Nat → AV) (s : ByteArray) (z : AV) : Mem := (((M.put b (some (wwB (.ptr b 0) (.own x n 1) z))).put x none).push (byB (n + s.size) (appc n c (tcell s)))).put b (some (wwB (.ptr b 0) (.own M.top (n + s.size) 1) z))
end Sy
theorem u8_info : ∃ i, Try.prog.info? 5 = some i ∧ i.zero = some (.int .u8 0) ∧ i.size = 1 ∧ i.bytes = 1 := by
  have h : (Try.prog.info? 5).map (fun i => (i.zero, i.size, i.bytes)) = some (some (.int .u8 0), 1, 1) := by kernel_rfl
  obtain ⟨i, hi, he⟩ := Option.map_eq_some_iff.1 h
  simp only [Prod.mk.injEq] at he
  exact ⟨i, hi, he.1, he.2.1, he.2.2⟩
set_option maxRecDepth 100000 in
theorem Sy.ws_at {M : Mem} {b x n m : Nat} {a z : AV} {c : Nat → Nat → AV} (hb : M.get b = some (wwB a (.own x n 1) z)) (hx : M.get x = some (byB m c)) (hnm : n ≤ m) (ha : AdrOk b a) (s : ByteArray) (hl : n + s.size ≤ 17592186044416) :
    CallTo Try.prog 48 [.ptr b 0, .lit (.string s)] M fun v M' => v = .tup [int s.size, .lit .nilIface] ∧ M' = wsRes M b x n c s z := fun w0 ρ us w hr hW => by
  obtain ⟨i, hi, hz, hs1, hb1⟩ := u8_info
  have hne : x ≠ b := fun e => by subst e; rw [hb] at hx; cases hx
  simp only [rels, rel] at hr
  obtain ⟨u, us1, rfl, ⟨g, tot, hg, rfl⟩, u2, us2, rfl, rfl, rfl⟩ := hr
  have key := cc_at hb ha w0 ρ [.pointer (some ⟨g, 0, none⟩)] w (by simp only [rels, rel]; exact ⟨_, _, rfl, ⟨g, tot, hg, rfl⟩, rfl⟩) hW
  go_enter Try.func48, Try.ntmps48
  have hbx : x < M.top := Mem.get_lt hx
  have hbt : b < M.top := Mem.get_lt hb
  have hx1 : (M.put b (some (wwB (.ptr b 0) (.own x n 1) z))).get x = some (byB m c) := by rw [Mem.get_put_ne _ hbt hne]; exact hx
  have hb2 : (((M.put b (some (wwB (.ptr b 0) (.own x n 1) z))).put x none).push (byB (n + s.size) (appc n c (tcell s)))).get b = some (wwB (.ptr b 0) (.own x n 1) z) := by
    rw [Mem.get_push_old ((M.put b (some (wwB (.ptr b 0) (.own x n 1) z))).put x none) _ (show b < M.top from hbt), Mem.get_put_ne (M := M.put b (some (wwB (.ptr b 0) (.own x n 1) z))) none (show x < M.top from hbx) (fun e => hne e.symm)]
    exact put_get hb
  go_wp2_with (first
    | (go_at_call 69; refine key.mono ?_; rintro e w1 ⟨ρ1, u1, v1, M1, rfl, hE1, hv1, hW1, rfl, rfl⟩; obtain ⟨p2, cur1, p3, p4, p5⟩ := hW1.holds (put_get hb) (hE1.blk _ _ hg); obtain ⟨uo, eo, ro⟩ := p5.1 1 (.own x n 1) rfl; have c1 : w1.cell? ⟨g, 1, none⟩ = some uo := (by rw [Lib.cell_of_heap p3]; exact eo))
    | (at_builtin; refine wpList_does rfl _ _ _ _ rfl _ rfl _ rfl (fun ty => appStr_sound (ty := ty) hW1 Try.underlying58 Try.underlying9 hi hz hs1 hb1 ro hx1 hnm s hl) ?_; intro ρ2 u3 w2 hE2 hv2 hW2; obtain ⟨ao, k3, cp, rfl⟩ := own_slice hv2; obtain ⟨r2, cur2, r3, r4, r5⟩ := hW2.holds hb2 ((hE1.trans hE2).blk _ _ hg); obtain ⟨uq, eq2, rq⟩ := r5.1 1 (.own x n 1) rfl; have c2 : w2.cell? ⟨g, 1, none⟩ = some uq := (by rw [Lib.cell_of_heap r3]; exact eq2); have f2 : w2.frozen? ⟨g, 1, none⟩ = false := Lib.frozen_of_heap r3 1))
  go_ret2
  have h3 : 3 ≤ cur2.size := by
    obtain ⟨u2, e2, _⟩ := r5.1 2 z rfl
    have := (Array.getElem?_eq_some_iff.1 e2).1
    omega
  refine ⟨ρ2, _, rfl, hE1.trans hE2, ?_, ?_⟩
  · simp [rel, rels]
  · rw [setCell_row r3 1 (by omega)]
    exact hW2.set hb2 ((hE1.trans hE2).blk _ _ hg) (cs := [.ptr b 0, .own M.top (n + s.size) 1, z]) (by rw [Array.size_setIfInBounds]; exact r4) (set3 r5.1 h3 hv2 1 (by decide))
end Go.Proofs.Ytglkdhmikpejnaa
namespace Go.Proofs.Ytglkdhmikpejnaa
open Go Go.RowKit Pl Sy
theorem byteAt_list {s : ByteArray} {i : Nat} : byteAt s i = match s.data.toList[i]? with | some b => (b.toNat : Int) | none => 0 := by
  unfold byteAt
  rw [nth_eq]
  cases s.data.toList[i]? <;> rfl
namespace Sy
def TIs (n : Nat) (c : Nat → Nat → AV) (T : ByteArray) : Prop := n = T.size ∧ ∀ i j, i < n → j < 1 → c i j = tcell T i j
def ByRows (n : Nat) (c : Nat → Nat → AV) : Prop := ∃ T, TIs n c T
theorem TIs.base (T : ByteArray) : TIs T.size (tcell T) T := ⟨rfl, fun _ _ _ _ => rfl⟩
theorem TIs.rows {n : Nat} {c : Nat → Nat → AV} {T : ByteArray} (h : TIs n c T) : ByRows n c := ⟨T, h⟩
theorem TIs.app {n m : Nat} {c d : Nat → Nat → AV} {T X : ByteArray} (h : TIs n c T) (h' : TIs m d X) : TIs (n + m) (appc n c d) (T ++ X) := ⟨by rw [ByteArray.size_append, h.1, h'.1], fun i j hi hj => by
  have hl : (T ++ X).data.toList = T.data.toList ++ X.data.toList := by simp [ByteArray.data_append]
  have hT : T.data.toList.length = n := by rw [← size_toList, h.1]
  by_cases hlt : i < n
  · rw [appc_lt hlt, h.2 i j hlt hj]
    unfold tcell
    rw [byteAt_list, byteAt_list, hl, List.getElem?_append_left (by omega)]
  · rw [appc_ge (by omega), h'.2 (i - n) j (by omega) hj]
    unfold tcell
    rw [byteAt_list, byteAt_list, hl, List.getElem?_append_right (by omega), hT]⟩
theorem TIs.app2 {n : Nat} {c : Nat → Nat → AV} {T : ByteArray} (h : TIs n c T) (X : ByteArray) : TIs (n + X.size) (appc n c (tcell X)) (T ++ X) := h.app (TIs.base X)
theorem TIs.cast {n : Nat} {c : Nat → Nat → AV} {T T' : ByteArray} (h : TIs n c T) (e : T = T') : TIs n c T' := e ▸ h
theorem TIs.one {d : Nat → Nat → AV} (k : UInt8) (h : d 0 0 = .lit (.int .u8 k.toNat)) : TIs 1 d ⟨⟨[k]⟩⟩ := ⟨rfl, fun i j hi hj => by
  obtain rfl : i = 0 := by omega
  obtain rfl : j = 0 := by omega
  rw [h]
  rfl⟩
theorem TIs.ren {n : Nat} {c : Nat → Nat → AV} {T : ByteArray} (h : TIs n c T) (σ : Nat → Option Nat) {i j : Nat} (hi : i < n) (hj : j < 1) : RenV σ (c i j) (tcell T i j) := by
  rw [h.2 i j hi hj]; exact rfl
noncomputable abbrev xM (a : AV) (T : ByteArray) (z : AV) : Mem := ⟨2, 0, [some (byB T.size (tcell T)), some (wwB a (.own 1 T.size 1) z)]⟩
def XEnd (M' : Mem) (T : ByteArray) (z : AV) : Prop := ∃ x n c, M'.get 0 = some (wwB (.ptr 0 0) (.own x n 1) z) ∧ M'.get x = some (byB n c) ∧ TIs n c T
structure XW where
  wb : Nat
  x : Nat
  n : Nat
  m : Nat
  c : Nat → Nat → AV
  a : AV
  z : AV
  rest : List AV
def xGet3 (wb x n : Nat) (a z : AV) (rest : List AV) : Option Blk → Option XW
  | some ⟨[], e, some R⟩ => match Nat.beq e 5 && Nat.beq R.s 1 with
    | true => some ⟨wb, x, n, R.n, R.cell, a, z, rest⟩
    | false => none
  | _ => none
noncomputable def xGet2 (M : Mem) (wb : Nat) (rest : List AV) : Option Blk → Option XW
  | some ⟨[a, .own x n s, z], e, none⟩ => match Nat.beq s 1 && Nat.beq e 62 with
    | true => xGet3 wb x n a z rest (M.get x)
    | false => none
  | _ => none
noncomputable def xGet (args : List AV) (M : Mem) : Option XW := match args with
  | .ptr wb 0 :: rest => xGet2 M wb rest (M.get wb)
  | _ => none
theorem xGet2_ok {M : Mem} {wb : Nat} {rest : List AV} {x : XW} (h : xGet2 M wb rest (M.get wb) = some x) : x.wb = wb ∧ x.rest = rest ∧ M.get x.wb = some (wwB x.a (.own x.x x.n 1) x.z) ∧ M.get x.x = some (byB x.m x.c) := by
  cases hg : M.get wb with
  | none => rw [hg] at h; cases h
  | some B =>
    rw [hg] at h
    unfold xGet2 at h
    split at h
    · rename_i a b n s z e heq
      simp at heq
      subst heq
      split at h
      · rename_i hb
        simp only [Bool.and_eq_true] at hb
        obtain ⟨h1, h2⟩ := hb
        have h1 := Nat.eq_of_beq_eq_true h1
        have h2 := Nat.eq_of_beq_eq_true h2
        subst h1 h2
        cases hg2 : M.get b with
        | none => rw [hg2] at h; cases h
        | some B2 =>
          rw [hg2] at h
          unfold xGet3 at h
          split at h
          · rename_i e R heq
            simp at heq
            subst heq
            split at h
            · rename_i hb
              simp only [Bool.and_eq_true] at hb
              obtain ⟨h1, h2⟩ := hb
              have h1 := Nat.eq_of_beq_eq_true h1
              have h2 := Nat.eq_of_beq_eq_true h2
              simp at h
              subst h
              refine ⟨rfl, rfl, hg, ?_⟩
              rw [hg2, h1]
              obtain ⟨rn, rs, rc⟩ := R
              simp only at h2
              subst h2
              rfl
            · cases h
          · cases h
      · cases h
    · cases h
noncomputable def xRes (M : Mem) (wb x n : Nat) (c : Nat → Nat → AV) (X : ByteArray) (z : AV) : Mem := ((M.put x none).put wb (some (wwB (.ptr wb 0) (.own M.top (n + X.size) 1) z))).push (byB (n + X.size) (appc n c (tcell X)))
theorem xRes_get {M : Mem} {wb b n : Nat} {cell : Nat → Nat → AV} {X : ByteArray} {z : AV} {B0 B1 : Blk} (h0 : M.get wb = some B0) (h1 : M.get b = some B1) (hne : wb ≠ b) {x : Nat} {B' : Blk} (h : (xRes M wb b n cell X z).get x = some B') :
    (x = M.top ∧ B' = byB (n + X.size) (appc n cell (tcell X))) ∨ (x = wb ∧ B' = wwB (.ptr wb 0) (.own M.top (n + X.size) 1) z) ∨ (x < M.top ∧ x ≠ wb ∧ x ≠ b ∧ M.get x = some B') := by
  have hw := Mem.get_lt h0
  have hb := Mem.get_lt h1
  unfold xRes at h
  rcases Mem.get_push h with ⟨h2, h3⟩ | ⟨h2, h3⟩
  · exact .inl ⟨h2, h3⟩
  · have h2' : x < M.top := h2
    rcases Mem.get_put (M := M.put b none) (b := wb) hw h3 with ⟨rfl, e⟩ | ⟨e1, e2⟩
    · simp at e; exact .inr (.inl ⟨rfl, e.symm⟩)
    · rcases Mem.get_put hb e2 with ⟨_, e3⟩ | ⟨e3, e4⟩
      · cases e3
      · exact .inr (.inr ⟨h2', e1, e3, e4⟩)
def tauX (wb top k : Nat) : Nat → Option Nat := fun x => if x = wb then some 0 else if x = top then some k else none
theorem tauX_of {wb top k x c : Nat} (h : tauX wb top k x = some c) : (x = wb ∧ c = 0) ∨ (x = top ∧ x ≠ wb ∧ c = k) := by
  unfold tauX at h
  split at h
  · simp at h; omega
  · split at h
    · simp at h; omega
    · cases h
theorem xJoin {M M2 : Mem} {wb x n k m2 : Nat} {c c2 : Nat → Nat → AV} {a z : AV} {T X : ByteArray} {Tt : Nat} (hT : 1 ≤ Tt) (h0 : M.get wb = some (wwB a (.own x n 1) z)) (h1 : M.get x = some (byB n c)) (hc : TIs n c T) (hz : Free z) (q1 : M2.get 0 = some (wwB (.ptr 0 0) (.own k m2 1) z)) (q2 : M2.get k = some (byB m2 c2)) (q3 : TIs m2 c2 (T ++ X)) :
    Join Tt (nm [wb, x]) (tauX wb M.top k) M M2 (xRes M wb x n c X z) := by
  have hwt := Mem.get_lt h0
  have hxt := Mem.get_lt h1
  have hne : wb ≠ x := fun e => by subst e; rw [h0] at h1; cases h1
  have hk0 : k ≠ 0 := fun e => by subst e; rw [q1] at q2; cases q2
  have hm2 : m2 = n + X.size := by rw [q3.1, ByteArray.size_append, ← hc.1]
  have t0 : tauX wb M.top k wb = some 0 := by unfold tauX; rw [if_pos rfl]
  have t1 : tauX wb M.top k M.top = some k := by unfold tauX; rw [if_neg (by omega), if_pos rfl]
  refine ⟨Nat.le_succ _, fun y d hy => ?_, fun y d hlt hy => ?_, fun y y' d hy hy' => ?_, fun y B' hy => ?_⟩
  · show y < M.top + 1
    rcases tauX_of hy with ⟨h, _⟩ | ⟨h, _⟩ <;> omega
  · rcases tauX_of hy with ⟨rfl, rfl⟩ | ⟨h, _⟩
    · exact ⟨by omega, rfl⟩
    · omega
  · rcases tauX_of hy with ⟨h, h'⟩ | ⟨h, _, h'⟩ <;> rcases tauX_of hy' with ⟨g, g'⟩ | ⟨g, _, g'⟩ <;> omega
  · rcases xRes_get h0 h1 hne hy with ⟨rfl, rfl⟩ | ⟨rfl, rfl⟩ | ⟨e1, e2, e3, e4⟩
    · refine .inr ⟨k, _, t1, q2, rfl, trivial, hm2.symm, rfl, fun i j hi hj => ?_⟩
      show RenV _ (c2 i j) (appc n c (tcell X) i j)
      have hi : i < n + X.size := hi
      rw [q3.2 i j (by omega) hj, (hc.app2 X).2 i j hi hj]
      exact rfl
    · exact .inr ⟨0, _, t0, q1, rfl, ⟨⟨t0, rfl⟩, ⟨t1, hm2, rfl⟩, RenV.free _ hz, trivial⟩, trivial⟩
    · refine .inl ⟨e1, fun d hd => ?_, e4⟩
      rcases d with _ | _ | d
      · have : some wb = some y := hd
        simp at this; omega
      · have : some x = some y := hd
        simp at this; omega
      · cases hd
theorem adr_pick {b : Nat} {a : AV} (ha : AdrOk b a) (σ : Nat → Option Nat) (h : σ 0 = some b) : ∃ a', AdrOk 0 a' ∧ RenV σ a a' := by
  rcases ha with rfl | rfl
  · exact ⟨.lit (.pointer none), .inl rfl, rfl⟩
  · exact ⟨.ptr 0 0, .inr rfl, h, rfl⟩
theorem conX_frame {P : Program} {f : FuncId} {rest : List AV} {T X : ByteArray} {v0 z : AV} (h : ∀ a0, AdrOk 0 a0 → CallTo P f (.ptr 0 0 :: rest) (xM a0 T z) fun v M' => v = v0 ∧ XEnd M' (T ++ X) z) (hf : Frees rest) (hv : Free v0) (hz : Free z) {M : Mem} {wb x n : Nat} {a : AV} {c : Nat → Nat → AV} (h0 : M.get wb = some (wwB a (.own x n 1) z)) (h1 : M.get x = some (byB n c)) (hc : TIs n c T) (ha : AdrOk wb a) :
    CallTo P f (.ptr wb 0 :: rest) M fun v M' => v = v0 ∧ M' = xRes M wb x n c X z := by
  have hne : wb ≠ x := fun e => by subst e; rw [h0] at h1; cases h1
  obtain ⟨a0, ha0, hfr⟩ := adr_pick ha (nm [wb, x]) rfl
  refine CallTo.frameG (σ := nm [wb, x]) (h a0 ha0) ⟨⟨rfl, rfl⟩, RenVs.free _ hf⟩ (.of rfl rfl (by simp [hne]) ⟨⟨x, _, rfl, h1, rfl, trivial, hc.1.symm, rfl, fun i j hi hj => hc.ren _ (by have hi : i < T.size := hi; have := hc.1; omega) hj⟩, ⟨wb, _, rfl, h0, rfl, ⟨hfr, ⟨rfl, hc.1, rfl⟩, RenV.free _ hz, trivial⟩, trivial⟩, trivial⟩) ?_ ?_
  · intro y d hy
    rcases y with _ | _ | y
    · exact ⟨_, rfl⟩
    · exact ⟨_, rfl⟩
    · cases hy
  · rintro v M2 ⟨rfl, k, m2, c2, q1, q2, q3⟩
    exact ⟨tauX wb M.top k, _, _, ⟨rfl, rfl⟩, RenV.free _ hv, xJoin (Nat.le_of_ble_eq_true rfl) h0 h1 hc hz q1 q2 q3⟩
end Sy
def limX (n : Nat) : Prop := n ≤ 100000000
namespace Sy
noncomputable def conX {Y : Type} (z : AV) (hz : Free z) (f : FuncId) (get : List AV → Option Y) (args0 : Y → List AV) (v0 : Y → AV) (X : Y → ByteArray) (C : Y → Prop) (h : ∀ T y, C y → limX (T.size + (X y).size) → (Frees (args0 y) ∧ Free (v0 y)) ∧ ∀ a0, AdrOk 0 a0 → CallTo Try.prog f (.ptr 0 0 :: args0 y) (xM a0 T z) fun v M' => v = v0 y ∧ XEnd M' (T ++ X y) z) : Con Try.prog where
  f := f
  run := fun args M => match xGet args M with
    | some x => match get x.rest with
      | some y => some (v0 y, xRes M x.wb x.x x.n x.c (X y) z)
      | none => none
    | none => none
  ob := fun args M => match xGet args M with
    | some x => match get x.rest with
      | some y => some (isSo (x.rest = args0 y ∧ ByRows x.n x.c ∧ x.m = x.n ∧ AdrOk x.wb x.a ∧ x.z = z ∧ C y ∧ limX (x.n + (X y).size)))
      | none => none
    | none => none
  ok := fun args M v M' hr hob => by
    cases hg : xGet args M with
    | none => rw [hg] at hr; cases hr
    | some x =>
      rw [hg] at hr hob
      cases hy : get x.rest with
      | none => simp only [hy] at hr; cases hr
      | some y =>
        simp only [hy] at hr hob
        simp at hr
        obtain ⟨rfl, rfl⟩ := hr
        have h1 := hob _ rfl
        rw [isSo_t] at h1
        obtain ⟨hrest, ⟨T, hT⟩, hm, ha, hxz, hC, hl⟩ := h1
        unfold xGet at hg
        split at hg
        · rename_i wb rest
          obtain ⟨rfl, e, g0, g1⟩ := xGet2_ok hg
          rw [hm] at g1
          rw [hxz] at g0
          rw [← e, hrest]
          have hl2 : limX (T.size + (X y).size) := by rw [← hT.1]; exact hl
          refine ⟨?_, conX_frame (h T y hC hl2).2 (h T y hC hl2).1.1 (h T y hC hl2).1.2 hz g0 g1 hT ha⟩
          unfold xRes
          exact ((Grow.put M _ _).trans (Grow.put _ _ _)).trans (Grow.push _ _)
        · cases hg
structure CcX where
  b : Nat
  a : AV
  o : AV
  z : AV
noncomputable def ccGet (args : List AV) (M : Mem) : Option CcX := match args with
  | [.ptr b 0] => match M.get b with
    | some ⟨[a, o, z], _, none⟩ => some ⟨b, a, o, z⟩
    | _ => none
  | _ => none
theorem ccGet_ok {args : List AV} {M : Mem} {x : CcX} (h : ccGet args M = some x) : args = [.ptr x.b 0] := by
  unfold ccGet at h
  split at h
  · split at h
    · simp at h; subst h; rfl
    · cases h
  · cases h
noncomputable abbrev cCC : Con Try.prog where
  f := 69
  run := fun args M => match ccGet args M with
    | some x => some (.tup [], M.put x.b (some (wwB (.ptr x.b 0) x.o x.z)))
    | none => none
  ob := fun args M => match ccGet args M with
    | some x => some (isSo (M.get x.b = some (wwB x.a x.o x.z) ∧ AdrOk x.b x.a))
    | none => none
  ok := fun args M v M' hr hob => by
    cases hg : ccGet args M with
    | none => rw [hg] at hr; cases hr
    | some x =>
      rw [hg] at hr hob
      simp at hr
      obtain ⟨rfl, rfl⟩ := hr
      have h1 := hob _ rfl
      rw [isSo_t] at h1
      rw [ccGet_ok hg]
      exact ⟨Grow.put _ _ _, cc_at h1.1 h1.2⟩
structure WsX where
  w : XW
  s : ByteArray
noncomputable def wsGet (args : List AV) (M : Mem) : Option WsX := match args with
  | [.ptr wb 0, .lit (.string s)] => match xGet2 M wb [] (M.get wb) with
    | some x => some ⟨x, s⟩
    | none => none
  | _ => none
theorem wsGet_ok {args : List AV} {M : Mem} {x : WsX} (h : wsGet args M = some x) : args = [.ptr x.w.wb 0, .lit (.string x.s)] ∧ M.get x.w.wb = some (wwB x.w.a (.own x.w.x x.w.n 1) x.w.z) ∧ M.get x.w.x = some (byB x.w.m x.w.c) := by
  unfold wsGet at h
  split at h
  · rename_i wb s
    cases hg : xGet2 M wb [] (M.get wb) with
    | none => rw [hg] at h; cases h
    | some y =>
      rw [hg] at h
      simp at h
      subst h
      obtain ⟨rfl, _, g0, g1⟩ := xGet2_ok hg
      exact ⟨rfl, g0, g1⟩
  · cases h
noncomputable abbrev cWs : Con Try.prog where
  f := 48
  run := fun args M => match wsGet args M with
    | some x => some (.tup [int x.s.size, .lit .nilIface], wsRes M x.w.wb x.w.x x.w.n x.w.c x.s x.w.z)
    | none => none
  ob := fun args M => match wsGet args M with
    | some x => some (isSo (x.w.n ≤ x.w.m ∧ AdrOk x.w.wb x.w.a ∧ x.w.n + x.s.size ≤ 17592186044416))
    | none => none
  ok := fun args M v M' hr hob => by
    cases hg : wsGet args M with
    | none => rw [hg] at hr; cases hr
    | some x =>
      rw [hg] at hr hob
      simp at hr
      obtain ⟨rfl, rfl⟩ := hr
      have h1 := hob _ rfl
      rw [isSo_t] at h1
      obtain ⟨e, g0, g1⟩ := wsGet_ok hg
      rw [e]
      refine ⟨?_, ws_at g0 g1 h1.1 h1.2.1 x.s h1.2.2⟩
      unfold wsRes
      exact (((Grow.put M _ _).trans (Grow.put _ _ _)).trans (Grow.push _ _)).trans (Grow.put _ _ _)
end Sy
namespace Sy
noncomputable abbrev xpM (B : Blk) (T : ByteArray) (z : AV) : Mem := ⟨3, 0, [some (byB T.size (tcell T)), some B, some (wwB (.ptr 0 0) (.own 2 T.size 1) z)]⟩
def tauP (wb pb top : Nat) : Nat → Option Nat := fun x => if x = wb then some 0 else if x = pb then some 1 else if x = top then some 2 else none
theorem tauP_of {wb pb top x c : Nat} (h : tauP wb pb top x = some c) : (x = wb ∧ c = 0) ∨ (x = pb ∧ x ≠ wb ∧ c = 1) ∨ (x = top ∧ x ≠ wb ∧ x ≠ pb ∧ c = 2) := by
  unfold tauP at h
  split at h
  · simp at h; omega
  · split at h
    · simp at h; omega
    · split at h
      · simp at h; omega
      · cases h
end Sy
theorem Sy.loopX_frame {P : Program} {body : Code} {m : Nat} {Fc Fc' F F' : Fr} {e : Ex} {B : Blk} {T X : ByteArray} {z : AV} (h : LoopToT 2 P body m Fc (xpM B T z) fun ex F2 M2 => ex = e ∧ F2 = Fc' ∧ M2 = xpM B (T ++ X) z) {M : Mem} {wb pb x n : Nat} {c : Nat → Nat → AV}
    (hF : RenF (nm [wb, pb, x]) F Fc) (hF' : ∀ τ : Nat → Option Nat, τ wb = some 0 → τ pb = some 1 → RenF τ Fc' F') (h0 : M.get wb = some (wwB (.ptr wb 0) (.own x n 1) z)) (h1 : M.get x = some (byB n c)) (h2 : M.get pb = some B) (hp : pb ≠ wb ∧ pb ≠ x) (hB : Frees B.cells) (hBr : B.rows = none) (hz : Free z) (hc : TIs n c T) :
    LoopTo P body m F M fun ex F2 M2 => ex = e ∧ F2 = F' ∧ M2 = xRes M wb x n c X z := by
  have hne : wb ≠ x := fun e => by subst e; rw [h0] at h1; cases h1
  have hwt := Mem.get_lt h0
  have hxt := Mem.get_lt h1
  have hpt := Mem.get_lt h2
  have hn := hc.1
  have hBB : ∀ σ, RenB σ B B := fun σ => ⟨rfl, RenVs.free σ hB, by rw [hBr]; exact trivial⟩
  refine LoopToT.frame (σ := nm [wb, pb, x]) h hF (.of rfl rfl (by simp; omega) ⟨⟨x, _, rfl, h1, rfl, trivial, hn.symm, rfl, fun i j hi hj => hc.ren _ (by have hi : i < T.size := hi; omega) hj⟩, ⟨pb, _, rfl, h2, hBB _⟩, ⟨wb, _, rfl, h0, rfl, ⟨⟨rfl, rfl⟩, ⟨rfl, hn, rfl⟩, RenV.free _ hz, trivial⟩, trivial⟩, trivial⟩) ?_ ?_
  · intro y d hy
    rcases y with _ | _ | _ | y
    · exact ⟨_, rfl⟩
    · exact ⟨_, rfl⟩
    · exact ⟨_, rfl⟩
    · cases hy
  · rintro ex F2 M2 ⟨rfl, rfl, rfl⟩
    have t0 : tauP wb pb M.top wb = some 0 := by simp [tauP]
    have t1 : tauP wb pb M.top pb = some 1 := by simp [tauP, hp.1]
    have t2 : tauP wb pb M.top M.top = some 2 := by
      unfold tauP
      rw [if_neg (by omega), if_neg (by omega), if_pos rfl]
    have hlen : (T ++ X).size = n + X.size := by rw [ByteArray.size_append, hn]
    refine ⟨tauP wb pb M.top, F', _, ⟨rfl, rfl, rfl⟩, hF' _ t0 t1, Nat.le_succ _, fun y d hy => ?_, fun y d hlt hy => ?_, fun y y' d hy hy' => ?_, fun y B' hy => ?_⟩
    · show y < M.top + 1
      rcases tauP_of hy with ⟨h, _⟩ | ⟨h, _⟩ | ⟨h, _⟩ <;> omega
    · rcases tauP_of hy with ⟨rfl, rfl⟩ | ⟨rfl, _, rfl⟩ | ⟨h, _⟩
      · exact ⟨by omega, rfl⟩
      · exact ⟨by omega, rfl⟩
      · omega
    · rcases tauP_of hy with ⟨h, h'⟩ | ⟨h, _, h'⟩ | ⟨h, _, _, h'⟩ <;> rcases tauP_of hy' with ⟨k, k'⟩ | ⟨k, _, k'⟩ | ⟨k, _, _, k'⟩ <;> omega
    · rcases xRes_get h0 h1 hne hy with ⟨rfl, rfl⟩ | ⟨rfl, rfl⟩ | ⟨e1, e2, e3, e4⟩
      · refine .inr ⟨2, _, t2, rfl, rfl, trivial, hlen.symm, rfl, fun i j hi hj => ?_⟩
        show RenV _ (tcell (T ++ X) i j) (appc n c (tcell X) i j)
        have hi : i < n + X.size := hi
        rw [(hc.app2 X).2 i j hi hj]
        exact rfl
      · exact .inr ⟨0, _, t0, rfl, rfl, ⟨⟨t0, rfl⟩, ⟨t2, hlen, rfl⟩, RenV.free _ hz, trivial⟩, trivial⟩
      · by_cases hpy : y = pb
        · subst hpy
          rw [h2] at e4
          simp at e4
          subst e4
          exact .inr ⟨1, B, t1, rfl, hBB _⟩
        · refine .inl ⟨e1, fun d hd => ?_, e4⟩
          rcases d with _ | _ | _ | d
          · have : some wb = some y := hd
            simp at this; omega
          · have : some pb = some y := hd
            simp at this; omega
          · have : some x = some y := hd
            simp at this; omega
          · cases hd
namespace Sy
structure XY where
  M : Mem
  pb : Nat
  w : XW
noncomputable def xyGet (a b : Nat) (F : Fr) (M : Mem) : Option XY := match nth F a, nth F b with
  | some (some (.ptr wb 0)), some (some (.ptr pb 0)) => match xGet2 M wb [] (M.get wb) with
    | some x => some ⟨M, pb, x⟩
    | none => none
  | _, _ => none
theorem xyGet_ok {a b : Nat} {F : Fr} {M : Mem} {x : XY} (h : xyGet a b F M = some x) : x.M = M ∧ M.get x.w.wb = some (wwB x.w.a (.own x.w.x x.w.n 1) x.w.z) ∧ M.get x.w.x = some (byB x.w.m x.w.c) := by
  unfold xyGet at h
  split at h
  · rename_i wb v h1 h2
    cases hg : xGet2 M wb [] (M.get wb) with
    | none => rw [hg] at h; cases h
    | some y =>
      rw [hg] at h
      simp at h
      subst h
      obtain ⟨_, _, g0, g1⟩ := xGet2_ok hg
      exact ⟨rfl, g0, g1⟩
  · cases h
noncomputable def formX (a b : Nat) (form : XY → Fr) (C : XY → Prop) (res : XY → Tr (Ex × Fr × Mem)) (p : List Bool) : Summ := fun F M => match xyGet a b F M with
  | some x => .need (isSo (maskF p F = form x ∧ ByRows x.w.n x.w.c ∧ x.w.m = x.w.n ∧ x.w.a = .ptr x.w.wb 0 ∧ C x)) (res x)
  | none => .bad 20
theorem formX_ok {P : Program} {body : Code} {a b : Nat} {form : XY → Fr} {C : XY → Prop} {res : XY → Tr (Ex × Fr × Mem)} {p : List Bool} (h : ∀ (x : XY) (T : ByteArray), x.M.get x.w.wb = some (wwB (.ptr x.w.wb 0) (.own x.w.x x.w.n 1) x.w.z) → x.M.get x.w.x = some (byB x.w.n x.w.c) → TIs x.w.n x.w.c T → C x → ∃ n, LoopTo P body n (form x) x.M fun ex F' M' => (res x).sel (ex, F', M')) : Sums P body (formX a b form C res p) := fun F M H hok => by
  unfold formX at hok
  cases hg : xyGet a b F M with
  | none => rw [hg] at hok; exact hok.elim
  | some x =>
    rw [hg] at hok
    obtain ⟨h1, h2⟩ := hok
    rw [isSo_t] at h1
    obtain ⟨hF, ⟨T, hT⟩, hm, ha, hC⟩ := h1
    obtain ⟨e1, g0, g1⟩ := xyGet_ok hg
    subst e1
    rw [hm] at g1
    rw [ha] at g0
    obtain ⟨n, hn⟩ := h x T g0 g1 hT hC
    exact ⟨n, LoopTo.mask p (by rw [hF]; exact hn.mono fun ex F' M' hs => h2.of_sel hs)⟩
end Sy
end Go.Proofs.Ytglkdhmikpejnaa
namespace Go.Proofs.Ytglkdhmikpejnaa
open Go Go.RowKit Pl Sy
namespace Sy
abbrev ndB' (n : NdV) : Blk := ⟨ndL n, 40, none⟩
abbrev whF (n : NdV) (wb pb : Nat) (k : Int) : Fr := (some (.ptr wb 0) :: none :: none :: some (.ptr pb 0) :: (nn21 (some ((@AV.view ((n).cls).length 1 (fun x227435 => (fun x423570 => (@AV.lit ([(@Value.string ((n).cls.getD x227435 (@ByteArray.mk (@Array.mk _ []))))].getD x423570 (@Value.tuple (@Array.mk _ [])))))))) :: some ((int ((((n).cls).length : Nat) : Int))) :: some (int k) :: (nn30 []))))
abbrev whE (wb pb : Nat) : Fr := (some (.ptr wb 0) :: none :: none :: some (.ptr pb 0) :: (nn6 (nn48 [])))
end Sy
theorem Sy.ndL_free (n : NdV) : Frees (ndL n) := ⟨trivial, trivial, trivial, viewOf_free strCells ⟨#[]⟩ 1 _, viewOf_free AttrV.cells attrNone 2 _, trivial, trivial⟩
theorem Sy.xpM_ren {B : Blk} {M : Mem} {l : List Nat} {x n : Nat} {c : Nat → Nat → AV} {T : ByteArray} {z : AV} (hl : l = [0, 1, x]) (hx0 : x ≠ 0) (hx1 : x ≠ 1) (h0 : M.get 0 = some (wwB (.ptr 0 0) (.own x n 1) z)) (h1 : M.get 1 = some B) (h2 : M.get x = some (byB n c)) (hB : Frees B.cells) (hBr : B.rows = none) (hz : Free z) (hc : TIs n c T) : RenM (nm l) M (xpM B T z) := by
  subst hl
  exact .of rfl rfl (by simp; omega) ⟨⟨x, _, rfl, h2, rfl, trivial, hc.1.symm, rfl, fun i j hi hj => hc.ren _ (by have hi : i < T.size := hi; have := hc.1; omega) hj⟩, ⟨1, _, rfl, h1, rfl, RenVs.free _ hB, by rw [hBr]; exact trivial⟩, ⟨0, _, rfl, h0, rfl, ⟨⟨rfl, rfl⟩, ⟨rfl, hc.1, rfl⟩, RenV.free _ hz, trivial⟩, trivial⟩, trivial⟩
theorem Sy.whF_ren (n : NdV) (wb pb : Nat) (k k' : Int) (σ : Nat → Option Nat) (h : k = k') (wb' pb' : Nat) (h0' : σ wb' = some wb) (h1' : σ pb' = some pb) : RenF σ (whF n wb pb k) (whF n wb' pb' k') := by
  subst h
  simp only [RenF, and_true]
  exact ⟨⟨h0', rfl⟩, ⟨h1', rfl⟩, RenV.free _ (viewOf_free strCells ⟨#[]⟩ 1 _), rfl, rfl⟩
theorem app_mk (T : ByteArray) (l m : List UInt8) : T ++ ⟨⟨l⟩⟩ ++ ⟨⟨m⟩⟩ = T ++ ⟨⟨l ++ m⟩⟩ := by
  apply ba_ext
  simp [ByteArray.data_append]
theorem app_nil (T : ByteArray) : T ++ ⟨⟨[]⟩⟩ = T := by
  apply ba_ext
  simp [ByteArray.data_append]
theorem Sy.wc_loop (n : NdV) (hn : n.cls.length ≤ 1000) (z : AV) (hz : Free z) : ∀ (m : Nat) (k : Int) (T : ByteArray), 0 ≤ k → k + m = n.cls.length → T.size + (clsL (n.cls.drop k.toNat)).length ≤ 1000000000 →
    LoopToT 2 Try.prog (theBody Try.prog 49 6) (m + 1) (whF n 0 1 k) (xpM (ndB' n) T z) fun ex F2 M2 => ex = .exit 0 ∧ F2 = whF n 0 1 n.cls.length ∧ M2 = xpM (ndB' n) (T ++ ⟨⟨clsL (n.cls.drop k.toNat)⟩⟩) z := by
  intro m
  induction m with
  | zero =>
    intro k T h1 h2 h3
    refine roundT plain mixed 2 [cCC, cWs] [] 400 30 49 6 Try.func49 rfl (by kernel_rfl) (true :: false :: false :: true :: (ff21 (true :: true :: true :: (ff30 [])))) (.br (.yes (.yes (.yes .done))) .done) (let e1 := ((((n).cls).length : Nat) : Int); let e2 := (@ByteArray.mk (@Array.mk _ [])); let e3 := (@ByteArray.size T); let e4 := (@AV.ptr 0 0); let e5 := (e3 + (@ByteArray.size (@HAppend.hAppend _ _ _ _ (@ByteArray.mk (@Array.mk _ [(46 : UInt8)])) ((n).cls.getD (k).toNat e2)))); let e6 := (@Value.tuple (@Array.mk _ [])); let e7 := (@AV.view ((n).cls).length 1 (fun y0 => (fun y1 => (@AV.lit ([(@Value.string ((n).cls.getD y0 e2))].getD y1 e6))))); let e8 := (some (@Blk.mk [(int (n).par), (@AV.lit (@Value.string (n).tag)), (@AV.lit (@Value.string (n).id)), e7, (@AV.view ((n).atts).length 2 (fun y0 => (fun y1 => (@AV.lit ([(@Value.string (((n).atts.getD y0 attrNone)).name), (@Value.string (((n).atts.getD y0 attrNone)).value)].getD y1 e6))))), (@AV.lit (@Value.string (n).text))] 40 none)); (.fork (!(leI e1 k)) (.need (@inR k ((n).cls).length) (.need (leI (((1 + (@ByteArray.size ((n).cls.getD (k).toNat e2))) : Nat) : Int) (9223372036854775807 : Int)) (.need (@isSo (@And (e3 ≤ e3) (@And (@AdrOk 0 e4) (e5 ≤ 17592186044416)))) (.leaf (Ex.norm, (((some e4) :: none :: none :: (some (@AV.ptr 1 0)) :: (nn21 ((some e7) :: (some (int e1)) :: (some (int (w64 (k + (1 : Int))))) :: (nn30 [])))), (@Mem.mk (3 + 1) (((0 + 1) + 1) + 1) ((some (@Blk.mk [] 5 (some (@Rw.mk e5 1 (@appc e3 (@tcell T) (@tcell (@HAppend.hAppend _ _ _ _ (@ByteArray.mk (@Array.mk _ [(46 : UInt8)])) ((n).cls.getD (k).toNat e2)))))))) :: [none, e8, (some (@Blk.mk [e4, (@AV.own 3 e5 1), z] 62 none))])))))))) (.leaf ((@Ex.exit 0), (((some e4) :: none :: none :: (some (@AV.ptr 1 0)) :: (nn21 ((some e7) :: (some (int e1)) :: (some (int k)) :: (nn30 [])))), (@Mem.mk 3 0 [(some (@Blk.mk [] 5 (some (@Rw.mk e3 1 (@tcell T))))), e8, (some (@Blk.mk [e4, (@AV.own 2 e3 1), z] 62 none))])))))) (by kernel_rfl) ?_
    refine fork_ok (fun q => ?_) (fun q => ?_)
    · simp only [Bool.not_eq_true', Bool.not_eq_false', leI_t, leI_f, eqI_t, eqI_f, inR_t, inR_f, isSo_t, isSo_f] at q
      omega
    · have e : k = n.cls.length := by omega
      subst e
      rw [Int.toNat_natCast, List.drop_length, show clsL [] = [] from rfl, app_nil]
      exact ⟨rfl, rfl, rfl⟩
  | succ m ih =>
    intro k T h1 h2 h3
    have hd := drop_get n.cls ⟨⟨[]⟩⟩ k h1 (by omega)
    rw [hd, clsL_cons] at h3 ⊢
    simp only [List.length_append] at h3
    have hcl : (clL (n.cls.getD k.toNat ⟨⟨[]⟩⟩)).length = (n.cls.getD k.toNat ⟨⟨[]⟩⟩).size + 1 := rfl
    have hz1 : (⟨⟨[46]⟩⟩ ++ n.cls.getD k.toNat ⟨⟨[]⟩⟩ : ByteArray).size = 1 + (n.cls.getD k.toNat ⟨⟨[]⟩⟩).size := by rw [ByteArray.size_append]; rfl
    have ec : (⟨⟨[46]⟩⟩ ++ n.cls.getD k.toNat ⟨⟨[]⟩⟩ : ByteArray) = ⟨⟨clL (n.cls.getD k.toNat ⟨⟨[]⟩⟩)⟩⟩ := by
      apply ba_ext
      simp [ByteArray.data_append, clL]
    refine roundT plain mixed 2 [cCC, cWs] [] 400 30 49 6 Try.func49 rfl (by kernel_rfl) (true :: false :: false :: true :: (ff21 (true :: true :: true :: (ff30 [])))) (.br (.yes (.yes (.yes .done))) .done) (let e1 := ((((n).cls).length : Nat) : Int); let e2 := (@ByteArray.mk (@Array.mk _ [])); let e3 := (@ByteArray.size T); let e4 := (@AV.ptr 0 0); let e5 := (e3 + (@ByteArray.size (@HAppend.hAppend _ _ _ _ (@ByteArray.mk (@Array.mk _ [(46 : UInt8)])) ((n).cls.getD (k).toNat e2)))); let e6 := (@Value.tuple (@Array.mk _ [])); let e7 := (@AV.view ((n).cls).length 1 (fun y0 => (fun y1 => (@AV.lit ([(@Value.string ((n).cls.getD y0 e2))].getD y1 e6))))); let e8 := (some (@Blk.mk [(int (n).par), (@AV.lit (@Value.string (n).tag)), (@AV.lit (@Value.string (n).id)), e7, (@AV.view ((n).atts).length 2 (fun y0 => (fun y1 => (@AV.lit ([(@Value.string (((n).atts.getD y0 attrNone)).name), (@Value.string (((n).atts.getD y0 attrNone)).value)].getD y1 e6))))), (@AV.lit (@Value.string (n).text))] 40 none)); (.fork (!(leI e1 k)) (.need (@inR k ((n).cls).length) (.need (leI (((1 + (@ByteArray.size ((n).cls.getD (k).toNat e2))) : Nat) : Int) (9223372036854775807 : Int)) (.need (@isSo (@And (e3 ≤ e3) (@And (@AdrOk 0 e4) (e5 ≤ 17592186044416)))) (.leaf (Ex.norm, (((some e4) :: none :: none :: (some (@AV.ptr 1 0)) :: (nn21 ((some e7) :: (some (int e1)) :: (some (int (w64 (k + (1 : Int))))) :: (nn30 [])))), (@Mem.mk (3 + 1) (((0 + 1) + 1) + 1) ((some (@Blk.mk [] 5 (some (@Rw.mk e5 1 (@appc e3 (@tcell T) (@tcell (@HAppend.hAppend _ _ _ _ (@ByteArray.mk (@Array.mk _ [(46 : UInt8)])) ((n).cls.getD (k).toNat e2)))))))) :: [none, e8, (some (@Blk.mk [e4, (@AV.own 3 e5 1), z] 62 none))])))))))) (.leaf ((@Ex.exit 0), (((some e4) :: none :: none :: (some (@AV.ptr 1 0)) :: (nn21 ((some e7) :: (some (int e1)) :: (some (int k)) :: (nn30 [])))), (@Mem.mk 3 0 [(some (@Blk.mk [] 5 (some (@Rw.mk e3 1 (@tcell T))))), e8, (some (@Blk.mk [e4, (@AV.own 2 e3 1), z] 62 none))])))))) (by kernel_rfl) ?_
    conv => zeta
    refine fork_ok (fun q => ?_) (fun q => ?_)
    · refine need_t (by rw [inR_t]; omega) (need_t (by rw [leI_t]; omega) (need_so ⟨Nat.le_refl _, .inr rfl, by rw [hz1]; omega⟩ ?_))
      have key := ih (k + 1) (T ++ ⟨⟨clL (n.cls.getD k.toNat ⟨⟨[]⟩⟩)⟩⟩) (by omega) (by omega) (by rw [ByteArray.size_append, mk_size (clL (n.cls.getD k.toNat ⟨⟨[]⟩⟩))]; omega)
      rw [app_mk] at key
      exact LoopToT.ren [0, 1, 3] rfl (whF_ren n 0 1 _ _ _ (w64_in (by omega)) 0 1 rfl rfl) (xpM_ren (x := 3) rfl (by decide) (by decide) rfl rfl rfl (ndL_free n) rfl hz (TIs.cast (TIs.app2 (TIs.base T) _) (by rw [ec]))) key
    · simp only [Bool.not_eq_true', Bool.not_eq_false', leI_t, leI_f, eqI_t, eqI_f, inR_t, inR_f, isSo_t, isSo_f] at q
      omega
namespace Sy
noncomputable abbrev lpWh (n : NdV) (z : AV) (hz : Free z) : Lp Try.prog where
  f := 49
  key := 6
  S := formX 0 3 (fun x => whF n x.w.wb x.pb 0) (fun x => x.M.get x.pb = some (ndB' n) ∧ x.w.z = z ∧ n.cls.length ≤ 1000 ∧ x.w.n + (clsL n.cls).length ≤ 1000000000) (fun x => .leaf (.exit 0, whE x.w.wb x.pb, xRes x.M x.w.wb x.w.x x.w.n x.w.c ⟨⟨clsL n.cls⟩⟩ z)) (true :: false :: false :: true :: (ff21 (true :: true :: true :: (ff30 []))))
  one := by kernel_rfl
  ok := formX_ok fun x T h1 h2 h4 ⟨h3, h5, h6, h7⟩ => by
    refine ⟨n.cls.length + 1, ?_⟩
    have key := wc_loop n h6 z hz n.cls.length 0 T (Int.le_refl 0) (by omega) (by rw [← h4.1]; exact h7)
    have hp1 : x.pb ≠ x.w.wb := fun e => by rw [e, h1] at h3; cases h3
    have hp2 : x.pb ≠ x.w.x := fun e => by rw [e, h2] at h3; cases h3
    rw [h5] at h1
    refine ((loopX_frame key (F' := whF n x.w.wb x.pb n.cls.length) (whF_ren n x.w.wb x.pb _ _ _ rfl 0 1 rfl rfl) (fun τ t0 t1 => whF_ren n 0 1 _ _ τ rfl x.w.wb x.pb t0 t1) h1 h2 h3 ⟨hp1, hp2⟩ (ndL_free n) rfl hz h4).out (true :: false :: false :: true :: (ff6 (ff48 [])))).mono fun ex F M hg => ?_
    obtain ⟨F0, ⟨rfl, rfl, hM⟩, rfl⟩ := hg
    rw [hM]; rfl
end Sy
end Go.Proofs.Ytglkdhmikpejnaa
namespace Go.Proofs.Ytglkdhmikpejnaa
open Go Go.RowKit Pl Sy
namespace Sy
abbrev waF (n : NdV) (wb pb : Nat) (k : Int) : Fr := (some (.ptr wb 0) :: none :: none :: some (.ptr pb 0) :: (nn35 (some ((@AV.view ((n).atts).length 2 (fun x693323 => (fun x217602 => (@AV.lit ([(@Value.string (((n).atts.getD x693323 attrNone)).name), (@Value.string (((n).atts.getD x693323 attrNone)).value)].getD x217602 (@Value.tuple (@Array.mk _ [])))))))) :: some ((int ((((n).atts).length : Nat) : Int))) :: some (int k) :: (nn16 []))))
end Sy
theorem Sy.waF_ren (n : NdV) (wb pb : Nat) (k k' : Int) (σ : Nat → Option Nat) (h : k = k') (wb' pb' : Nat) (h0' : σ wb' = some wb) (h1' : σ pb' = some pb) : RenF σ (waF n wb pb k) (waF n wb' pb' k') := by
  subst h
  simp only [RenF, and_true]
  exact ⟨⟨h0', rfl⟩, ⟨h1', rfl⟩, RenV.free _ (viewOf_free AttrV.cells attrNone 2 _), rfl, rfl⟩
theorem Sy.wa_loop (n : NdV) (hn : n.atts.length ≤ 1000) (z : AV) (hz : Free z) : ∀ (m : Nat) (k : Int) (T : ByteArray), 0 ≤ k → k + m = n.atts.length → T.size + (atsL (n.atts.drop k.toNat)).length ≤ 1000000000 →
    LoopToT 2 Try.prog (theBody Try.prog 49 11) (m + 1) (waF n 0 1 k) (xpM (ndB' n) T z) fun ex F2 M2 => ex = .exit 2 ∧ F2 = waF n 0 1 n.atts.length ∧ M2 = xpM (ndB' n) (T ++ ⟨⟨atsL (n.atts.drop k.toNat)⟩⟩) z := by
  intro m
  induction m with
  | zero =>
    intro k T h1 h2 h3
    refine roundT plain mixed 2 [cCC, cWs] [] 400 30 49 11 Try.func49 rfl (by kernel_rfl) (true :: false :: false :: true :: (ff35 (true :: true :: true :: (ff16 [])))) (.br (.yes (.yes (.yes (.yes (.yes (.yes .done)))))) .done) (let e1 := ((((n).atts).length : Nat) : Int); let e2 := (9223372036854775807 : Int); let e3 := (@ByteArray.size T); let e4 := (@AV.ptr 0 0); let e5 := (e3 + (@ByteArray.size (@HAppend.hAppend _ _ _ _ (@HAppend.hAppend _ _ _ _ (@HAppend.hAppend _ _ _ _ (@HAppend.hAppend _ _ _ _ (@ByteArray.mk (@Array.mk _ [(91 : UInt8)])) (((n).atts.getD (k).toNat attrNone)).name) (@ByteArray.mk (@Array.mk _ [(61 : UInt8), (34 : UInt8)]))) (((n).atts.getD (k).toNat attrNone)).value) (@ByteArray.mk (@Array.mk _ [(34 : UInt8), (93 : UInt8)]))))); let e6 := (@Value.tuple (@Array.mk _ [])); let e7 := (@AV.view ((n).atts).length 2 (fun y0 => (fun y1 => (@AV.lit ([(@Value.string (((n).atts.getD y0 attrNone)).name), (@Value.string (((n).atts.getD y0 attrNone)).value)].getD y1 e6))))); let e8 := (@AV.lit (@Value.string (((n).atts.getD (k).toNat attrNone)).name)); let e9 := (@AV.lit (@Value.string (((n).atts.getD (k).toNat attrNone)).value)); let e10 := (@ByteArray.mk (@Array.mk _ [])); let e11 := (@AV.lit (@Value.string e10)); let e12 := (some (@Blk.mk [(int (n).par), (@AV.lit (@Value.string (n).tag)), (@AV.lit (@Value.string (n).id)), (@AV.view ((n).cls).length 1 (fun y0 => (fun y1 => (@AV.lit ([(@Value.string ((n).cls.getD y0 e10))].getD y1 e6))))), e7, (@AV.lit (@Value.string (n).text))] 40 none)); (.fork (!(leI e1 k)) (.need (@inR k ((n).atts).length) (.need (leI (((1 + (@ByteArray.size (((n).atts.getD (k).toNat attrNone)).name)) : Nat) : Int) e2) (.need (leI ((((@ByteArray.size (@HAppend.hAppend _ _ _ _ (@ByteArray.mk (@Array.mk _ [(91 : UInt8)])) (((n).atts.getD (k).toNat attrNone)).name)) + 2) : Nat) : Int) e2) (.need (leI ((((@ByteArray.size (@HAppend.hAppend _ _ _ _ (@HAppend.hAppend _ _ _ _ (@ByteArray.mk (@Array.mk _ [(91 : UInt8)])) (((n).atts.getD (k).toNat attrNone)).name) (@ByteArray.mk (@Array.mk _ [(61 : UInt8), (34 : UInt8)])))) + (@ByteArray.size (((n).atts.getD (k).toNat attrNone)).value)) : Nat) : Int) e2) (.need (leI ((((@ByteArray.size (@HAppend.hAppend _ _ _ _ (@HAppend.hAppend _ _ _ _ (@HAppend.hAppend _ _ _ _ (@ByteArray.mk (@Array.mk _ [(91 : UInt8)])) (((n).atts.getD (k).toNat attrNone)).name) (@ByteArray.mk (@Array.mk _ [(61 : UInt8), (34 : UInt8)]))) (((n).atts.getD (k).toNat attrNone)).value)) + 2) : Nat) : Int) e2) (.need (@isSo (@And (e3 ≤ e3) (@And (@AdrOk 0 e4) (e5 ≤ 17592186044416)))) (.leaf (Ex.norm, (((some e4) :: none :: none :: (some (@AV.ptr 1 0)) :: (nn35 ((some e7) :: (some (int e1)) :: (some (int (w64 (k + (1 : Int))))) :: (nn16 [])))), (@Mem.mk ((3 + 1) + 1) ((((0 + 1) + 1) + 1) + 1) ((some (@Blk.mk [] 5 (some (@Rw.mk e5 1 (@appc e3 (@tcell T) (@tcell (@HAppend.hAppend _ _ _ _ (@HAppend.hAppend _ _ _ _ (@HAppend.hAppend _ _ _ _ (@HAppend.hAppend _ _ _ _ (@ByteArray.mk (@Array.mk _ [(91 : UInt8)])) (((n).atts.getD (k).toNat attrNone)).name) (@ByteArray.mk (@Array.mk _ [(61 : UInt8), (34 : UInt8)]))) (((n).atts.getD (k).toNat attrNone)).value) (@ByteArray.mk (@Array.mk _ [(34 : UInt8), (93 : UInt8)]))))))))) :: [(some (@Blk.mk (e8 :: e9 :: (@List.drop _ (0 + ([e8, e9]).length) [e11, e11])) 67 none)), none, e12, (some (@Blk.mk [e4, (@AV.own (3 + 1) e5 1), z] 62 none))]))))))))))) (.leaf ((@Ex.exit 2), (((some e4) :: none :: none :: (some (@AV.ptr 1 0)) :: (nn35 ((some e7) :: (some (int e1)) :: (some (int k)) :: (nn16 [])))), (@Mem.mk 3 0 [(some (@Blk.mk [] 5 (some (@Rw.mk e3 1 (@tcell T))))), e12, (some (@Blk.mk [e4, (@AV.own 2 e3 1), z] 62 none))])))))) (by kernel_rfl) ?_
    refine fork_ok (fun q => ?_) (fun q => ?_)
    · simp only [Bool.not_eq_true', Bool.not_eq_false', leI_t, leI_f, eqI_t, eqI_f, inR_t, inR_f, isSo_t, isSo_f] at q
      omega
    · have e : k = n.atts.length := by omega
      subst e
      rw [Int.toNat_natCast, List.drop_length, show atsL [] = [] from rfl, app_nil]
      exact ⟨rfl, rfl, rfl⟩
  | succ m ih =>
    intro k T h1 h2 h3
    have hd := drop_get n.atts attrNone k h1 (by omega)
    rw [hd, atsL_cons] at h3 ⊢
    simp only [List.length_append] at h3
    generalize hy : n.atts.getD k.toNat attrNone = y at *
    have hcl : (atL y).length = y.name.size + y.value.size + 5 := by
      rw [size_toList, size_toList]
      unfold atL
      simp only [List.length_append, List.length_cons, List.length_nil]
      omega
    have z1 : (⟨⟨[91]⟩⟩ ++ y.name : ByteArray).size = 1 + y.name.size := by rw [ByteArray.size_append]; rfl
    have z2 : ∀ x : ByteArray, (x ++ ⟨⟨[61, 34]⟩⟩ : ByteArray).size = x.size + 2 := fun x => by rw [ByteArray.size_append]; rfl
    have z3 : ∀ x : ByteArray, (x ++ ⟨⟨[34, 93]⟩⟩ : ByteArray).size = x.size + 2 := fun x => by rw [ByteArray.size_append]; rfl
    have ec : ((((⟨⟨[91]⟩⟩ ++ y.name) ++ ⟨⟨[61, 34]⟩⟩) ++ y.value) ++ ⟨⟨[34, 93]⟩⟩ : ByteArray) = ⟨⟨atL y⟩⟩ := by
      apply ba_ext
      simp [ByteArray.data_append, atL]
    refine roundT plain mixed 2 [cCC, cWs] [] 400 30 49 11 Try.func49 rfl (by kernel_rfl) (true :: false :: false :: true :: (ff35 (true :: true :: true :: (ff16 [])))) (.br (.yes (.yes (.yes (.yes (.yes (.yes .done)))))) .done) (let e1 := ((((n).atts).length : Nat) : Int); let e2 := (9223372036854775807 : Int); let e3 := (@ByteArray.size T); let e4 := (@AV.ptr 0 0); let e5 := (e3 + (@ByteArray.size (@HAppend.hAppend _ _ _ _ (@HAppend.hAppend _ _ _ _ (@HAppend.hAppend _ _ _ _ (@HAppend.hAppend _ _ _ _ (@ByteArray.mk (@Array.mk _ [(91 : UInt8)])) (((n).atts.getD (k).toNat attrNone)).name) (@ByteArray.mk (@Array.mk _ [(61 : UInt8), (34 : UInt8)]))) (((n).atts.getD (k).toNat attrNone)).value) (@ByteArray.mk (@Array.mk _ [(34 : UInt8), (93 : UInt8)]))))); let e6 := (@Value.tuple (@Array.mk _ [])); let e7 := (@AV.view ((n).atts).length 2 (fun y0 => (fun y1 => (@AV.lit ([(@Value.string (((n).atts.getD y0 attrNone)).name), (@Value.string (((n).atts.getD y0 attrNone)).value)].getD y1 e6))))); let e8 := (@AV.lit (@Value.string (((n).atts.getD (k).toNat attrNone)).name)); let e9 := (@AV.lit (@Value.string (((n).atts.getD (k).toNat attrNone)).value)); let e10 := (@ByteArray.mk (@Array.mk _ [])); let e11 := (@AV.lit (@Value.string e10)); let e12 := (some (@Blk.mk [(int (n).par), (@AV.lit (@Value.string (n).tag)), (@AV.lit (@Value.string (n).id)), (@AV.view ((n).cls).length 1 (fun y0 => (fun y1 => (@AV.lit ([(@Value.string ((n).cls.getD y0 e10))].getD y1 e6))))), e7, (@AV.lit (@Value.string (n).text))] 40 none)); (.fork (!(leI e1 k)) (.need (@inR k ((n).atts).length) (.need (leI (((1 + (@ByteArray.size (((n).atts.getD (k).toNat attrNone)).name)) : Nat) : Int) e2) (.need (leI ((((@ByteArray.size (@HAppend.hAppend _ _ _ _ (@ByteArray.mk (@Array.mk _ [(91 : UInt8)])) (((n).atts.getD (k).toNat attrNone)).name)) + 2) : Nat) : Int) e2) (.need (leI ((((@ByteArray.size (@HAppend.hAppend _ _ _ _ (@HAppend.hAppend _ _ _ _ (@ByteArray.mk (@Array.mk _ [(91 : UInt8)])) (((n).atts.getD (k).toNat attrNone)).name) (@ByteArray.mk (@Array.mk _ [(61 : UInt8), (34 : UInt8)])))) + (@ByteArray.size (((n).atts.getD (k).toNat attrNone)).value)) : Nat) : Int) e2) (.need (leI ((((@ByteArray.size (@HAppend.hAppend _ _ _ _ (@HAppend.hAppend _ _ _ _ (@HAppend.hAppend _ _ _ _ (@ByteArray.mk (@Array.mk _ [(91 : UInt8)])) (((n).atts.getD (k).toNat attrNone)).name) (@ByteArray.mk (@Array.mk _ [(61 : UInt8), (34 : UInt8)]))) (((n).atts.getD (k).toNat attrNone)).value)) + 2) : Nat) : Int) e2) (.need (@isSo (@And (e3 ≤ e3) (@And (@AdrOk 0 e4) (e5 ≤ 17592186044416)))) (.leaf (Ex.norm, (((some e4) :: none :: none :: (some (@AV.ptr 1 0)) :: (nn35 ((some e7) :: (some (int e1)) :: (some (int (w64 (k + (1 : Int))))) :: (nn16 [])))), (@Mem.mk ((3 + 1) + 1) ((((0 + 1) + 1) + 1) + 1) ((some (@Blk.mk [] 5 (some (@Rw.mk e5 1 (@appc e3 (@tcell T) (@tcell (@HAppend.hAppend _ _ _ _ (@HAppend.hAppend _ _ _ _ (@HAppend.hAppend _ _ _ _ (@HAppend.hAppend _ _ _ _ (@ByteArray.mk (@Array.mk _ [(91 : UInt8)])) (((n).atts.getD (k).toNat attrNone)).name) (@ByteArray.mk (@Array.mk _ [(61 : UInt8), (34 : UInt8)]))) (((n).atts.getD (k).toNat attrNone)).value) (@ByteArray.mk (@Array.mk _ [(34 : UInt8), (93 : UInt8)]))))))))) :: [(some (@Blk.mk (e8 :: e9 :: (@List.drop _ (0 + ([e8, e9]).length) [e11, e11])) 67 none)), none, e12, (some (@Blk.mk [e4, (@AV.own (3 + 1) e5 1), z] 62 none))]))))))))))) (.leaf ((@Ex.exit 2), (((some e4) :: none :: none :: (some (@AV.ptr 1 0)) :: (nn35 ((some e7) :: (some (int e1)) :: (some (int k)) :: (nn16 [])))), (@Mem.mk 3 0 [(some (@Blk.mk [] 5 (some (@Rw.mk e3 1 (@tcell T))))), e12, (some (@Blk.mk [e4, (@AV.own 2 e3 1), z] 62 none))])))))) (by kernel_rfl) ?_
    conv => zeta
    simp only [hy]
    refine fork_ok (fun q => ?_) (fun q => ?_)
    · refine need_t (by rw [inR_t]; omega) (need_t (by rw [leI_t]; omega) (need_t (by rw [leI_t, z1]; omega) (need_t (by rw [leI_t, z2, z1]; omega) (need_t (by rw [leI_t, ByteArray.size_append, z2, z1]; omega) (need_so ⟨Nat.le_refl _, .inr rfl, by rw [z3, ByteArray.size_append, z2, z1]; omega⟩ ?_)))))
      have key := ih (k + 1) (T ++ ⟨⟨atL y⟩⟩) (by omega) (by omega) (by rw [ByteArray.size_append, mk_size (atL y)]; omega)
      rw [app_mk] at key
      exact LoopToT.ren [0, 1, 4] rfl (waF_ren n 0 1 _ _ _ (w64_in (by omega)) 0 1 rfl rfl) (xpM_ren (x := 4) rfl (by decide) (by decide) rfl rfl rfl (ndL_free n) rfl hz (TIs.cast (TIs.app2 (TIs.base T) _) (by rw [ec]))) key
    · simp only [Bool.not_eq_true', Bool.not_eq_false', leI_t, leI_f, eqI_t, eqI_f, inR_t, inR_f, isSo_t, isSo_f] at q
      omega
namespace Sy
noncomputable abbrev lpWa (n : NdV) (z : AV) (hz : Free z) : Lp Try.prog where
  f := 49
  key := 11
  S := formX 0 3 (fun x => waF n x.w.wb x.pb 0) (fun x => x.M.get x.pb = some (ndB' n) ∧ x.w.z = z ∧ n.atts.length ≤ 1000 ∧ x.w.n + (atsL n.atts).length ≤ 1000000000) (fun x => .leaf (.exit 2, whE x.w.wb x.pb, xRes x.M x.w.wb x.w.x x.w.n x.w.c ⟨⟨atsL n.atts⟩⟩ z)) (true :: false :: false :: true :: (ff35 (true :: true :: true :: (ff16 []))))
  one := by kernel_rfl
  ok := formX_ok fun x T h1 h2 h4 ⟨h3, h5, h6, h7⟩ => by
    refine ⟨n.atts.length + 1, ?_⟩
    have key := wa_loop n h6 z hz n.atts.length 0 T (Int.le_refl 0) (by omega) (by rw [← h4.1]; exact h7)
    have hp1 : x.pb ≠ x.w.wb := fun e => by rw [e, h1] at h3; cases h3
    have hp2 : x.pb ≠ x.w.x := fun e => by rw [e, h2] at h3; cases h3
    rw [h5] at h1
    refine ((loopX_frame key (F' := waF n x.w.wb x.pb n.atts.length) (waF_ren n x.w.wb x.pb _ _ _ rfl 0 1 rfl rfl) (fun τ t0 t1 => waF_ren n 0 1 _ _ τ rfl x.w.wb x.pb t0 t1) h1 h2 h3 ⟨hp1, hp2⟩ (ndL_free n) rfl hz h4).out (true :: false :: false :: true :: (ff6 (ff48 [])))).mono fun ex F M hg => ?_
    obtain ⟨F0, ⟨rfl, rfl, hM⟩, rfl⟩ := hg
    rw [hM]; rfl
end Sy
theorem Sy.whd_t (z : AV) (hz : Free z) (a : AV) (ha : AdrOk 0 a) (T : ByteArray) (n : NdV) (h : n.cls.length ≤ 1000 ∧ n.atts.length ≤ 1000) (hl : limX (T.size + (headL n).length)) : CallTo Try.prog 49 [.ptr 0 0, ndG n] (xM a T z) fun v M' => v = .tup [] ∧ XEnd M' (T ++ ⟨⟨headL n⟩⟩) z :=
  to (G := fun r => r.1 = .tup [] ∧ XEnd r.2 (T ++ ⟨⟨headL n⟩⟩) z) [cCC, cWs] [lpWh n z hz, lpWa n z hz] 400 30 (.yes (.br (.yes (.yes .done)) .done)) (let e1 := (@ByteArray.size T); let e2 := (e1 + (@ByteArray.size (n).tag)); let e3 := (@ByteArray.mk (@Array.mk _ [])); let e4 := (@AV.ptr 0 0); let e5 := (e2 + (@ByteArray.size (@HAppend.hAppend _ _ _ _ (@ByteArray.mk (@Array.mk _ [(35 : UInt8)])) (n).id))); let e6 := (some (@AV.ptr 2 0)); let e7 := (@Value.tuple (@Array.mk _ [])); let e8 := (@AV.view ((n).cls).length 1 (fun y0 => (fun y1 => (@AV.lit ([(@Value.string ((n).cls.getD y0 e3))].getD y1 e7))))); let e9 := (some (int ((((n).cls).length : Nat) : Int))); let e10 := (some (int (0 : Int))); let e11 := (((some e4) :: none :: (none :: e6 :: (nn21 ((some e8) :: e9 :: e10 :: (nn30 []))))) = ((some e4) :: none :: none :: e6 :: (nn21 ((some e8) :: e9 :: e10 :: (nn30 []))))); let e12 := (@appc e1 (@tcell T) (@tcell (n).tag)); let e13 := (@appc e2 e12 (@tcell (@HAppend.hAppend _ _ _ _ (@ByteArray.mk (@Array.mk _ [(35 : UInt8)])) (n).id))); let e14 := (@AV.view ((n).atts).length 2 (fun y0 => (fun y1 => (@AV.lit ([(@Value.string (((n).atts.getD y0 attrNone)).name), (@Value.string (((n).atts.getD y0 attrNone)).value)].getD y1 e7))))); let e15 := (some (@Blk.mk [(int (n).par), (@AV.lit (@Value.string (n).tag)), (@AV.lit (@Value.string (n).id)), e8, e14, (@AV.lit (@Value.string (n).text))] 40 none)); let e16 := (some (int ((((n).atts).length : Nat) : Int))); let e17 := (((some e4) :: none :: none :: e6 :: (nn35 ((some e14) :: e16 :: e10 :: (nn16 [])))) = ((some e4) :: none :: none :: e6 :: (nn35 ((some e14) :: e16 :: e10 :: (nn16 []))))); let e18 := (@ByteArray.mk (@Array.mk _ (@clsL (n).cls))); let e19 := (e5 + (@ByteArray.size e18)); let e20 := ((((2 + 1) + 1) + 1) + 1); let e21 := (((((((0 + 1) + 1) + 1) + 1) + 1) + 1) + 1); let e22 := (@ByteArray.mk (@Array.mk _ (@atsL (n).atts))); let e23 := (e19 + (@ByteArray.size e22)); let e24 := (e2 + (@ByteArray.size e18)); let e25 := (e24 + (@ByteArray.size e22)); (.need (@isSo (@And (e1 ≤ e1) (@And (@AdrOk 0 a) (e2 ≤ 17592186044416)))) (.fork (!(@bytesEq (@Array.toList _ (@ByteArray.data (n).id)) (@Array.toList _ (@ByteArray.data e3)))) (.need (leI (((1 + (@ByteArray.size (n).id)) : Nat) : Int) (9223372036854775807 : Int)) (.need (@isSo (@And (e2 ≤ e2) (@And (@AdrOk 0 e4) (e5 ≤ 17592186044416)))) (.need (@isSo (@And e11 (@And (@ByRows e5 e13) (@And (e5 = e5) (@And (e4 = e4) (@And (e15 = e15) (@And (z = z) (@And (((n).cls).length ≤ 1000) ((e5 + ((@clsL (n).cls)).length) ≤ 1000000000))))))))) (.need (@isSo (@And e17 (@And (@ByRows e19 (@appc e5 e13 (@tcell e18))) (@And (e19 = e19) (@And (e4 = e4) (@And (e15 = e15) (@And (z = z) (@And (((n).atts).length ≤ 1000) ((e19 + ((@atsL (n).atts)).length) ≤ 1000000000))))))))) (.leaf ((@AV.tup []), (@Mem.mk (e20 + 1) (((e21 + 1) + 1) + 1) ((some (@Blk.mk [] 5 (some (@Rw.mk e23 1 (@appc e19 (@appc e5 e13 (@tcell e18)) (@tcell e22)))))) :: (none :: (none :: (none :: [e15, none, (some (@Blk.mk [e4, (@AV.own e20 e23 1), z] 62 none))]))))))))))) (.need (@isSo (@And e11 (@And (@ByRows e2 e12) (@And (e2 = e2) (@And (e4 = e4) (@And (e15 = e15) (@And (z = z) (@And (((n).cls).length ≤ 1000) ((e2 + ((@clsL (n).cls)).length) ≤ 1000000000))))))))) (.need (@isSo (@And e17 (@And (@ByRows e24 (@appc e2 e12 (@tcell e18))) (@And (e24 = e24) (@And (e4 = e4) (@And (e15 = e15) (@And (z = z) (@And (((n).atts).length ≤ 1000) ((e24 + ((@atsL (n).atts)).length) ≤ 1000000000))))))))) (.leaf ((@AV.tup []), (@Mem.mk e20 e21 ((some (@Blk.mk [] 5 (some (@Rw.mk e25 1 (@appc e24 (@appc e2 e12 (@tcell e18)) (@tcell e22)))))) :: (none :: (none :: [e15, none, (some (@Blk.mk [e4, (@AV.own (((2 + 1) + 1) + 1) e25 1), z] 62 none))]))))))))))) (by kernel_rfl) (by
    have hL : (headL n).length = n.tag.size + ((idL n.id).length + ((clsL n.cls).length + (atsL n.atts).length)) := by
      unfold headL
      simp only [List.length_append, size_toList]
    have z1 : (⟨⟨[35]⟩⟩ ++ n.id : ByteArray).size = 1 + n.id.size := by rw [ByteArray.size_append]; rfl
    have c1 : (ByteArray.mk (Array.mk (clsL n.cls))).size = (clsL n.cls).length := rfl
    have c2 : (ByteArray.mk (Array.mk (atsL n.atts))).size = (atsL n.atts).length := rfl
    unfold limX at hl
    conv => zeta
    refine need_so ⟨Nat.le_refl _, ha, by omega⟩ (fork_ok (fun q => ?_) (fun q => ?_))
    · have hi : ¬ n.id.data.toList = [] := by
        intro e
        rw [bytesEq_eq, e] at q
        cases q
      have e : idL n.id = 35 :: n.id.data.toList := by unfold idL; rw [if_neg hi]
      have e2 : (idL n.id).length = n.id.size + 1 := by rw [e]; rfl
      refine need_t (by rw [leI_t]; omega) (need_so ⟨Nat.le_refl _, .inr rfl, by rw [z1]; omega⟩ (need_so ⟨rfl, (TIs.app2 (TIs.app2 (TIs.base T) _) _).rows, rfl, rfl, rfl, rfl, h.1, by rw [z1]; omega⟩ (need_so ⟨rfl, (TIs.app2 (TIs.app2 (TIs.app2 (TIs.base T) _) _) _).rows, rfl, rfl, rfl, rfl, h.2, by rw [z1, c1]; omega⟩ ⟨rfl, _, _, _, rfl, rfl, (TIs.app2 (TIs.app2 (TIs.app2 (TIs.app2 (TIs.base T) _) _) _) _).cast ?_⟩)))
      apply ba_ext
      unfold headL
      rw [e]
      simp [ByteArray.data_append]
    · have hi : n.id.data.toList = [] := by
        simpa [bytesEq_eq] using q
      have e : idL n.id = [] := by unfold idL; rw [if_pos hi]
      refine need_so ⟨rfl, (TIs.app2 (TIs.base T) _).rows, rfl, rfl, rfl, rfl, h.1, by omega⟩ (need_so ⟨rfl, (TIs.app2 (TIs.app2 (TIs.base T) _) _).rows, rfl, rfl, rfl, rfl, h.2, by rw [c1]; omega⟩ ⟨rfl, _, _, _, rfl, rfl, (TIs.app2 (TIs.app2 (TIs.app2 (TIs.base T) _) _) _).cast ?_⟩)
      apply ba_ext
      unfold headL
      rw [e]
      simp [ByteArray.data_append])
noncomputable abbrev Sy.cWhd (z : AV) (hz : Free z) (n : NdV) : Con Try.prog := conX z hz 49 (fun r => match r with | [_] => some () | _ => none) (fun _ => [ndG n]) (fun _ => .tup []) (fun _ => ⟨⟨headL n⟩⟩) (fun _ => n.cls.length ≤ 1000 ∧ n.atts.length ≤ 1000) fun T _ h hl => ⟨⟨⟨ndG_free n, trivial⟩, trivial⟩, fun a ha => whd_t z hz a ha T n h hl⟩
end Go.Proofs.Ytglkdhmikpejnaa
namespace Go.Proofs.Ytglkdhmikpejnaa
open Go Go.RowKit Pl Sy
structure NwK where
  T : Int → List UInt8
  E : Int → Int
  C : Int → Prop
structure NwK.Ok (K : NwK) (L : List NdV) : Prop where
  call : ∀ T i, K.C i → limX (T.size + (K.T i).length) → ∀ a0, AdrOk 0 a0 → CallTo Try.prog 25 [.ptr 0 0, int i] (xM a0 T (nview L)) fun v M' => v = int (K.E i) ∧ XEnd M' (T ++ ⟨⟨K.T i⟩⟩) (nview L)
noncomputable abbrev Sy.cNw (L : List NdV) (K : NwK) (hK : K.Ok L) : Con Try.prog := conX (nview L) (nview_free L) 25 (fun r => match r with | [.lit (.int .i64 i)] => some i | _ => none) (fun i => [int i]) (fun i => int (K.E i)) (fun i => ⟨⟨K.T i⟩⟩) (fun i => K.C i) fun T i h hl => ⟨⟨⟨trivial, trivial⟩, trivial⟩, hK.call T i h hl⟩
namespace Sy
abbrev wnF (i : Int) (wb pb : Nat) (k : Int) : Fr := (some (.ptr wb 0) :: some (int i) :: none :: none :: none :: some (.ptr pb 0) :: some (int k) :: (nn20 (nn48 [])))
end Sy
end Go.Proofs.Ytglkdhmikpejnaa
namespace Go.Proofs.Ytglkdhmikpejnaa
open Go Go.RowKit Pl Sy
theorem Sy.wnF_ren (i : Int) (wb pb : Nat) (k k' : Int) (σ : Nat → Option Nat) (h : k = k') (wb' pb' : Nat) (h0' : σ wb' = some wb) (h1' : σ pb' = some pb) : RenF σ (wnF i wb pb k) (wnF i wb' pb' k') := by
  subst h
  simp only [RenF, and_true]
  exact ⟨⟨h0', rfl⟩, rfl, ⟨h1', rfl⟩, rfl⟩
def sepC (f : Bool) : UInt8 := match f with | true => 123 | false => 32
theorem Sy.wn_step (L : List NdV) (hL : L.length ≤ 100000) (K : NwK) (hK : K.Ok L) (n : NdV) (i k : Int) (T : ByteArray) (m : Nat) (G : Ex → Fr → Mem → Prop) (hi : 0 ≤ i ∧ i < L.length) (hk : 0 ≤ k ∧ k ≤ L.length)
    (c1 : k < L.length → (L.getD k.toNat ndNone).par = i → K.C k ∧ limX (T.size + 1 + (K.T k).length) ∧ LoopToT 2 Try.prog (theBody Try.prog 25 8) m (wnF i 0 1 (K.E k)) (xpM (ndB' n) (T ++ ⟨⟨sepC (eqI k (i + 1)) :: K.T k⟩⟩) (nview L)) G)
    (c2 : (k < L.length → (L.getD k.toNat ndNone).par ≠ i) → G (.exit 0) (wnF i 0 1 k) (xpM (ndB' n) T (nview L))) :
    LoopToT 2 Try.prog (theBody Try.prog 25 8) (m + 1) (wnF i 0 1 k) (xpM (ndB' n) T (nview L)) G := by
  refine roundT plain mixed 2 [cCC, cNw L K hK] [] 400 30 25 8 Try.func25 rfl (by kernel_rfl) (true :: true :: false :: false :: false :: true :: true :: (ff20 (ff48 []))) (.br (.auto 4 (.yes (.auto 4 (.br (.br (.yes (.yes (.yes .done))) (.yes (.yes (.yes .done)))) .done)))) (.auto 10 .done)) (let e1 := (@AV.ptr 0 0); let e2 := (@ByteArray.size T); let e3 := (@AV.view (L).length 6 (@ndcell L)); let e4 := (some (@Blk.mk [e1, (@AV.own 2 e2 1), e3] 62 none)); let e5 := (@isSo (@And (e4 = e4) (@AdrOk 0 e1))); let e6 := (e2 + 1); let e7 := (Bool.true && ((@Nat.ble e2 e2) && ((@Nat.ble (e6 * 1) 140737488355328) && (@Nat.ble e6 17592186044416)))); let e8 := (@AV.lit (@Value.int IntKind.u8 (123 : Int))); let e9 := (@List.map _ _ AV.lit (@Array.toList _ (@Array.mk _ [(@List.get _ (@Array.toList _ (@Array.mk _ [(@Value.int IntKind.u8 (0 : Int))])) (@Fin.mk _ 0 (@Nat.le_of_ble_eq_true _ _ (@Eq.refl _ true))))]))); let e10 := (e8 :: (@List.drop _ (0 + ([e8]).length) e9)); let e11 := (@appc e2 (@tcell T) (fun y0 => (fun y1 => (@getA (@List.take _ 1 e10) ((y0 * 1) + y1))))); let e12 := (@ByteArray.mk (@Array.mk _ ((K).T k))); let e13 := (e6 + (@ByteArray.size e12)); let e14 := (@And (e6 = e6) (@And (@AdrOk 0 e1) (@And (e3 = e3) (@And ((K).C k) (e13 ≤ 100000000))))); let e15 := (some (@AV.ptr 1 0)); let e16 := (((((0 + 1) + 1) + 1) + 1) + 1); let e17 := (@Value.tuple (@Array.mk _ [])); let e18 := (some (@Blk.mk [(int (n).par), (@AV.lit (@Value.string (n).tag)), (@AV.lit (@Value.string (n).id)), (@AV.view ((n).cls).length 1 (fun y0 => (fun y1 => (@AV.lit ([(@Value.string ((n).cls.getD y0 (@ByteArray.mk (@Array.mk _ []))))].getD y1 e17))))), (@AV.view ((n).atts).length 2 (fun y0 => (fun y1 => (@AV.lit ([(@Value.string (((n).atts.getD y0 attrNone)).name), (@Value.string (((n).atts.getD y0 attrNone)).value)].getD y1 e17))))), (@AV.lit (@Value.string (n).text))] 40 none)); let e19 := (some (@Blk.mk [e1, (@AV.own ((3 + 1) + 1) e13 1), e3] 62 none)); let e20 := (@AV.lit (@Value.int IntKind.u8 (32 : Int))); let e21 := (e20 :: (@List.drop _ (0 + ([e20]).length) e9)); let e22 := (@appc e2 (@tcell T) (fun y0 => (fun y1 => (@getA (@List.take _ 1 e21) ((y0 * 1) + y1))))); (.fork (!(leI (((L).length : Nat) : Int) k)) (.need (@inR k (L).length) (.fork (eqI ((L.getD (k).toNat ndNone)).par i) (.fork (eqI k (w64 (i + (1 : Int)))) (.need e5 (.need e7 (.need (@isSo (@And ([(int k)] = [(int k)]) (@And (@ByRows e6 e11) e14))) (.leaf (Ex.norm, (((some e1) :: (some (int i)) :: none :: none :: none :: e15 :: (some (int ((K).E k))) :: (nn20 (nn48 []))), (@Mem.mk (((3 + 1) + 1) + 1) e16 ((some (@Blk.mk [] 5 (some (@Rw.mk e13 1 (@appc e6 e11 (@tcell e12)))))) :: (none :: ((some (@Blk.mk e10 5 none)) :: [none, e18, e19])))))))))) (.need e5 (.need e7 (.need (@isSo (@And ([(int k)] = [(int k)]) (@And (@ByRows e6 e22) e14))) (.leaf (Ex.norm, (((some e1) :: (some (int i)) :: none :: none :: none :: e15 :: (some (int ((K).E k))) :: (nn20 (nn48 []))), (@Mem.mk (((3 + 1) + 1) + 1) e16 ((some (@Blk.mk [] 5 (some (@Rw.mk e13 1 (@appc e6 e22 (@tcell e12)))))) :: (none :: ((some (@Blk.mk e21 5 none)) :: [none, e18, e19]))))))))))) (.leaf ((@Ex.exit 0), (((some e1) :: (some (int i)) :: none :: none :: none :: e15 :: (some (int k)) :: (nn20 (nn48 []))), (@Mem.mk 3 0 [(some (@Blk.mk [] 5 (some (@Rw.mk e2 1 (@tcell T))))), e18, e4])))))) (.leaf ((@Ex.exit 0), (((some e1) :: (some (int i)) :: none :: none :: none :: e15 :: (some (int k)) :: (nn20 (nn48 []))), (@Mem.mk 3 0 [(some (@Blk.mk [] 5 (some (@Rw.mk e2 1 (@tcell T))))), e18, e4])))))) (by kernel_rfl) ?_
  conv => zeta
  have hw : w64 (i + 1) = i + 1 := w64_in (by omega)
  rw [hw]
  refine fork_ok (fun q => need_t (by simp only [Bool.not_eq_true', Bool.not_eq_false', leI_t, leI_f, eqI_t, eqI_f, inR_t, inR_f, isSo_t, isSo_f] at q; rw [inR_t]; omega) (fork_ok (fun q2 => ?_) (fun q2 => ?_))) (fun q => ?_)
  · simp only [Bool.not_eq_true', Bool.not_eq_false', leI_t, leI_f, eqI_t, eqI_f, inR_t, inR_f, isSo_t, isSo_f] at q
    rw [eqI_t] at q2
    obtain ⟨hC, hl, key⟩ := c1 (by omega) q2
    have hl' := hl
    unfold limX at hl'
    have hT0 : T.size + 1 ≤ 1000000000 := by omega
    have hroom : (Bool.true && ((Nat.ble T.size T.size) && ((Nat.ble ((T.size + 1) * 1) 140737488355328) && (Nat.ble (T.size + 1) 17592186044416)))) = true := by
      simp only [Bool.true_and, Bool.and_eq_true, Nat.ble_eq]
      omega
    refine fork_ok (fun q3 => ?_) (fun q3 => ?_)
    · rw [q3] at key
      refine need_so ⟨rfl, .inr rfl⟩ (need_t hroom (need_so ⟨rfl, (TIs.app (TIs.base T) (TIs.one 123 rfl)).rows, rfl, .inr rfl, rfl, hC, hl⟩ ?_))
      exact LoopToT.ren [0, 1, 5] rfl (wnF_ren i 0 1 _ _ _ rfl 0 1 rfl rfl) (xpM_ren (x := 5) rfl (by decide) (by decide) rfl rfl rfl (ndL_free n) rfl (nview_free L) (TIs.cast (TIs.app2 (TIs.app (TIs.base T) (TIs.one 123 rfl)) _) (by rw [app_mk]; rfl))) key
    · have q3 : eqI k (i + 1) = false := q3
      rw [q3] at key
      refine need_so ⟨rfl, .inr rfl⟩ (need_t hroom (need_so ⟨rfl, (TIs.app (TIs.base T) (TIs.one 32 rfl)).rows, rfl, .inr rfl, rfl, hC, hl⟩ ?_))
      exact LoopToT.ren [0, 1, 5] rfl (wnF_ren i 0 1 _ _ _ rfl 0 1 rfl rfl) (xpM_ren (x := 5) rfl (by decide) (by decide) rfl rfl rfl (ndL_free n) rfl (nview_free L) (TIs.cast (TIs.app2 (TIs.app (TIs.base T) (TIs.one 32 rfl)) _) (by rw [app_mk]; rfl))) key
  · rw [eqI_f] at q2
    exact c2 fun _ => q2
  · simp only [Bool.not_eq_true', Bool.not_eq_false', leI_t, leI_f, eqI_t, eqI_f, inR_t, inR_f, isSo_t, isSo_f] at q
    exact c2 fun h => by omega
def rt3 : Ft → Nat → List (Int × (List UInt8 × Int))
  | .nil, _ => []
  | .cons n k nx, i => ((i : Nat), (prOne [] n k (k.pr [] [32]), ((i + 1 + k.sz : Nat) : Int))) :: rt3 nx (i + 1 + k.sz)
def Ft.rl : Ft → Nat
  | .nil => 0
  | .cons _ _ nx => 1 + nx.rl
def sepL (f : Bool) (G : Ft) : List UInt8 := if G.isN = true then [] else sepC f :: G.pr [] [32]
structure KidC (L : List NdV) (K : NwK) (G : Ft) (j i : Nat) : Prop where
  lies : InL L G j (i : Nat)
  gt : i < j
  le : j + G.sz ≤ L.length
  last : j + G.sz < L.length → pN L (j + G.sz) ≠ i
  kn : ∀ x ∈ rt3 G j, K.C x.1 ∧ K.T x.1 = x.2.1 ∧ K.E x.1 = x.2.2
theorem Sy.wn_loop (L : List NdV) (hL : L.length ≤ 100000) (K : NwK) (hK : K.Ok L) (n : NdV) (i : Nat) (hi : i < L.length) : ∀ (G : Ft) (j : Nat) (T : ByteArray), KidC L K G j i → T.size + (sepL (eqI (j : Nat) ((i : Int) + 1)) G).length ≤ 100000000 →
    LoopToT 2 Try.prog (theBody Try.prog 25 8) (G.rl + 1) (wnF (i : Nat) 0 1 (j : Nat)) (xpM (ndB' n) T (nview L)) fun ex F2 M2 => ex = .exit 0 ∧ F2 = wnF (i : Nat) 0 1 ((j + G.sz : Nat) : Int) ∧ M2 = xpM (ndB' n) (T ++ ⟨⟨sepL (eqI (j : Nat) ((i : Int) + 1)) G⟩⟩) (nview L) := by
  intro G
  induction G with
  | nil =>
    intro j T h hl
    have hlast := h.last
    have hle := h.le
    simp only [Ft.sz, Nat.add_zero] at hlast hle
    refine wn_step L hL K hK n (i : Nat) (j : Nat) T _ _ (by omega) (by omega) (fun q1 q2 => ?_) (fun q => ?_)
    · exact absurd q2 (hlast (by omega))
    · rw [show sepL (eqI (j : Nat) ((i : Int) + 1)) Ft.nil = [] from rfl, app_nil]
      exact ⟨rfl, rfl, rfl⟩
  | cons x k nx ihk ihn =>
    intro j T h hl
    have hle := h.le
    have hgt := h.gt
    simp only [Ft.sz] at hle
    obtain ⟨⟨g1, g2⟩, g3, g4⟩ := h.lies
    obtain ⟨k1, k2, k3⟩ := h.kn _ (List.mem_cons_self ..)
    simp only at k1 k2 k3
    have e : sepL (eqI (j : Nat) ((i : Int) + 1)) (.cons x k nx) = (sepC (eqI (j : Nat) ((i : Int) + 1)) :: K.T (j : Nat)) ++ sepL (eqI ((j + 1 + k.sz : Nat) : Int) ((i : Int) + 1)) nx := by
      have e2 : eqI ((j + 1 + k.sz : Nat) : Int) ((i : Int) + 1) = false := by rw [eqI_f]; omega
      rw [e2, k2]
      unfold sepL
      rw [if_neg (show ¬ (Ft.cons x k nx).isN = true from fun h => by cases h)]
      simp only [Ft.pr, List.cons_append]
      rfl
    rw [e] at hl ⊢
    simp only [List.length_append, List.length_cons] at hl
    refine wn_step L hL K hK n (i : Nat) (j : Nat) T _ _ (by omega) (by omega) (fun q1 q2 => ?_) (fun q => ?_)
    · refine ⟨k1, by unfold limX; omega, ?_⟩
      rw [k3]
      have key := ihn (j + 1 + k.sz) (T ++ ⟨⟨sepC (eqI (j : Nat) ((i : Int) + 1)) :: K.T (j : Nat)⟩⟩) ⟨g4, by omega, by omega, fun hlt => by
        have hl2 := h.last
        simp only [Ft.sz] at hl2
        rw [show j + 1 + k.sz + nx.sz = j + (1 + k.sz + nx.sz) by omega]
        exact hl2 (by omega), fun y hy => h.kn y (List.mem_cons_of_mem _ hy)⟩ (by
        rw [ByteArray.size_append, mk_size (sepC (eqI (j : Nat) ((i : Int) + 1)) :: K.T (j : Nat)), List.length_cons]
        omega)
      rw [app_mk] at key
      rw [show j + 1 + k.sz + nx.sz = j + (Ft.cons x k nx).sz by simp only [Ft.sz]; omega] at key
      rw [show (Ft.cons x k nx).rl = nx.rl + 1 by simp only [Ft.rl]; omega]
      exact key
    · exfalso
      refine q (by omega) ?_
      rw [Int.toNat_natCast, g2]
      rfl
namespace Sy
noncomputable abbrev lpWn (L : List NdV) (K : NwK) (hK : K.Ok L) (n : NdV) (i : Nat) (G : Ft) : Lp Try.prog where
  f := 25
  key := 8
  S := formX 0 5 (fun x => wnF (i : Nat) x.w.wb x.pb ((i + 1 : Nat) : Int)) (fun x => x.M.get x.pb = some (ndB' n) ∧ x.w.z = nview L ∧ (L.length ≤ 100000 ∧ i < L.length) ∧ KidC L K G (i + 1) i ∧ x.w.n + (sepL true G).length ≤ 100000000)
    (fun x => .leaf (.exit 0, (some (.ptr x.w.wb 0) :: some (int (i : Nat)) :: none :: none :: none :: none :: some (int ((i + 1 + G.sz : Nat) : Int)) :: (nn20 (nn48 []))), xRes x.M x.w.wb x.w.x x.w.n x.w.c ⟨⟨sepL true G⟩⟩ (nview L))) (true :: true :: false :: false :: false :: true :: true :: (ff20 (ff48 [])))
  one := by kernel_rfl
  ok := formX_ok fun x T h1 h2 h4 ⟨h3, h5, h6, h7, h8⟩ => by
    refine ⟨G.rl + 1, ?_⟩
    have e0 : eqI ((i + 1 : Nat) : Int) ((i : Int) + 1) = true := by rw [eqI_t]; omega
    have key := wn_loop L h6.1 K hK n i h6.2 G (i + 1) T h7 (by rw [e0, ← h4.1]; exact h8)
    rw [e0] at key
    have hp1 : x.pb ≠ x.w.wb := fun e => by rw [e, h1] at h3; cases h3
    have hp2 : x.pb ≠ x.w.x := fun e => by rw [e, h2] at h3; cases h3
    rw [h5] at h1
    refine ((loopX_frame key (F' := wnF (i : Nat) x.w.wb x.pb ((i + 1 + G.sz : Nat) : Int)) (wnF_ren (i : Nat) x.w.wb x.pb _ _ _ rfl 0 1 rfl rfl) (fun τ t0 t1 => wnF_ren (i : Nat) 0 1 _ _ τ rfl x.w.wb x.pb t0 t1) h1 h2 h3 ⟨hp1, hp2⟩ (ndL_free n) rfl (nview_free L) h4).out (true :: true :: false :: false :: false :: false :: true :: (ff20 (ff48 [])))).mono fun ex F M hg => ?_
    obtain ⟨F0, ⟨rfl, rfl, hM⟩, rfl⟩ := hg
    rw [hM]; rfl
end Sy
theorem Ft.isN_sz {F : Ft} : F.isN = true ↔ F.sz = 0 := by
  cases F with
  | nil => exact ⟨fun _ => rfl, fun _ => rfl⟩
  | cons n k nx =>
    refine ⟨fun h => (by cases h), fun h => ?_⟩
    simp only [Ft.sz] at h
    omega
theorem Sy.wno_t (L : List NdV) (hL : L.length ≤ 100000) (K : NwK) (hK : K.Ok L) (i : Nat) (hi : i < L.length) (G : Ft) (a : AV) (ha : AdrOk 0 a) (T : ByteArray) (hn : (ndN L (i : Nat)).cls.length ≤ 1000 ∧ (ndN L (i : Nat)).atts.length ≤ 1000) (hw : (ndN L (i : Nat)).tag.data.toList = [] → G = .nil) (hk : KidC L K G (i + 1) i)
    (hl : limX (T.size + (prOne [] (ndN L (i : Nat)) G (G.pr [] [32])).length)) : CallTo Try.prog 25 [.ptr 0 0, int (i : Nat)] (xM a T (nview L)) fun v M' => v = int ((i + 1 + G.sz : Nat) : Int) ∧ XEnd M' (T ++ ⟨⟨prOne [] (ndN L (i : Nat)) G (G.pr [] [32])⟩⟩) (nview L) :=
  to (G := fun r => r.1 = int ((i + 1 + G.sz : Nat) : Int) ∧ XEnd r.2 (T ++ ⟨⟨prOne [] (ndN L (i : Nat)) G (G.pr [] [32])⟩⟩) (nview L)) [cCC, cWs, cWhd (nview L) (nview_free L) (ndN L (i : Nat)), cNw L K hK] [lpWn L K hK (ndN L (i : Nat)) i G] 400 30 (.yes (.br (.yes (.yes (.yes .done))) (.yes (.br (.yes (.yes .done)) .done)))) (let e1 := ((i : Nat) : Int); let e2 := (@ByteArray.mk (@Array.mk _ [])); let e3 := (@ByteArray.mk (@Array.mk _ [(34 : UInt8)])); let e4 := (@ByteArray.size T); let e5 := (e4 + (@ByteArray.size (@HAppend.hAppend _ _ _ _ (@HAppend.hAppend _ _ _ _ e3 ((L.getD (e1).toNat ndNone)).text) e3))); let e6 := (@AV.lit (@Value.string e2)); let e7 := (@AV.lit (@Value.slice none 0 0)); let e8 := ((@ndcell L (e1).toNat 0) :: (@ndcell L (e1).toNat 1) :: (@ndcell L (e1).toNat 2) :: (@ndcell L (e1).toNat 3) :: (@ndcell L (e1).toNat 4) :: (@ndcell L (e1).toNat 5) :: (@List.drop _ (0 + ([(@ndcell L (e1).toNat 0), (@ndcell L (e1).toNat 1), (@ndcell L (e1).toNat 2), (@ndcell L (e1).toNat 3), (@ndcell L (e1).toNat 4), (@ndcell L (e1).toNat 5)]).length) [(int (0 : Int)), e6, e6, e7, e7, e6])); let e9 := (some (@Blk.mk e8 40 none)); let e10 := (@AV.ptr 0 0); let e11 := (@AV.view (L).length 6 (@ndcell L)); let e12 := (@AV.lit (@Value.string ((@ndN L e1)).tag)); let e13 := (@AV.lit (@Value.string ((@ndN L e1)).id)); let e14 := (@Value.tuple (@Array.mk _ [])); let e15 := (@AV.view (((@ndN L e1)).cls).length 1 (fun y0 => (fun y1 => (@AV.lit ([(@Value.string (((@ndN L e1)).cls.getD y0 e2))].getD y1 e14))))); let e16 := (@AV.view (((@ndN L e1)).atts).length 2 (fun y0 => (fun y1 => (@AV.lit ([(@Value.string ((((@ndN L e1)).atts.getD y0 attrNone)).name), (@Value.string ((((@ndN L e1)).atts.getD y0 attrNone)).value)].getD y1 e14))))); let e17 := (@AV.lit (@Value.string ((@ndN L e1)).text)); let e18 := (@ByteArray.mk (@Array.mk _ (@headL (@ndN L e1)))); let e19 := (e4 + (@ByteArray.size e18)); let e20 := (@appc e4 (@tcell T) (@tcell e18)); let e21 := ((((i + 1) + (@Ft.sz G)) : Nat) : Int); let e22 := (@ByteArray.mk (@Array.mk _ (@sepL true G))); let e23 := (e19 + (@ByteArray.size e22)); let e24 := (some (@Blk.mk [e10, (@AV.own ((2 + 1) + 1) e23 1), e11] 62 none)); let e25 := (((((0 + 1) + 1) + 1) + 1) + 1); let e26 := (@AV.lit (@Value.int IntKind.u8 (125 : Int))); let e27 := (e26 :: (@List.drop _ (0 + ([e26]).length) (@List.map _ _ AV.lit (@Array.toList _ (@Array.mk _ [(@List.get _ (@Array.toList _ (@Array.mk _ [(@Value.int IntKind.u8 (0 : Int))])) (@Fin.mk _ 0 (@Nat.le_of_ble_eq_true _ _ (@Eq.refl _ true))))]))))); (.need (@inR e1 (L).length) (.fork (@bytesEq (@Array.toList _ (@ByteArray.data ((L.getD (e1).toNat ndNone)).tag)) (@Array.toList _ (@ByteArray.data e2))) (.need (leI (((1 + (@ByteArray.size ((L.getD (e1).toNat ndNone)).text)) : Nat) : Int) (9223372036854775807 : Int)) (.need (leI ((((@ByteArray.size (@HAppend.hAppend _ _ _ _ e3 ((L.getD (e1).toNat ndNone)).text)) + 1) : Nat) : Int) (9223372036854775807 : Int)) (.need (@isSo (@And (e4 ≤ e4) (@And (@AdrOk 0 a) (e5 ≤ 17592186044416)))) (.leaf ((int (w64 (e1 + (1 : Int)))), (@Mem.mk ((2 + 1) + 1) ((((0 + 1) + 1) + 1) + 1) ((some (@Blk.mk [] 5 (some (@Rw.mk e5 1 (@appc e4 (@tcell T) (@tcell (@HAppend.hAppend _ _ _ _ (@HAppend.hAppend _ _ _ _ e3 ((L.getD (e1).toNat ndNone)).text) e3))))))) :: [e9, none, (some (@Blk.mk [e10, (@AV.own (2 + 1) e5 1), e11] 62 none))]))))))) (.need (@isSo (@And ([(@AV.agg (@List.take _ 6 e8))] = [(@AV.agg [(int ((@ndN L e1)).par), e12, e13, e15, e16, e17])]) (@And (@ByRows e4 (@tcell T)) (@And (e4 = e4) (@And (@AdrOk 0 a) (@And (e11 = e11) (@And (@And ((((@ndN L e1)).cls).length ≤ 1000) ((((@ndN L e1)).atts).length ≤ 1000)) (e19 ≤ 100000000)))))))) (.need (@isSo (@And (((some e10) :: (some (int e1)) :: (none :: none :: none :: (some (@AV.ptr 2 0)) :: (some (int (w64 (e1 + (1 : Int))))) :: (nn20 (nn48 [])))) = ((some e10) :: (some (int e1)) :: none :: none :: none :: (some (@AV.ptr 2 0)) :: (some (int (((i + 1) : Nat) : Int))) :: (nn20 (nn48 [])))) (@And (@ByRows e19 e20) (@And (e19 = e19) (@And (e10 = e10) (@And (e9 = (some (@Blk.mk [(int ((@ndN L e1)).par), e12, e13, e15, e16, e17] 40 none))) (@And (e11 = e11) (@And (@And ((L).length ≤ 100000) (i < (L).length)) (@And (@KidC L K G (i + 1) i) ((e19 + ((@sepL true G)).length) ≤ 100000000)))))))))) (.fork (!(leI e21 (w64 (e1 + (1 : Int))))) (.need (@isSo (@And (e24 = e24) (@AdrOk 0 e10))) (.need (Bool.true && ((@Nat.ble e23 e23) && ((@Nat.ble ((e23 + 1) * 1) 140737488355328) && (@Nat.ble (e23 + 1) 17592186044416)))) (.leaf ((int e21), (@Mem.mk (((((2 + 1) + 1) + 1) + 1) + 1) (((e25 + 1) + 1) + 1) ((some (@Blk.mk [] 5 (some (@Rw.mk (e23 + 1) 1 (@appc e23 (@appc e19 e20 (@tcell e22)) (fun y0 => (fun y1 => (@getA (@List.take _ 1 e27) ((y0 * 1) + y1))))))))) :: ((some (@Blk.mk e27 5 none)) :: (none :: (none :: [e9, none, (some (@Blk.mk [e10, (@AV.own ((((2 + 1) + 1) + 1) + 1) (e23 + 1) 1), e11] 62 none))]))))))))) (.leaf ((int e21), (@Mem.mk (((2 + 1) + 1) + 1) e25 ((some (@Blk.mk [] 5 (some (@Rw.mk e23 1 (@appc e19 e20 (@tcell e22)))))) :: (none :: [e9, none, e24]))))))))))) (by kernel_rfl) (by
    have hw64 : w64 ((i : Nat) + 1 : Int) = ((i + 1 : Nat) : Int) := (w64_in (by omega)).trans (by omega)
    have hh : (ByteArray.mk (Array.mk (headL (ndN L (i : Nat))))).size = (headL (ndN L (i : Nat))).length := rfl
    have hs : (ByteArray.mk (Array.mk (sepL true G))).size = (sepL true G).length := rfl
    unfold limX prOne at hl
    conv => zeta
    refine need_t (by rw [inR_t]; omega) (fork_ok (fun q => ?_) (fun q => ?_))
    · have q' : (ndN L (i : Nat)).tag.data.toList = [] := by
        rw [bytesEq_eq, decide_eq_true_eq] at q
        exact q
      obtain rfl := hw q'
      rw [if_pos q'] at hl
      simp only [List.length_cons, List.length_append, List.length_nil] at hl
      have e : (L.getD ((i : Nat) : Int).toNat ndNone).text.size = (ndN L (i : Nat)).text.data.toList.length := rfl
      have z1 : (⟨⟨[34]⟩⟩ ++ (L.getD ((i : Nat) : Int).toNat ndNone).text : ByteArray).size = 1 + (ndN L (i : Nat)).text.data.toList.length := by rw [ByteArray.size_append]; rfl
      have z2 : ∀ x : ByteArray, (x ++ ⟨⟨[34]⟩⟩ : ByteArray).size = x.size + 1 := fun x => by rw [ByteArray.size_append]; rfl
      refine need_t (by rw [leI_t, e]; omega) (need_t (by rw [leI_t, z1]; omega) (need_so ⟨Nat.le_refl _, ha, by rw [z2, z1]; omega⟩ ⟨by rw [hw64]; rfl, _, _, _, rfl, rfl, (TIs.app2 (TIs.base T) _).cast ?_⟩))
      congr 1
      apply ba_ext
      unfold prOne
      rw [if_pos q']
      simp [ByteArray.data_append]
      rfl
    · have q' : ¬ (ndN L (i : Nat)).tag.data.toList = [] := by
        rw [bytesEq_eq, decide_eq_false_iff_not] at q
        exact q
      rw [if_neg q'] at hl
      have hsl : (sepL true G).length ≤ (if G.isN = true then [] else [] ++ (123 :: ([] ++ (G.pr [] [32] ++ ([] ++ [125]))))).length + 0 := by
        unfold sepL
        split
        · exact Nat.le_refl _
        · simp only [List.nil_append, List.length_cons, List.length_append]
          omega
      simp only [List.length_append] at hl
      refine need_so ⟨rfl, (TIs.base T).rows, rfl, ha, rfl, hn, by rw [hh]; omega⟩ (need_so ⟨by rw [hw64], (TIs.app2 (TIs.base T) _).rows, rfl, rfl, rfl, rfl, ⟨hL, hi⟩, hk, by rw [hh]; omega⟩ (fork_ok (fun q2 => ?_) (fun q2 => ?_)))
      · rw [hw64] at q2
        have q2 : leI ((i + 1 + G.sz : Nat) : Int) ((i + 1 : Nat) : Int) = false := by simpa using q2
        rw [leI_f] at q2
        have hG : ¬ G.isN = true := fun h => by rw [Ft.isN_sz] at h; omega
        rw [if_neg hG] at hl
        simp only [List.nil_append, List.length_cons, List.length_append, List.length_nil] at hl
        have hsp : (sepL true G).length = 1 + (G.pr [] [32]).length := by
          unfold sepL
          rw [if_neg hG, List.length_cons]
          omega
        refine need_so ⟨rfl, .inr rfl⟩ (need_t (by
          simp only [Bool.true_and, Bool.and_eq_true, Nat.ble_eq, hh, hs]
          omega) ⟨rfl, _, _, _, rfl, rfl, (TIs.app (TIs.app2 (TIs.app2 (TIs.base T) _) _) (TIs.one 125 rfl)).cast ?_⟩)
        rw [app_mk, app_mk]
        congr 3
        unfold prOne sepL
        rw [if_neg q', if_neg hG, if_neg hG]
        simp [sepC]
      · rw [hw64] at q2
        have q2 : leI ((i + 1 + G.sz : Nat) : Int) ((i + 1 : Nat) : Int) = true := by simpa using q2
        rw [leI_t] at q2
        have hG : G.isN = true := by rw [Ft.isN_sz]; omega
        refine ⟨rfl, _, _, _, rfl, rfl, (TIs.app2 (TIs.app2 (TIs.base T) _) _).cast ?_⟩
        rw [app_mk]
        congr 3
        unfold prOne sepL
        rw [if_neg q', if_pos hG, if_pos hG])
end Go.Proofs.Ytglkdhmikpejnaa
namespace Go.Proofs.Ytglkdhmikpejnaa
open Go Go.RowKit Pl Sy
theorem Sy.WR.touch {w0 : World} {ρ : Rho} {M : Mem} {w w' : World} (h : WR w0 ρ M w) {x : Nat} {B : Blk} (hb : M.get x = some B) {g tot : Nat} (hg : ρ x = some (g, tot)) (h1 : w'.os = w.os) (h2 : w'.tape = w.tape) (h3 : w'.output = w.output) (h4 : w.heap.size ≤ w'.heap.size) (h5 : ∀ k, k ≠ g → k < w.heap.size → w'.heap[k]? = w.heap[k]?) : WR w0 ρ (M.put x none) w' := by
  have hx := Mem.get_lt hb
  obtain ⟨q2, cur, q3, q4, q5⟩ := h.holds hb hg
  have key : ∀ (y : Nat) (C : Blk), (M.put x none).get y = some C → y ≠ x ∧ M.get y = some C := fun y C hy => by
    rcases Mem.get_put hx hy with ⟨_, e⟩ | e
    · cases e
    · exact e
  have lt : ∀ {k cs e fr}, w.heap[k]? = some (.cells cs e fr) → k < w.heap.size := fun {k cs e fr} hk => (Array.getElem?_eq_some_iff.1 hk).1
  refine ⟨⟨by rw [h1]; exact h.keep.os, by rw [h2]; exact h.keep.tape, by rw [h3]; exact h.keep.output, Nat.le_trans h.keep.size h4, fun k hk hm => ?_⟩, fun y c hy => h.dom y c hy, h.nild, fun y C g2 t2 hy hg2 => ?_, fun y C hy => h.has y C (key y C hy).2, fun y y' C C' g1 t t' e1 e2 => h.inj y y' C C' g1 t t' (key y C e1).2 (key y' C' e2).2, fun g2 o v hv => ?_, h.first, fun y C g2 t2 hy hg2 => h.apart y C g2 t2 (key y C hy).2 hg2⟩
  · have hne : k ≠ g := fun e => by
      subst e
      rcases q2 with q2 | q2
      · omega
      · rw [hm] at q2; cases q2
    rw [h5 k hne (Nat.lt_of_lt_of_le hk h.keep.size)]
    exact h.keep.block k hk hm
  · obtain ⟨hne, hM⟩ := key y C hy
    obtain ⟨r2, cur2, r3, r4, r5⟩ := h.holds hM hg2
    have hgg : g2 ≠ g := fun e => hne (by subst e; exact h.inj y x C B g2 t2 tot hM hb hg2 hg)
    exact ⟨r2, cur2, by rw [h5 g2 hgg (lt r3)]; exact r3, r4, r5⟩
  · have hgg : g2 ≠ g := fun e => by
      subst e
      rw [h.apart x B g2 tot hb hg o] at hv
      cases hv
    have hs := h.still g2 o v hv
    have hl : g2 < w.heap.size := by
      rcases Nat.lt_or_ge g2 w.heap.size with c | c
      · exact c
      · simp only [World.cell?] at hs; rw [Array.getElem?_eq_none c] at hs; cases hs
    simp only [World.cell?] at hs ⊢
    rw [h5 g2 hgg hl]
    exact hs
theorem Sy.freeze_wr {w0 : World} {ρ : Rho} {M : Mem} {w : World} (h : WR w0 ρ M w) {x : Nat} {B : Blk} (hb : M.get x = some B) {g tot : Nat} (hg : ρ x = some (g, tot)) (n : Nat) : WR w0 ρ (M.put x none) (w.drew.freeze ⟨g, 0, none⟩ n) := by
  by_cases h0 : n = 0
  · subst h0
    exact h.drew.die (Mem.get_lt hb)
  · have e : w.drew.freeze ⟨g, 0, none⟩ n = { w.drew with heap := (w.drew.freeze ⟨g, 0, none⟩ n).heap } := by
      unfold World.freeze
      rw [if_neg h0]
    have hh : (w.drew.freeze ⟨g, 0, none⟩ n).heap.size = w.heap.size := by
      unfold World.freeze
      rw [if_neg h0]
      simp only [Array.size_modify]
      rfl
    refine h.touch hb hg (by rw [e]; rfl) (by rw [e]; rfl) (by rw [e]; rfl) (by rw [hh]; exact Nat.le_refl _) fun k hk hl => ?_
    unfold World.freeze
    rw [if_neg h0]
    simp only [Array.getElem?_modify]
    rw [if_neg (fun q => hk q.symm)]
    rfl
open Classical in
noncomputable def textOf (n : Nat) (c : Nat → Nat → AV) : ByteArray := if h : ByRows n c then h.choose else ⟨⟨[]⟩⟩
theorem textOf_eq {n : Nat} {c : Nat → Nat → AV} {T : ByteArray} (h : TIs n c T) : textOf n c = T := by
  have hx : ByRows n c := ⟨T, h⟩
  unfold textOf
  rw [dif_pos hx]
  have h2 := hx.choose_spec
  apply ba_ext
  have e1 : hx.choose.data.toList.length = T.data.toList.length := by rw [← size_toList, ← size_toList, ← h2.1, h.1]
  refine List.ext_getElem? fun i => ?_
  by_cases hi : i < n
  · have q1 := h.2 i 0 hi Nat.zero_lt_one
    have q2 := h2.2 i 0 hi Nat.zero_lt_one
    rw [q1] at q2
    unfold tcell at q2
    simp only [AV.lit.injEq, Value.int.injEq, true_and] at q2
    have l1 : i < T.data.toList.length := by rw [← size_toList, ← h.1]; exact hi
    have l2 : i < hx.choose.data.toList.length := by omega
    rw [byteAt_list, byteAt_list, List.getElem?_eq_getElem l1, List.getElem?_eq_getElem l2] at q2
    rw [List.getElem?_eq_getElem l1, List.getElem?_eq_getElem l2]
    simp only at q2
    congr 1
    exact UInt8.toNat_inj.1 (by omega)
  · have l1 : T.data.toList.length ≤ i := by rw [← size_toList, ← h.1]; omega
    rw [List.getElem?_eq_none l1, List.getElem?_eq_none (by omega)]
theorem u8_cells : Try.prog.cellsOf 5 = 1 := by kernel_rfl
set_option maxRecDepth 100000 in
theorem Sy.str_at {M : Mem} {b x n : Nat} {a z : AV} {c : Nat → Nat → AV} (hb : M.get b = some (wwB a (.own x n 1) z)) (hx : M.get x = some (byB n c)) (T : ByteArray) (hT : TIs n c T) (h0 : n ≠ 0) :
    CallTo Try.prog 27 [.ptr b 0] M fun v M' => v = .lit (.string T) ∧ M' = M.put x none := fun w0 ρ us w hr hW => by
  simp only [rels, rel] at hr
  obtain ⟨u, us1, rfl, ⟨gb, tb, hgb, rfl⟩, rfl⟩ := hr
  obtain ⟨p2, curb, p3, p4, p5⟩ := hW.holds hb hgb
  obtain ⟨uo, eo, ro⟩ := p5.1 1 (.own x n 1) rfl
  simp only [rel] at ro
  rcases ro with ⟨_, hn, _⟩ | ⟨g, tot, cap, hg, rfl, hnc, hcm, hfit⟩
  · exact absurd hn h0
  obtain ⟨q2, cur, q3, q4, q5⟩ := hW.holds hx hg
  have c1 : w.drew.cell? ⟨gb, 1, none⟩ = some (.slice (some ⟨g, 0, none⟩) n cap) := by
    have : w.drew.heap[gb]? = some (.cells curb 62 (0, 0)) := p3
    rw [Lib.cell_of_heap this]
    exact eo
  have hlen : T.data.toList.length = n := by rw [← size_toList, hT.1]
  have hSD : (Builtin.unsafeSliceData_ #[58] 88 #[.slice (some ⟨g, 0, none⟩) n cap]).run Try.prog w.drew = .ok (.pointer (some ⟨g, 0, none⟩)) w.drew :=
    Lib.run_unsafeSliceData_row _ _ _ _ _ _ (by omega)
  have hUS : (Builtin.unsafeString_ #[88, 3] 9 #[.pointer (some ⟨g, 0, none⟩), .int .i64 n]).run Try.prog w.drew = .ok (.string T) (w.drew.freeze ⟨g, 0, none⟩ n) := by
    have key := Lib.run_unsafeString_row w.drew 88 3 9 5 Try.underlying88 u8_cells g cur.size (by have hg' : w.drew.heap[g]? = some (.cells cur 5 (0, 0)) := q3; simp [World.shape?, hg']) T.data.toList (fun e => by rw [e] at hlen; exact h0 hlen.symm) (by rw [hlen]; omega) (by rw [hlen]; unfold maxLen at hcm; omega) (fun j y hy => by
      have hj : j < n := by
        have := (List.getElem?_eq_some_iff.1 hy).1
        omega
      obtain ⟨u, e1, e2, _⟩ := q5.2 ⟨n, 1, c⟩ rfl j 0 hj Nat.zero_lt_one
      have e2 : rel ρ (c j 0) u := e2
      rw [hT.2 j 0 hj Nat.zero_lt_one] at e2
      unfold tcell at e2
      simp only [rel] at e2
      rw [byteAt_list, hy] at e2
      rw [e2] at e1
      have hg' : w.drew.heap[g]? = some (.cells cur 5 (0, 0)) := q3
      rw [add_at, cell_at hg', Nat.zero_add]
      simpa using e1)
    rw [hlen] at key
    exact key
  go_enter Try.func27, Try.ntmps27
  go_wp2
  go_region
  all_goals (go_wp2; go_ret; exact ⟨ρ, .string T, .lit (.string T), M.put x none, rfl, Ext.refl ρ, by simp only [rel], freeze_wr hW hx hg n, rfl, rfl⟩)
namespace Sy
noncomputable abbrev cSt : Con Try.prog where
  f := 27
  run := fun args M => match xGet args M with
    | some x => some (.lit (.string (textOf x.n x.c)), M.put x.x none)
    | none => none
  ob := fun args M => match xGet args M with
    | some x => some (isSo (x.rest = [] ∧ ByRows x.n x.c ∧ x.m = x.n ∧ x.n ≠ 0))
    | none => none
  ok := fun args M v M' hr hob => by
    cases hg : xGet args M with
    | none => rw [hg] at hr; cases hr
    | some x =>
      rw [hg] at hr hob
      simp at hr
      obtain ⟨rfl, rfl⟩ := hr
      have h1 := hob _ rfl
      rw [isSo_t] at h1
      obtain ⟨hrest, ⟨T, hT⟩, hm, h0⟩ := h1
      unfold xGet at hg
      split at hg
      · rename_i wb rest
        obtain ⟨rfl, e, g0, g1⟩ := xGet2_ok hg
        rw [hm] at g1
        rw [← e, hrest, textOf_eq hT]
        exact ⟨Grow.put _ _ _, str_at g0 g1 T hT h0⟩
      · cases hg
end Sy
end Go.Proofs.Ytglkdhmikpejnaa
namespace Go.Proofs.Ytglkdhmikpejnaa
open Go Go.RowKit Pl Sy
def ckN (ns : List NdV) : Nat → Int → Int
  | 0, _ => 0
  | m + 1, k => if ndB (ndN ns k) = true then (if stdB ns k = true then (if leI (depI ns k) 64 = true then ckN ns m (k + 1) else 31) else 34) else 34
def ckI (ns : List NdV) : Int := if eqI ns.length 0 = true then 34 else if leI ns.length 1024 = true then ckN ns ns.length 0 else 32
def NsOk (ns : List NdV) : Prop := ns.length ≤ 17592186044416 ∧ ∀ n ∈ ns, n.Ok
theorem ckN_ok {ns : List NdV} : ∀ (m : Nat) (k : Int), ckN ns m k = 0 → ∀ y, k ≤ y → y < k + m → ndB (ndN ns y) = true ∧ stdB ns y = true ∧ depI ns y ≤ 64
  | 0, k, h, y, h1, h2 => by omega
  | m + 1, k, h, y, h1, h2 => by
    rw [ckN] at h
    split at h
    · rename_i q1
      split at h
      · rename_i q2
        split at h
        · rename_i q3
          by_cases c : y = k
          · subst c
            exact ⟨q1, q2, by rw [leI_t] at q3; exact q3⟩
          · exact ckN_ok m (k + 1) h y (by omega) (by omega)
        · cases h
      · cases h
    · cases h
theorem ckI_ok {ns : List NdV} (hn : NsOk ns) (h : ckI ns = 0) : TreeOk ns ∧ 0 < ns.length := by
  unfold ckI at h
  split at h
  · cases h
  · rename_i q
    rw [eqI_t] at q
    split at h
    · rename_i q2
      rw [leI_t] at q2
      refine ⟨⟨⟨by omega, hn.2⟩, fun k hk => ckN_ok ns.length 0 h k (by omega) (by omega)⟩, by omega⟩
    · cases h
namespace Sy
abbrev ccF (ns : List NdV) (e k : Int) : Fr := (some ((@AV.view (ns).length 6 (@ndcell ns))) :: none :: some (int e) :: some (int k) :: (nn28 []))
abbrev ccE (e : Int) : Fr := (none :: none :: some (int e) :: (nn29 []))
end Sy
theorem Sy.cc_loop (ns : List NdV) (hO : NsOk ns) (hl : ns.length ≤ 1024) : ∀ (m : Nat) (k : Int), 0 ≤ k → k + m = ns.length →
    LoopTo Try.prog (theBody Try.prog 8 7) (m + 1) (ccF ns 0 k) M0 fun ex F M => M = M0 ∧ ((ckN ns m k = 0 ∧ ex = .exit 0 ∧ ∃ j, F = ccF ns 0 j) ∨ (ckN ns m k ≠ 0 ∧ ex = .ret ∧ ∃ j, F = ccF ns (ckN ns m k) j)) := by
  intro m
  induction m with
  | zero =>
    intro k h1 h2
    refine roundL [cRgt (ndN ns k), cStd ns, cDep ns] [] 400 30 8 7 Try.func8 rfl (by kernel_rfl) (true :: false :: true :: true :: (ff28 [])) (.br (.yes (.yes (.br (.auto 1 (.yes (.auto 1 (.br .done (.yes (.br .done .done)))))) (.auto 4 .done)))) .done) (let e1 := (@Value.tuple (@Array.mk _ [])); let e2 := (@AV.view (ns).length 6 (@ndcell ns)); let e3 := (@isSo (@And ((@HAppend.hAppend _ _ _ _ (@HAppend.hAppend _ _ _ _ [] [e2, (int k)]) []) = [e2, (int k)]) (@And ((ns).length ≤ 17592186044416) ((@inR k (ns).length) = true)))); let e4 := (@Mem.mk 0 0 []); (.fork (!(leI (((ns).length : Nat) : Int) k)) (.need (@inR k (ns).length) (.need (@isSo (@And ((@HAppend.hAppend _ _ _ _ (@HAppend.hAppend _ _ _ _ [] [(@AV.agg [(@ndcell ns (k).toNat 0), (@ndcell ns (k).toNat 1), (@ndcell ns (k).toNat 2), (@ndcell ns (k).toNat 3), (@ndcell ns (k).toNat 4), (@ndcell ns (k).toNat 5)])]) []) = [(@AV.agg [(int ((@ndN ns k)).par), (@AV.lit (@Value.string ((@ndN ns k)).tag)), (@AV.lit (@Value.string ((@ndN ns k)).id)), (@AV.view (((@ndN ns k)).cls).length 1 (fun y0 => (fun y1 => (@AV.lit ([(@Value.string (((@ndN ns k)).cls.getD y0 (@ByteArray.mk (@Array.mk _ []))))].getD y1 e1))))), (@AV.view (((@ndN ns k)).atts).length 2 (fun y0 => (fun y1 => (@AV.lit ([(@Value.string ((((@ndN ns k)).atts.getD y0 attrNone)).name), (@Value.string ((((@ndN ns k)).atts.getD y0 attrNone)).value)].getD y1 e1))))), (@AV.lit (@Value.string ((@ndN ns k)).text))])]) (@And ((@ByteArray.size ((@ndN ns k)).tag) ≤ 9223372036854775807) (@And ((@ByteArray.size ((@ndN ns k)).id) ≤ 9223372036854775807) (@And (@And ((((@ndN ns k)).cls).length ≤ 17592186044416) (∀ (s : ByteArray), s ∈ (ndN ns k).cls → s.size ≤ maxLen)) (@And (@And ((((@ndN ns k)).atts).length ≤ 17592186044416) (∀ (t : AttrV), t ∈ (ndN ns k).atts → t.Ok)) ((@ByteArray.size ((@ndN ns k)).text) ≤ 9223372036854775807))))))) (.fork (!(!(@ndB (@ndN ns k)))) (.need e3 (.fork (!(@stdB ns k)) (.leaf (Ex.ret, (((some e2) :: none :: (some (int (34 : Int))) :: (some (int k)) :: (nn28 [])), e4))) (.need e3 (.fork (!(leI (@depI ns k) (64 : Int))) (.leaf (Ex.ret, (((some e2) :: none :: (some (int (31 : Int))) :: (some (int k)) :: (nn28 [])), e4))) (.leaf (Ex.norm, (((some e2) :: none :: (some (int (0 : Int))) :: (some (int (w64 (k + (1 : Int))))) :: (nn28 [])), e4))))))) (.leaf (Ex.ret, (((some e2) :: none :: (some (int (34 : Int))) :: (some (int k)) :: (nn28 [])), e4)))))) (.leaf ((@Ex.exit 0), (((some e2) :: none :: (some (int (0 : Int))) :: (some (int k)) :: (nn28 [])), e4))))) (by kernel_rfl) ?_
    refine fork_ok (fun h => ?_) (fun h => ?_)
    · simp only [Bool.not_eq_true', Bool.not_eq_false', leI_t, leI_f, eqI_t, eqI_f, inR_t, inR_f, isSo_t, isSo_f] at h
      omega
    · exact ⟨rfl, .inl ⟨rfl, rfl, k, rfl⟩⟩
  | succ m ih =>
    intro k h1 h2
    have hr : inR k ns.length = true := by rw [inR_t]; omega
    have hk : (ndN ns k).Ok := hO.2 _ (getD_mem ns k _ h1 (by omega))
    have hw : w64 (k + 1) = k + 1 := w64_in (by omega)
    have e : ckN ns (m + 1) k = if ndB (ndN ns k) = true then (if stdB ns k = true then (if leI (depI ns k) 64 = true then ckN ns m (k + 1) else 31) else 34) else 34 := rfl
    refine roundL [cRgt (ndN ns k), cStd ns, cDep ns] [] 400 30 8 7 Try.func8 rfl (by kernel_rfl) (true :: false :: true :: true :: (ff28 [])) (.br (.yes (.yes (.br (.auto 1 (.yes (.auto 1 (.br .done (.yes (.br .done .done)))))) (.auto 4 .done)))) .done) (let e1 := (@Value.tuple (@Array.mk _ [])); let e2 := (@AV.view (ns).length 6 (@ndcell ns)); let e3 := (@isSo (@And ((@HAppend.hAppend _ _ _ _ (@HAppend.hAppend _ _ _ _ [] [e2, (int k)]) []) = [e2, (int k)]) (@And ((ns).length ≤ 17592186044416) ((@inR k (ns).length) = true)))); let e4 := (@Mem.mk 0 0 []); (.fork (!(leI (((ns).length : Nat) : Int) k)) (.need (@inR k (ns).length) (.need (@isSo (@And ((@HAppend.hAppend _ _ _ _ (@HAppend.hAppend _ _ _ _ [] [(@AV.agg [(@ndcell ns (k).toNat 0), (@ndcell ns (k).toNat 1), (@ndcell ns (k).toNat 2), (@ndcell ns (k).toNat 3), (@ndcell ns (k).toNat 4), (@ndcell ns (k).toNat 5)])]) []) = [(@AV.agg [(int ((@ndN ns k)).par), (@AV.lit (@Value.string ((@ndN ns k)).tag)), (@AV.lit (@Value.string ((@ndN ns k)).id)), (@AV.view (((@ndN ns k)).cls).length 1 (fun y0 => (fun y1 => (@AV.lit ([(@Value.string (((@ndN ns k)).cls.getD y0 (@ByteArray.mk (@Array.mk _ []))))].getD y1 e1))))), (@AV.view (((@ndN ns k)).atts).length 2 (fun y0 => (fun y1 => (@AV.lit ([(@Value.string ((((@ndN ns k)).atts.getD y0 attrNone)).name), (@Value.string ((((@ndN ns k)).atts.getD y0 attrNone)).value)].getD y1 e1))))), (@AV.lit (@Value.string ((@ndN ns k)).text))])]) (@And ((@ByteArray.size ((@ndN ns k)).tag) ≤ 9223372036854775807) (@And ((@ByteArray.size ((@ndN ns k)).id) ≤ 9223372036854775807) (@And (@And ((((@ndN ns k)).cls).length ≤ 17592186044416) (∀ (s : ByteArray), s ∈ (ndN ns k).cls → s.size ≤ maxLen)) (@And (@And ((((@ndN ns k)).atts).length ≤ 17592186044416) (∀ (t : AttrV), t ∈ (ndN ns k).atts → t.Ok)) ((@ByteArray.size ((@ndN ns k)).text) ≤ 9223372036854775807))))))) (.fork (!(!(@ndB (@ndN ns k)))) (.need e3 (.fork (!(@stdB ns k)) (.leaf (Ex.ret, (((some e2) :: none :: (some (int (34 : Int))) :: (some (int k)) :: (nn28 [])), e4))) (.need e3 (.fork (!(leI (@depI ns k) (64 : Int))) (.leaf (Ex.ret, (((some e2) :: none :: (some (int (31 : Int))) :: (some (int k)) :: (nn28 [])), e4))) (.leaf (Ex.norm, (((some e2) :: none :: (some (int (0 : Int))) :: (some (int (w64 (k + (1 : Int))))) :: (nn28 [])), e4))))))) (.leaf (Ex.ret, (((some e2) :: none :: (some (int (34 : Int))) :: (some (int k)) :: (nn28 [])), e4)))))) (.leaf ((@Ex.exit 0), (((some e2) :: none :: (some (int (0 : Int))) :: (some (int k)) :: (nn28 [])), e4))))) (by kernel_rfl) ?_
    refine fork_ok (fun h => need_t hr (need_so ⟨rfl, hk⟩ (fork_ok (fun q => ?_) (fun q => ?_)))) (fun h => ?_)
    · have q : ndB (ndN ns k) = true := by simpa using q
      rw [if_pos q] at e
      refine need_so ⟨rfl, hO.1, hr⟩ (fork_ok (fun q2 => ?_) (fun q2 => need_so ⟨rfl, hO.1, hr⟩ (fork_ok (fun q3 => ?_) (fun q3 => ?_))))
      · have q2 : stdB ns k = false := by simpa using q2
        rw [q2, if_neg (by decide)] at e
        rw [e]
        exact ⟨rfl, .inr ⟨by decide, rfl, k, rfl⟩⟩
      · have q2 : stdB ns k = true := by simpa using q2
        have q3 : leI (depI ns k) 64 = false := by simpa using q3
        rw [q2, if_pos rfl, q3, if_neg (by decide)] at e
        rw [e]
        exact ⟨rfl, .inr ⟨by decide, rfl, k, rfl⟩⟩
      · have q2 : stdB ns k = true := by simpa using q2
        have q3 : leI (depI ns k) 64 = true := by simpa using q3
        rw [q2, if_pos rfl, q3, if_pos rfl] at e
        rw [e, hw]
        exact ih (k + 1) (by omega) (by omega)
    · have q : ndB (ndN ns k) = false := by simpa using q
      rw [q, if_neg (by decide)] at e
      rw [e]
      exact ⟨rfl, .inr ⟨by decide, rfl, k, rfl⟩⟩
    · simp only [Bool.not_eq_true', Bool.not_eq_false', leI_t, leI_f, eqI_t, eqI_f, inR_t, inR_f, isSo_t, isSo_f] at h
      omega
namespace Sy
noncomputable abbrev lpCc (ns : List NdV) : Lp Try.prog where
  f := 8
  key := 7
  S := formS (fun _ _ => some ()) (fun _ => ccF ns 0 0) (fun _ => M0) (fun _ => NsOk ns ∧ ns.length ≤ 1024) (fun _ => .fork (eqI (ckN ns ns.length 0) 0) (.leaf (.exit 0, ccE 0, M0)) (.leaf (.ret, ccE (ckN ns ns.length 0), M0))) (true :: false :: true :: true :: (ff28 []))
  one := by kernel_rfl
  ok := formS_ok fun _ ⟨h1, h2⟩ => by
    refine ⟨ns.length + 1, ?_⟩
    refine ((cc_loop ns h1 h2 ns.length 0 (Int.le_refl 0) (by omega)).out (false :: false :: true :: (ff29 []))).mono fun ex F M hg => ?_
    obtain ⟨F0, ⟨rfl, hg⟩, rfl⟩ := hg
    rcases hg with ⟨q1, rfl, j, rfl⟩ | ⟨q1, rfl, j, rfl⟩
    · exact .inl ⟨by rw [eqI_t]; exact q1, rfl⟩
    · exact .inr ⟨by rw [eqI_f]; exact q1, rfl⟩
end Sy
theorem Sy.cck_t (ns : List NdV) (h : NsOk ns) : CallTo Try.prog 8 [nview ns] M0 fun x _ => x = int (ckI ns) :=
  toV [] [lpCc ns] 400 30 (.br .done (.br .done (.br .done .done))) (let e1 := (some (@AV.view (ns).length 6 (@ndcell ns))); let e2 := (some (int (0 : Int))); let e3 := (@ckN ns (ns).length (0 : Int)); (.fork (eqI (((ns).length : Nat) : Int) (0 : Int)) (.leaf (int (34 : Int))) (.fork (!(leI (((ns).length : Nat) : Int) (1024 : Int))) (.leaf (int (32 : Int))) (.need (@isSo (@And ((e1 :: (none :: e2 :: e2 :: (nn28 []))) = (e1 :: none :: e2 :: e2 :: (nn28 []))) ((@Mem.mk 0 0 []) = M0))) (.need (@isSo (@And (@NsOk ns) ((ns).length ≤ 1024))) (.fork (eqI e3 (0 : Int)) (.leaf (int (0 : Int))) (.leaf (int e3)))))))) (by kernel_rfl) (by
    unfold ckI
    refine fork_ok (fun q => ?_) (fun q => fork_ok (fun q2 => ?_) (fun q2 => need_so ⟨rfl, rfl⟩ (need_so ⟨h, ?_⟩ (fork_ok (fun q3 => ?_) (fun q3 => ?_)))))
    · rw [if_pos q]; rfl
    · have q2 : leI ns.length 1024 = false := by simpa using q2
      rw [if_neg (by rw [q]; decide), q2]; rfl
    · have q2 : leI ns.length 1024 = true := by simpa using q2
      rw [leI_t] at q2
      omega
    · have q2 : leI ns.length 1024 = true := by simpa using q2
      rw [eqI_t] at q3
      rw [if_neg (by rw [q]; decide), if_pos q2, q3]; rfl
    · have q2 : leI ns.length 1024 = true := by simpa using q2
      rw [if_neg (by rw [q]; decide), if_pos q2]; rfl)
noncomputable abbrev Sy.cCk (ns : List NdV) : Con Try.prog := at1 8 [nview ns] (int (ckI ns)) (NsOk ns) fun h => ⟨⟨⟨nview_free ns, trivial⟩, trivial⟩, cck_t ns h⟩
end Go.Proofs.Ytglkdhmikpejnaa
namespace Go.Proofs.Ytglkdhmikpejnaa
open Go Go.RowKit Pl Sy
theorem Sy.tup_t (ns : List NdV) (i : Int) (h : inR i ns.length = true) : CallTo Try.prog 68 [nview ns, int i] M0 fun v _ => v = int (upI ns i) :=
  toV [] [] 400 30 (.yes (.br (.auto 2 (.br .done .done)) (.auto 3 .done))) (.need (@inR i (ns).length) (.fork (leI (0 : Int) ((ns.getD (i).toNat ndNone)).par) (.fork (!(leI i ((ns.getD (i).toNat ndNone)).par)) (.leaf (int ((ns.getD (i).toNat ndNone)).par)) (.leaf (int (-1 : Int)))) (.leaf (int (-1 : Int))))) (by kernel_rfl) (by
    have e : upI ns i = if 0 ≤ (ns.getD i.toNat ndNone).par ∧ (ns.getD i.toNat ndNone).par < i then (ns.getD i.toNat ndNone).par else -1 := by
      unfold upI up pN
      rw [inR_t] at h
      rw [show ((i.toNat : Nat) : Int) = i by omega]
    rw [e]
    refine need_t h (fork_ok (fun h1 => fork_ok (fun h2 => ?_) (fun h2 => ?_)) (fun h1 => ?_))
    · simp only [Bool.not_eq_true', Bool.not_eq_false', leI_t, leI_f, eqI_t, eqI_f, inR_t, inR_f, isSo_t, isSo_f] at h1
      simp only [Bool.not_eq_true', Bool.not_eq_false', leI_t, leI_f, eqI_t, eqI_f, inR_t, inR_f, isSo_t, isSo_f] at h2
      rw [if_pos (by omega)]; rfl
    · simp only [Bool.not_eq_true', Bool.not_eq_false', leI_t, leI_f, eqI_t, eqI_f, inR_t, inR_f, isSo_t, isSo_f] at h1
      simp only [Bool.not_eq_true', Bool.not_eq_false', leI_t, leI_f, eqI_t, eqI_f, inR_t, inR_f, isSo_t, isSo_f] at h2
      rw [if_neg (by omega)]; rfl
    · simp only [Bool.not_eq_true', Bool.not_eq_false', leI_t, leI_f, eqI_t, eqI_f, inR_t, inR_f, isSo_t, isSo_f] at h1
      rw [if_neg (by omega)]; rfl)
noncomputable abbrev Sy.cTup (ns : List NdV) : Con Try.prog := atX 68 (fun args => match args with | [_, .lit (.int .i64 i)] => some i | _ => none) (fun i => [nview ns, int i]) (fun i => int (upI ns i)) (fun i => inR i ns.length = true) fun i h => ⟨⟨⟨nview_free ns, trivial, trivial⟩, trivial⟩, tup_t ns i h⟩
def wrdB (p : NdV) : Bool := bytesEq p.tag.data.toList [] && (bytesEq p.id.data.toList [] && (eqI p.cls.length 0 && (eqI p.atts.length 0 && textL p.text.data.toList)))
theorem Sy.twd_t (n : NdV) (h : n.Ok) : CallTo Try.prog 46 [ndG n] M0 fun v _ => v = boo (wrdB n) :=
  toV [cText] [] 400 30 (.br (.auto 2 (.br (.auto 3 (.br (.auto 3 (.br (.auto 1 (.yes (.auto 0 .done))) (.auto 2 .done))) (.auto 7 .done))) (.auto 12 .done))) (.auto 16 .done)) (.fork (@bytesEq (@Array.toList _ (@ByteArray.data (n).tag)) (@Array.toList _ (@ByteArray.data (@ByteArray.mk (@Array.mk _ []))))) (.fork (@bytesEq (@Array.toList _ (@ByteArray.data (n).id)) (@Array.toList _ (@ByteArray.data (@ByteArray.mk (@Array.mk _ []))))) (.fork (eqI ((((n).cls).length : Nat) : Int) (0 : Int)) (.fork (eqI ((((n).atts).length : Nat) : Int) (0 : Int)) (.need (@isSo ((@ByteArray.size (n).text) ≤ 9223372036854775807)) (.leaf (boo (@Pl.textL (@Array.toList _ (@ByteArray.data (n).text)))))) (.leaf (boo false))) (.leaf (boo false))) (.leaf (boo false))) (.leaf (boo false))) (by kernel_rfl) (by
    unfold wrdB
    refine fork_ok (fun q1 => fork_ok (fun q2 => fork_ok (fun q3 => fork_ok (fun q4 => need_so h.2.2.2.2 ?_) (fun q4 => ?_)) (fun q3 => ?_)) (fun q2 => ?_)) (fun q1 => ?_)
    · have q1 : bytesEq n.tag.data.toList [] = true := q1
      have q2 : bytesEq n.id.data.toList [] = true := q2
      rw [q1, q2, q3, q4]; rfl
    · have q1 : bytesEq n.tag.data.toList [] = true := q1
      have q2 : bytesEq n.id.data.toList [] = true := q2
      rw [q1, q2, q3, q4]; rfl
    · have q1 : bytesEq n.tag.data.toList [] = true := q1
      have q2 : bytesEq n.id.data.toList [] = true := q2
      rw [q1, q2, q3]; rfl
    · have q1 : bytesEq n.tag.data.toList [] = true := q1
      have q2 : bytesEq n.id.data.toList [] = false := q2
      rw [q1, q2]; rfl
    · have q1 : bytesEq n.tag.data.toList [] = false := q1
      rw [q1]; rfl)
noncomputable abbrev Sy.cTwd (n : NdV) : Con Try.prog := at1 46 [ndG n] (boo (wrdB n)) n.Ok fun h => ⟨⟨⟨ndG_free n, trivial⟩, trivial⟩, twd_t n h⟩
def dpU (ns : List NdV) (i : Int) (j : Nat) : Int := if (j : Int) < i then depI ns j else 0
namespace Sy
def dcell (ns : List NdV) (i : Int) (j _k : Nat) : AV := int (dpU ns i j)
abbrev stB (ns : List NdV) (i : Int) : Blk := ⟨[], 3, some ⟨ns.length, 1, dcell ns i⟩⟩
abbrev stM (ns : List NdV) (i : Int) : Mem := ⟨1, 0, [some (stB ns i)]⟩
end Sy
end Go.Proofs.Ytglkdhmikpejnaa
namespace Go.Proofs.Ytglkdhmikpejnaa
open Go Go.RowKit Pl Sy
namespace Sy
abbrev sdF (ns : List NdV) (p k : Int) : Fr := (some ((@AV.view (ns).length 6 (@ndcell ns))) :: some ((@AV.own 0 (ns).length 1)) :: (nn6 (some (int p) :: some (int k) :: (nn10 (nn48 [])))))
end Sy
def upK (ns : List NdV) (i p : Int) : Nat → Int → Int
  | 0, k => k
  | m + 1, k => if leI k p = true then k else if leI (dpU ns i k.toNat) (dpU ns i p.toNat) = true then k else upK ns i p m (upI ns k)
theorem Sy.sd_loop (ns : List NdV) (hl : ns.length ≤ 1024) (i p : Int) (hp : 0 ≤ p ∧ p < ns.length) : ∀ (m : Nat) (k : Int), -1 ≤ k → k < ns.length → k ≤ m →
    LoopTo Try.prog (theBody Try.prog 47 8) (m + 1) (sdF ns p k) (stM ns i) fun ex F M => ex = .exit 0 ∧ F = sdF ns p (upK ns i p m k) ∧ M = stM ns i := by
  intro m
  induction m with
  | zero =>
    intro k h1 h2 h3
    refine roundL [cTup ns] [] 400 30 47 8 Try.func47 rfl (by kernel_rfl) (true :: true :: (ff6 (true :: true :: (ff10 (ff48 []))))) (.br (.auto 1 (.yes (.auto 0 (.yes (.auto 2 (.yes (.auto 0 (.yes (.auto 1 (.br (.yes .done) .done)))))))))) (.auto 9 .done)) (let e1 := (@AV.view (ns).length 6 (@ndcell ns)); let e2 := (some (@AV.own 0 (ns).length 1)); let e3 := (@Mem.mk 1 0 [(some (@Blk.mk [] 3 (some (@Rw.mk (ns).length 1 (fun y0 => (fun y1 => (int (@dpU ns i y0))))))))]); (.fork (!(leI k p)) (.need (@inR k (ns).length) (.need (@Nat.blt (k).toNat (ns).length) (.need (@inR p (ns).length) (.need (@Nat.blt (p).toNat (ns).length) (.fork (!(leI (@dpU ns i (k).toNat) (@dpU ns i (p).toNat))) (.need (@isSo (@And ((@HAppend.hAppend _ _ _ _ (@HAppend.hAppend _ _ _ _ [] [e1, (int k)]) []) = [e1, (int k)]) ((@inR k (ns).length) = true))) (.leaf (Ex.norm, (((some e1) :: e2 :: (nn6 ((some (int p)) :: (some (int (@upI ns k))) :: (nn10 (nn48 []))))), e3)))) (.leaf ((@Ex.exit 0), (((some e1) :: e2 :: (nn6 ((some (int p)) :: (some (int k)) :: (nn10 (nn48 []))))), e3)))))))) (.leaf ((@Ex.exit 0), (((some e1) :: e2 :: (nn6 ((some (int p)) :: (some (int k)) :: (nn10 (nn48 []))))), e3))))) (by kernel_rfl) ?_
    refine fork_ok (fun q => ?_) (fun q => ⟨rfl, rfl, rfl⟩)
    simp only [Bool.not_eq_true', Bool.not_eq_false', leI_t, leI_f, eqI_t, eqI_f, inR_t, inR_f, isSo_t, isSo_f] at q
    omega
  | succ m ih =>
    intro k h1 h2 h3
    refine roundL [cTup ns] [] 400 30 47 8 Try.func47 rfl (by kernel_rfl) (true :: true :: (ff6 (true :: true :: (ff10 (ff48 []))))) (.br (.auto 1 (.yes (.auto 0 (.yes (.auto 2 (.yes (.auto 0 (.yes (.auto 1 (.br (.yes .done) .done)))))))))) (.auto 9 .done)) (let e1 := (@AV.view (ns).length 6 (@ndcell ns)); let e2 := (some (@AV.own 0 (ns).length 1)); let e3 := (@Mem.mk 1 0 [(some (@Blk.mk [] 3 (some (@Rw.mk (ns).length 1 (fun y0 => (fun y1 => (int (@dpU ns i y0))))))))]); (.fork (!(leI k p)) (.need (@inR k (ns).length) (.need (@Nat.blt (k).toNat (ns).length) (.need (@inR p (ns).length) (.need (@Nat.blt (p).toNat (ns).length) (.fork (!(leI (@dpU ns i (k).toNat) (@dpU ns i (p).toNat))) (.need (@isSo (@And ((@HAppend.hAppend _ _ _ _ (@HAppend.hAppend _ _ _ _ [] [e1, (int k)]) []) = [e1, (int k)]) ((@inR k (ns).length) = true))) (.leaf (Ex.norm, (((some e1) :: e2 :: (nn6 ((some (int p)) :: (some (int (@upI ns k))) :: (nn10 (nn48 []))))), e3)))) (.leaf ((@Ex.exit 0), (((some e1) :: e2 :: (nn6 ((some (int p)) :: (some (int k)) :: (nn10 (nn48 []))))), e3)))))))) (.leaf ((@Ex.exit 0), (((some e1) :: e2 :: (nn6 ((some (int p)) :: (some (int k)) :: (nn10 (nn48 []))))), e3))))) (by kernel_rfl) ?_
    rw [upK]
    refine fork_ok (fun q => ?_) (fun q => ?_)
    · have q' : leI k p = false := by simpa using q
      simp only [Bool.not_eq_true', Bool.not_eq_false', leI_t, leI_f, eqI_t, eqI_f, inR_t, inR_f, isSo_t, isSo_f] at q
      rw [q', if_neg (by decide)]
      refine need_t (by rw [inR_t]; omega) (need_t (by rw [Nat.blt_eq]; omega) (need_t (by rw [inR_t]; omega) (need_t (by rw [Nat.blt_eq]; omega) (fork_ok (fun q2 => ?_) (fun q2 => ?_)))))
      · have q2' : leI (dpU ns i k.toNat) (dpU ns i p.toNat) = false := by simpa using q2
        rw [q2', if_neg (by decide)]
        have hu := up_in ns k (by omega)
        exact need_so ⟨rfl, by rw [inR_t]; omega⟩ (ih (upI ns k) hu.1 (by omega) (by omega))
      · have q2' : leI (dpU ns i k.toNat) (dpU ns i p.toNat) = true := by simpa using q2
        rw [q2', if_pos rfl]
        exact ⟨rfl, rfl, rfl⟩
    · have q' : leI k p = true := by simpa using q
      rw [q', if_pos rfl]
      exact ⟨rfl, rfl, rfl⟩
namespace Sy
noncomputable abbrev lpSd (ns : List NdV) (i : Int) : Lp Try.prog where
  f := 47
  key := 8
  S := formS (fun F M => match slotI F 8, slotI F 9 with | some p, some k => some (p, k) | _, _ => none) (fun x => sdF ns x.1 x.2) (fun _ => stM ns i) (fun x => ns.length ≤ 1024 ∧ (0 ≤ x.1 ∧ x.1 < ns.length) ∧ -1 ≤ x.2 ∧ x.2 < ns.length ∧ x.2 ≤ i.toNat) (fun x => .leaf (.exit 0, sdF ns x.1 (upK ns i x.1 i.toNat x.2), stM ns i)) (true :: true :: (ff6 (true :: true :: (ff10 (ff48 [])))))
  one := by kernel_rfl
  ok := formS_ok fun x ⟨h1, h2, h3, h4, h5⟩ => by
    refine ⟨i.toNat + 1, ?_⟩
    refine (Sy.sd_loop ns h1 i x.1 h2 i.toNat x.2 h3 h4 h5).mono fun ex F M hg => ?_
    obtain ⟨rfl, rfl, rfl⟩ := hg
    rfl
end Sy
end Go.Proofs.Ytglkdhmikpejnaa
namespace Go.Proofs.Ytglkdhmikpejnaa
open Go Go.RowKit Pl Sy
theorem dpU_eq {ns : List NdV} {i k : Int} (h0 : 0 ≤ k) (h : k < i) : dpU ns i k.toNat = depI ns k := by
  unfold dpU
  rw [if_pos (by omega)]
  congr 1
  omega
theorem upK_in {ns : List NdV} {i p : Int} (hp : 0 ≤ p) (hpi : p < i) : ∀ (m : Nat) (k : Int), k < i → k ≤ m → eqI (upK ns i p m k) p = inFrom (pN ns) k p.toNat
  | 0, k, h1, h2 => by
    rw [upK, inFrom_stop _ _ _ (by omega), eqI_eq, Bool.eq_iff_iff]
    simp only [beq_iff_eq, decide_eq_true_eq]
    omega
  | m + 1, k, h1, h2 => by
    rw [upK]
    by_cases c1 : leI k p = true
    · rw [if_pos c1]
      rw [leI_t] at c1
      rw [inFrom_stop _ _ _ (by omega), eqI_eq, Bool.eq_iff_iff]
      simp only [beq_iff_eq, decide_eq_true_eq]
      omega
    · rw [if_neg c1]
      have c1' : leI k p = false := by simpa using c1
      rw [leI_f] at c1'
      rw [dpU_eq (by omega) h1, dpU_eq hp hpi]
      by_cases c2 : leI (depI ns k) (depI ns p) = true
      · rw [if_pos c2]
        rw [leI_t] at c2
        unfold depI at c2
        rw [inFrom_shallow _ _ _ (by omega) (by omega), eqI_f]
        omega
      · rw [if_neg c2]
        have hu := up_in ns k (by omega)
        rw [upK_in hp hpi m (upI ns k) (by omega) (by omega)]
        exact (inFrom_step (pN ns) k p.toNat (by omega)).symm
def sdD (ns : List NdV) (i : Int) : Int := if i = 0 then 1 else if 0 ≤ (ns.getD i.toNat ndNone).par ∧ (ns.getD i.toNat ndNone).par < i ∧ tgB ns (ns.getD i.toNat ndNone).par.toNat = true then depI ns (ns.getD i.toNat ndNone).par + 1 else 0
theorem sdD_ok {ns : List NdV} {i : Int} (h0 : 0 ≤ i) (h : stdB ns i = true) : sdD ns i = depI ns i := by
  unfold sdD
  by_cases c : i = 0
  · subst c
    rw [if_pos rfl]
    have hl := up_lt (pN ns) 0
    unfold depI
    rw [show ((0 : Int).toNat) = 0 from rfl, dep_root _ _ (by omega)]
    rfl
  · rw [if_neg c]
    have e : stdB ns i = (decide (0 ≤ upI ns i) && tgB ns (upI ns i).toNat && inFrom (pN ns) ((i.toNat : Int) - 1) (upI ns i).toNat) := by
      unfold stdB standsN
      rw [if_neg (by omega)]
      rfl
    rw [e, Bool.and_eq_true, Bool.and_eq_true, decide_eq_true_eq] at h
    obtain ⟨⟨h1, h2⟩, _⟩ := h
    have hu : upI ns i = (ns.getD i.toNat ndNone).par ∧ 0 ≤ (ns.getD i.toNat ndNone).par ∧ (ns.getD i.toNat ndNone).par < i := by
      unfold upI up pN at h1 ⊢
      split at h1
      · rename_i q
        rw [if_pos q]
        omega
      · omega
    rw [hu.1] at h2
    rw [if_pos ⟨hu.2.1, hu.2.2, h2⟩]
    unfold depI
    rw [dep_up _ i.toNat (by unfold upI at h1; exact h1)]
    have e2 : up (pN ns) i.toNat = (ns.getD i.toNat ndNone).par := hu.1
    rw [e2]
    omega
theorem Sy.sts_t (ns : List NdV) (hl : ns.length ≤ 1024) (i : Int) (hi : inR i ns.length = true) : CallTo Try.prog 47 [nview ns, .own 0 ns.length 1, int i] (stM ns i) fun v M' => v = .tup [int (sdD ns i), boo (stdB ns i)] ∧ M' = stM ns i :=
  to (G := fun r => r.1 = .tup [int (sdD ns i), boo (stdB ns i)] ∧ r.2 = stM ns i) [cTup ns] [lpSd ns i] 400 30 (.yes (.br (.br (.auto 0 (.yes (.auto 3 .done))) (.auto 4 .done)) (.br (.auto 2 (.br (.auto 1 (.yes (.auto 3 (.br .done (.yes (.yes .done)))))) (.auto 6 .done))) (.auto 10 .done)))) (let e1 := (@Array.toList _ (@ByteArray.data (@ByteArray.mk (@Array.mk _ [])))); let e2 := (@Mem.mk 1 0 [(some (@Blk.mk [] 3 (some (@Rw.mk (ns).length 1 (fun y0 => (fun y1 => (int (@dpU ns i y0))))))))]); let e3 := (@inR ((ns.getD (i).toNat ndNone)).par (ns).length); let e4 := (((ns.getD (i).toNat ndNone)).par); let e5 := (some (@AV.view (ns).length 6 (@ndcell ns))); let e6 := (some (@AV.own 0 (ns).length 1)); let e7 := (some (int ((ns.getD (i).toNat ndNone)).par)); let e8 := (w64 (i - (1 : Int))); (.need (@inR i (ns).length) (.fork (eqI i (0 : Int)) (.fork (eqI ((ns.getD (i).toNat ndNone)).par (-1 : Int)) (.need (@inR (0 : Int) (ns).length) (.leaf ((@AV.tup [(int (1 : Int)), (boo (!(@bytesEq (@Array.toList _ (@ByteArray.data ((ns.getD 0 ndNone)).tag)) e1)))]), e2))) (.leaf ((@AV.tup [(int (1 : Int)), (boo false)]), e2))) (.fork (!(!(leI (0 : Int) ((ns.getD (i).toNat ndNone)).par))) (.fork (!(leI i ((ns.getD (i).toNat ndNone)).par)) (.need e3 (.fork (@bytesEq (@Array.toList _ (@ByteArray.data ((ns.getD e4.toNat ndNone)).tag)) e1) (.leaf ((@AV.tup [(int (0 : Int)), (boo false)]), e2)) (.need (@isSo (@And ((e5 :: e6 :: none :: (nn5 (e7 :: (some (int e8)) :: (nn10 (nn48 []))))) = (e5 :: e6 :: (nn6 (e7 :: (some (int e8)) :: (nn10 (nn48 [])))))) (e2 = e2))) (.need (@isSo (@And ((ns).length ≤ 1024) (@And (@And ((0 : Int) ≤ ((ns.getD (i).toNat ndNone)).par) (((ns.getD (i).toNat ndNone)).par < (((ns).length : Nat) : Int))) (@And ((-1 : Int) ≤ e8) (@And (e8 < (((ns).length : Nat) : Int)) (e8 ≤ (((i).toNat : Nat) : Int))))))) (.need e3 (.need (@Nat.blt e4.toNat (ns).length) (.leaf ((@AV.tup [(int (w64 ((@dpU ns i e4.toNat) + (1 : Int)))), (boo (eqI (@upK ns i ((ns.getD (i).toNat ndNone)).par (i).toNat e8) ((ns.getD (i).toNat ndNone)).par))]), e2)))))))) (.leaf ((@AV.tup [(int (0 : Int)), (boo false)]), e2))) (.leaf ((@AV.tup [(int (0 : Int)), (boo false)]), e2)))))) (by kernel_rfl) (by
    have h' := hi
    rw [inR_t] at h'
    conv => zeta
    refine need_t hi (fork_ok (fun q => ?_) (fun q => ?_))
    · simp only [Bool.not_eq_true', Bool.not_eq_false', leI_t, leI_f, eqI_t, eqI_f, inR_t, inR_f, isSo_t, isSo_f] at q
      subst q
      have e : stdB ns 0 = (decide (pN ns 0 = -1) && tgB ns 0) := by
        unfold stdB standsN
        exact if_pos rfl
      have e2 : sdD ns 0 = 1 := if_pos rfl
      rw [e2]
      refine fork_ok (fun q2 => need_t hi ?_) (fun q2 => ?_)
      · simp only [Bool.not_eq_true', Bool.not_eq_false', leI_t, leI_f, eqI_t, eqI_f, inR_t, inR_f, isSo_t, isSo_f] at q2
        rw [e, show decide (pN ns 0 = -1) = true from decide_eq_true q2]
        exact ⟨rfl, rfl⟩
      · simp only [Bool.not_eq_true', Bool.not_eq_false', leI_t, leI_f, eqI_t, eqI_f, inR_t, inR_f, isSo_t, isSo_f] at q2
        rw [e, show decide (pN ns 0 = -1) = false from decide_eq_false q2]
        exact ⟨rfl, rfl⟩
    · simp only [Bool.not_eq_true', Bool.not_eq_false', leI_t, leI_f, eqI_t, eqI_f, inR_t, inR_f, isSo_t, isSo_f] at q
      have e : stdB ns i = (decide (0 ≤ upI ns i) && tgB ns (upI ns i).toNat && inFrom (pN ns) ((i.toNat : Int) - 1) (upI ns i).toNat) := by
        unfold stdB standsN
        rw [if_neg (by omega)]
        rfl
      have eu : upI ns i = if 0 ≤ (ns.getD i.toNat ndNone).par ∧ (ns.getD i.toNat ndNone).par < i then (ns.getD i.toNat ndNone).par else -1 := by
        unfold upI up pN
        rw [show ((i.toNat : Nat) : Int) = i by omega]
      have eD : sdD ns i = if 0 ≤ (ns.getD i.toNat ndNone).par ∧ (ns.getD i.toNat ndNone).par < i ∧ tgB ns (ns.getD i.toNat ndNone).par.toNat = true then depI ns (ns.getD i.toNat ndNone).par + 1 else 0 := if_neg q
      generalize hp : (ns.getD i.toNat ndNone).par = p at *
      refine fork_ok (fun q2 => fork_ok (fun q3 => need_t (by simp only [Bool.not_eq_true', Bool.not_eq_false', leI_t, leI_f, eqI_t, eqI_f, inR_t, inR_f, isSo_t, isSo_f] at q2; simp only [Bool.not_eq_true', Bool.not_eq_false', leI_t, leI_f, eqI_t, eqI_f, inR_t, inR_f, isSo_t, isSo_f] at q3; rw [inR_t]; omega) (fork_ok (fun q4 => ?_) (fun q4 => ?_))) (fun q3 => ?_)) (fun q2 => ?_)
      · have q4' : tgB ns p.toNat = false := by
          unfold tgB
          rw [q4]; rfl
        simp only [Bool.not_eq_true', Bool.not_eq_false', leI_t, leI_f, eqI_t, eqI_f, inR_t, inR_f, isSo_t, isSo_f] at q2
        simp only [Bool.not_eq_true', Bool.not_eq_false', leI_t, leI_f, eqI_t, eqI_f, inR_t, inR_f, isSo_t, isSo_f] at q3
        rw [if_pos ⟨by omega, by omega⟩] at eu
        rw [eD, if_neg (fun h => by rw [q4'] at h; cases h.2.2), e, eu, q4', Bool.and_false, Bool.false_and]
        exact ⟨rfl, rfl⟩
      · have q4' : tgB ns p.toNat = true := by
          unfold tgB
          rw [q4]; rfl
        simp only [Bool.not_eq_true', Bool.not_eq_false', leI_t, leI_f, eqI_t, eqI_f, inR_t, inR_f, isSo_t, isSo_f] at q2
        simp only [Bool.not_eq_true', Bool.not_eq_false', leI_t, leI_f, eqI_t, eqI_f, inR_t, inR_f, isSo_t, isSo_f] at q3
        rw [if_pos ⟨by omega, by omega⟩] at eu
        have hw : w64 (i - 1) = i - 1 := w64_in (by omega)
        rw [hw]
        have hd : depI ns p ≤ p + 1 ∧ 0 ≤ depI ns p := by
          have := dep_le (pN ns) p.toNat
          unfold depI
          omega
        rw [dpU_eq (by omega) (by omega), w64_in (r := depI ns p + 1) (by omega), upK_in (by omega) (by omega) i.toNat (i - 1) (by omega) (by omega), eD, if_pos ⟨by omega, by omega, q4'⟩, e, eu, q4', show decide (0 ≤ p) = true from decide_eq_true (by omega), show (i.toNat : Int) - 1 = i - 1 by omega, Bool.true_and, Bool.true_and]
        exact need_so ⟨rfl, rfl⟩ (need_so ⟨hl, ⟨by omega, by omega⟩, by omega, by omega, by omega⟩ (need_t (by rw [inR_t]; omega) (need_t (by rw [Nat.blt_eq]; omega) ⟨rfl, rfl⟩)))
      · simp only [Bool.not_eq_true', Bool.not_eq_false', leI_t, leI_f, eqI_t, eqI_f, inR_t, inR_f, isSo_t, isSo_f] at q2
        simp only [Bool.not_eq_true', Bool.not_eq_false', leI_t, leI_f, eqI_t, eqI_f, inR_t, inR_f, isSo_t, isSo_f] at q3
        rw [if_neg (by omega)] at eu
        rw [eD, if_neg (by omega), e, eu, show decide ((0 : Int) ≤ -1) = false from rfl, Bool.false_and, Bool.false_and]
        exact ⟨rfl, rfl⟩
      · simp only [Bool.not_eq_true', Bool.not_eq_false', leI_t, leI_f, eqI_t, eqI_f, inR_t, inR_f, isSo_t, isSo_f] at q2
        rw [if_neg (by omega)] at eu
        rw [eD, if_neg (by omega), e, eu, show decide ((0 : Int) ≤ -1) = false from rfl, Bool.false_and, Bool.false_and]
        exact ⟨rfl, rfl⟩)
theorem Sy.sts_at (ns : List NdV) (hl : ns.length ≤ 1024) (i : Int) (hi : inR i ns.length = true) {M : Mem} {b : Nat} (hb : M.get b = some (stB ns i)) : CallTo Try.prog 47 [nview ns, .own b ns.length 1, int i] M fun v M' => v = .tup [int (sdD ns i), boo (stdB ns i)] ∧ M' = M := by
  have hbt := Mem.get_lt hb
  refine CallTo.frameG (σ := nm [b]) (sts_t ns hl i hi) ⟨RenV.free _ (nview_free ns), ⟨rfl, rfl, rfl⟩, rfl, trivial⟩ (.of rfl rfl (by simp) ⟨⟨b, _, rfl, hb, rfl, trivial, rfl, rfl, fun j k hj hk => rfl⟩, trivial⟩) ?_ ?_
  · intro y d hy
    rcases y with _ | y
    · exact ⟨_, rfl⟩
    · cases hy
  · rintro v M2 ⟨rfl, rfl⟩
    have key : ∀ y d, (if y = b then some 0 else none : Option Nat) = some d → y = b ∧ d = 0 := fun y d h => by
      split at h
      · simp at h; omega
      · cases h
    refine ⟨fun y => if y = b then some 0 else none, _, M, ⟨rfl, rfl⟩, ⟨rfl, rfl, trivial⟩, Nat.le_refl _, fun y d hy => ?_, fun y d hlt hy => ?_, fun y y' d hy hy' => ?_, fun y B' hy => ?_⟩
    · obtain ⟨rfl, _⟩ := key y d hy
      exact hbt
    · obtain ⟨rfl, rfl⟩ := key y d hy
      exact ⟨Nat.zero_lt_one, rfl⟩
    · obtain ⟨rfl, _⟩ := key y d hy
      obtain ⟨rfl, _⟩ := key y' d hy'
      rfl
    · by_cases c : y = b
      · subst c
        rw [hb] at hy
        simp at hy
        subst hy
        exact .inr ⟨0, _, if_pos rfl, rfl, rfl, trivial, rfl, rfl, fun j k hj hk => rfl⟩
      · refine .inl ⟨Mem.get_lt hy, fun d hd => ?_, hy⟩
        rcases d with _ | d
        · have : some b = some y := hd
          simp at this; omega
        · cases hd
namespace Sy
structure StX where
  b : Nat
  i : Int
def stGet : List AV → Option StX
  | [_, .own b _ _, .lit (.int .i64 i)] => some ⟨b, i⟩
  | _ => none
noncomputable abbrev cSts (ns : List NdV) : Con Try.prog where
  f := 47
  run := fun args M => match stGet args with
    | some x => some (.tup [int (sdD ns x.i), boo (stdB ns x.i)], M)
    | none => none
  ob := fun args M => match stGet args with
    | some x => some (isSo (args = [nview ns, .own x.b ns.length 1, int x.i] ∧ M.get x.b = some (stB ns x.i) ∧ ns.length ≤ 1024 ∧ inR x.i ns.length = true))
    | none => none
  ok := fun args M v M' hr hob => by
    cases hg : stGet args with
    | none => rw [hg] at hr; cases hr
    | some x =>
      rw [hg] at hr hob
      simp at hr
      obtain ⟨rfl, rfl⟩ := hr
      have h1 := hob _ rfl
      rw [isSo_t] at h1
      obtain ⟨e, h2, h3, h4⟩ := h1
      rw [e]
      exact ⟨Grow.refl _, sts_at ns h3 x.i h4 h2⟩
end Sy
end Go.Proofs.Ytglkdhmikpejnaa
namespace Go.Proofs.Ytglkdhmikpejnaa
open Go Go.RowKit Pl Sy
namespace Sy
theorem codeQ (l : List (Con Try.prog)) (lps : List (Lp Try.prog)) (f : FuncId) (k m : Nat) (c : Code) (hlp : LoopsOk Try.prog (lpOf lps f) c) (p : List Bool) {F : Fr} {M : Mem} {w0 : World} {ρ : Rho} {a : Act} {w : World} (hF : FR ρ F a) (hW : WR w0 ρ M w) (d : D) (t : Tr (ExP × Fr × Mem)) {Q : Exit → Act → World → Prop}
    (h : codeP Try.prog (table l) (psOf ([] : List (PCon Try.prog)) []) (callK Try.prog (table l) (lpOf lps) k m) (lpOf lps f) none c F M d (fun ex F' M' _ => .leaf (ex, maskP p ex F', M')) = t)
    (ht : t.Ok fun r => ∀ ρ' a' w', Ext ρ ρ' → EndP w0 ρ' r.1 r.2.1 r.2.2 a' w' → Q r.1.to a' w') : c.wp Try.prog Q a w := by
  subst h
  refine codeP_sound plain mixed (table_ok l) (pansOf_ok []) (callK_ok plain mixed (table_ok l) (lps_ok lps) k m) c hlp (scOk_nil c) hF hW ht fun ex F' M' d' ρ' a' w' h0 h1 h2 => ?_
  cases ex with
  | norm => exact h0 ρ' a' w' h1 ⟨h2.1.maskD p, h2.2⟩
  | exit id => exact h0 ρ' a' w' h1 ⟨h2.1.maskD p, h2.2⟩
  | ret => exact h0 ρ' a' w' h1 ⟨h2.1.maskD p, h2.2⟩
  | goto lb => exact h0 ρ' a' w' h1 ⟨h2.1.maskD p, h2.2⟩
  | pan kk e => exact h0 ρ' a' w' h1 h2
theorem loops_body (lps : List (Lp Try.prog)) (f : FuncId) : LoopsOk Try.prog (lpOf lps f) (bodyOf f) := by
  unfold bodyOf
  cases hf : Try.prog.funcs[f]? with
  | none => trivial
  | some fn =>
    simp only
    cases hb : fn.body with
    | none => trivial
    | some c => exact lps_ok lps f fn c hf hb
theorem loops_snd {lp : Nat → Option Summ} : ∀ {c : Code}, LoopsOk Try.prog lp c → LoopsOk Try.prog lp (cSnd c)
  | .seq a b, h => h.2
  | .cond _ _ _, h | .block _ _, h | .scope _, h | .loop _, h | .skip, h | .label _, h | .region .., h | .exit _, h | .ret, h | .goto _, h | .refuse _, h | .rangeFunc .., h => h
end Sy
end Go.Proofs.Ytglkdhmikpejnaa
namespace Go.Proofs.Ytglkdhmikpejnaa
open Go Go.RowKit Pl Sy
namespace Sy
abbrev tkF (ns : List NdV) (r k : Int) : Fr := (some ((@AV.view (ns).length 6 (@ndcell ns))) :: none :: some (int r) :: some ((@AV.own 0 (ns).length 1)) :: (nn15 (some ((@AV.view (ns).length 6 (@ndcell ns))) :: some ((int (((ns).length : Nat) : Int))) :: some (int k) :: (nn30 []))))
abbrev tkE (r : Int) : Fr := (none :: none :: some (int r) :: (nn5 (nn44 [])))
abbrev tkM : Mem := ⟨1, 0, [none]⟩
end Sy
theorem elem_words (n : NdV) : ndB n = (elemB n || wrdB n) := by
  rw [elem_nd]
  unfold wrdB
  cases h : bytesEq n.tag.data.toList [] with
  | true =>
    unfold ndB
    rw [if_pos h]
    simp
  | false => simp
theorem Sy.tkF_ren (ns : List NdV) (r k k' : Int) (σ : Nat → Option Nat) (h : k = k') (h0 : σ 0 = some 0) : RenF σ (tkF ns r k) (tkF ns r k') := by
  subst h
  simp only [RenF, and_true]
  exact ⟨RenV.free _ (nview_free ns), rfl, ⟨h0, rfl, rfl⟩, RenV.free _ (nview_free ns), rfl, rfl⟩
theorem Sy.tkE_ren (ns : List NdV) (r k : Int) (σ : Nat → Option Nat) : RenF σ (tkF ns r k) (tkE r) := by
  simp only [RenF, and_true]
  exact rfl
theorem dpU_next {ns : List NdV} {k : Nat} {i : Nat} (h : i ≠ k) : dpU ns ((k : Int) + 1) i = dpU ns k i := by
  unfold dpU
  by_cases c : (i : Int) < k
  · rw [if_pos c, if_pos (by omega)]
  · rw [if_neg c, if_neg (by omega)]
theorem Sy.stB_ren (ns : List NdV) (k : Nat) (σ : Nat → Option Nat) (d : Int) (hd : d = depI ns k) (i j : Nat) (hj : j < 1) : RenV σ (setc k 0 [int d] (dcell ns k) i j) (dcell ns ((k : Int) + 1) i j) := by
  obtain rfl : j = 0 := by omega
  by_cases c : i = k
  · subst c
    rw [setc_in ⟨Nat.le_refl _, by simp⟩]
    unfold dcell
    have e : dpU ns ((i : Int) + 1) i = d := by
      unfold dpU
      rw [if_pos (by omega), hd]
    rw [e]
    exact rfl
  · rw [setc_out (by omega)]
    unfold dcell
    rw [dpU_next c]
    exact rfl
theorem Sy.stM_ren {ns : List NdV} {k : Int} {M : Mem} {c : Nat → Nat → AV} (h : M.get 0 = some ⟨[], 3, some ⟨ns.length, 1, c⟩⟩) (hc : ∀ i j, j < 1 → RenV (nm [0]) (c i j) (dcell ns k i j)) : RenM (nm [0]) M (stM ns k) :=
  .of rfl rfl (by simp) ⟨⟨0, _, rfl, h, rfl, trivial, rfl, rfl, fun i j hi hj => hc i j hj⟩, trivial⟩
theorem Sy.tkM_ren {M : Mem} : RenM (nm [0]) M tkM := .of rfl rfl (by simp) trivial
theorem Sy.tk_loop (ns : List NdV) (hO : NsOk ns) (hl : ns.length ≤ 1024) : ∀ (m k : Nat), k + m = ns.length →
    LoopToT 1 Try.prog (theBody Try.prog 24 8) (m + 1) (tkF ns 0 (k : Nat)) (stM ns (k : Nat)) (RG 1 fun ex F M => M = tkM ∧ F = tkE (ckN ns m (k : Nat)) ∧ ((ckN ns m (k : Nat) = 0 ∧ ex = .exit 1) ∨ (ckN ns m (k : Nat) ≠ 0 ∧ ex = .ret))) := by
  intro m
  induction m with
  | zero =>
    intro k h2
    refine roundT plain mixed 1 [cElm1 (ndN ns (k : Nat)), cTwd (ndN ns (k : Nat)), cSts ns] [] 400 30 24 8 Try.func24 rfl (by kernel_rfl) (true :: false :: true :: true :: (ff15 (true :: true :: true :: (ff30 [])))) (.br (.yes (.yes (.br (.auto 0 (.yes (.auto 1 (.br .done (.yes (.br .done (.br .done (.yes (.yes .done))))))))) (.auto 3 (.yes (.br .done (.br .done (.yes (.yes .done))))))))) .done) (let k : Int := ((k : Nat) : Int); (let e1 := (@inR k (ns).length); let e2 := (@ByteArray.mk (@Array.mk _ [])); let e3 := (@AV.lit (@Value.string e2)); let e4 := (@AV.lit (@Value.slice none 0 0)); let e5 := ((@ndcell ns (k).toNat 0) :: (@ndcell ns (k).toNat 1) :: (@ndcell ns (k).toNat 2) :: (@ndcell ns (k).toNat 3) :: (@ndcell ns (k).toNat 4) :: (@ndcell ns (k).toNat 5) :: (@List.drop _ (0 + ([(@ndcell ns (k).toNat 0), (@ndcell ns (k).toNat 1), (@ndcell ns (k).toNat 2), (@ndcell ns (k).toNat 3), (@ndcell ns (k).toNat 4), (@ndcell ns (k).toNat 5)]).length) [(int (0 : Int)), e3, e3, e4, e4, e3])); let e6 := (@Value.tuple (@Array.mk _ [])); let e7 := (@AV.view (ns).length 6 (@ndcell ns)); let e8 := (some e7); let e9 := (@AV.own 0 (ns).length 1); let e10 := (some (int (((ns).length : Nat) : Int))); let e11 := (fun y0 => (fun y1 => (int (@dpU ns k y0)))); let e12 := (some (@Blk.mk [] 3 (some (@Rw.mk (ns).length 1 e11)))); let e13 := (@Mem.mk (1 + 1) (0 + 1) [(some (@Blk.mk e5 40 none)), e12]); (.fork (!(leI (((ns).length : Nat) : Int) k)) (.need e1 (.need (@isSo (@And ((@HAppend.hAppend _ _ _ _ (@HAppend.hAppend _ _ _ _ [] [(@AV.agg (@List.take _ 6 e5))]) []) = [(@AV.agg [(int ((@ndN ns k)).par), (@AV.lit (@Value.string ((@ndN ns k)).tag)), (@AV.lit (@Value.string ((@ndN ns k)).id)), (@AV.view (((@ndN ns k)).cls).length 1 (fun y0 => (fun y1 => (@AV.lit ([(@Value.string (((@ndN ns k)).cls.getD y0 e2))].getD y1 e6))))), (@AV.view (((@ndN ns k)).atts).length 2 (fun y0 => (fun y1 => (@AV.lit ([(@Value.string ((((@ndN ns k)).atts.getD y0 attrNone)).name), (@Value.string ((((@ndN ns k)).atts.getD y0 attrNone)).value)].getD y1 e6))))), (@AV.lit (@Value.string ((@ndN ns k)).text))])]) (@And ((@ByteArray.size ((@ndN ns k)).tag) ≤ 9223372036854775807) (@And ((@ByteArray.size ((@ndN ns k)).id) ≤ 9223372036854775807) (@And (@And ((((@ndN ns k)).cls).length ≤ 17592186044416) (∀ (s : ByteArray), s ∈ (ndN ns k).cls → s.size ≤ maxLen)) (@And (@And ((((@ndN ns k)).atts).length ≤ 17592186044416) (∀ (t : AttrV), t ∈ (ndN ns k).atts → t.Ok)) ((@ByteArray.size ((@ndN ns k)).text) ≤ 9223372036854775807))))))) (.fork (!(@elemB (@ndN ns k))) (.need (@isSo (@And ((@HAppend.hAppend _ _ _ _ (@HAppend.hAppend _ _ _ _ [] [(@AV.agg (@List.take _ 6 e5))]) []) = [(@AV.agg [(int ((@ndN ns k)).par), (@AV.lit (@Value.string ((@ndN ns k)).tag)), (@AV.lit (@Value.string ((@ndN ns k)).id)), (@AV.view (((@ndN ns k)).cls).length 1 (fun y0 => (fun y1 => (@AV.lit ([(@Value.string (((@ndN ns k)).cls.getD y0 e2))].getD y1 e6))))), (@AV.view (((@ndN ns k)).atts).length 2 (fun y0 => (fun y1 => (@AV.lit ([(@Value.string ((((@ndN ns k)).atts.getD y0 attrNone)).name), (@Value.string ((((@ndN ns k)).atts.getD y0 attrNone)).value)].getD y1 e6))))), (@AV.lit (@Value.string ((@ndN ns k)).text))])]) (@And ((@ByteArray.size ((@ndN ns k)).tag) ≤ 9223372036854775807) (@And ((@ByteArray.size ((@ndN ns k)).id) ≤ 9223372036854775807) (@And (@And ((((@ndN ns k)).cls).length ≤ 17592186044416) (∀ (s : ByteArray), s ∈ (ndN ns k).cls → s.size ≤ maxLen)) (@And (@And ((((@ndN ns k)).atts).length ≤ 17592186044416) (∀ (t : AttrV), t ∈ (ndN ns k).atts → t.Ok)) ((@ByteArray.size ((@ndN ns k)).text) ≤ 9223372036854775807))))))) (.fork (!(@wrdB (@ndN ns k))) (.leaf (Ex.ret, ((e8 :: none :: (some (int (34 : Int))) :: (some e9) :: (nn15 (e8 :: e10 :: (some (int k)) :: (nn30 [])))), e13))) (.need (@isSo (@And ((@HAppend.hAppend _ _ _ _ (@HAppend.hAppend _ _ _ _ [] [e7, e9, (int k)]) []) = [e7, e9, (int k)]) (@And (e12 = e12) (@And ((ns).length ≤ 1024) (e1 = true))))) (.fork (!(@stdB ns k)) (.leaf (Ex.ret, ((e8 :: none :: (some (int (34 : Int))) :: (some e9) :: (nn15 (e8 :: e10 :: (some (int k)) :: (nn30 [])))), e13))) (.fork (!(leI (@sdD ns k) (64 : Int))) (.leaf (Ex.ret, ((e8 :: none :: (some (int (31 : Int))) :: (some e9) :: (nn15 (e8 :: e10 :: (some (int k)) :: (nn30 [])))), e13))) (.need e1 (.need (@Nat.blt (k).toNat (ns).length) (.leaf (Ex.norm, ((e8 :: none :: (some (int (0 : Int))) :: (some e9) :: (nn15 (e8 :: e10 :: (some (int (w64 (k + (1 : Int))))) :: (nn30 [])))), (@Mem.mk (1 + 1) ((0 + 1) + 1) [(some (@Blk.mk e5 40 none)), (some (@Blk.mk [] 3 (some (@Rw.mk (ns).length 1 (@setc (k).toNat 0 [(int (@sdD ns k))] e11)))))]))))))))))) (.need (@isSo (@And ((@HAppend.hAppend _ _ _ _ (@HAppend.hAppend _ _ _ _ [] [e7, e9, (int k)]) []) = [e7, e9, (int k)]) (@And (e12 = e12) (@And ((ns).length ≤ 1024) (e1 = true))))) (.fork (!(@stdB ns k)) (.leaf (Ex.ret, ((e8 :: none :: (some (int (34 : Int))) :: (some e9) :: (nn15 (e8 :: e10 :: (some (int k)) :: (nn30 [])))), e13))) (.fork (!(leI (@sdD ns k) (64 : Int))) (.leaf (Ex.ret, ((e8 :: none :: (some (int (31 : Int))) :: (some e9) :: (nn15 (e8 :: e10 :: (some (int k)) :: (nn30 [])))), e13))) (.need e1 (.need (@Nat.blt (k).toNat (ns).length) (.leaf (Ex.norm, ((e8 :: none :: (some (int (0 : Int))) :: (some e9) :: (nn15 (e8 :: e10 :: (some (int (w64 (k + (1 : Int))))) :: (nn30 [])))), (@Mem.mk (1 + 1) ((0 + 1) + 1) [(some (@Blk.mk e5 40 none)), (some (@Blk.mk [] 3 (some (@Rw.mk (ns).length 1 (@setc (k).toNat 0 [(int (@sdD ns k))] e11)))))])))))))))))) (.leaf ((@Ex.exit 1), ((e8 :: none :: (some (int (0 : Int))) :: (some e9) :: (nn15 (e8 :: e10 :: (some (int k)) :: (nn30 [])))), (@Mem.mk 1 0 [e12]))))))) (by kernel_rfl) ?_
    conv => zeta
    refine fork_ok (fun h => ?_) (fun h => ?_)
    · simp only [Bool.not_eq_true', Bool.not_eq_false', leI_t, leI_f, eqI_t, eqI_f, inR_t, inR_f, isSo_t, isSo_f] at h
      omega
    · exact ⟨_, _, [0], rfl, tkE_ren ns 0 k _, tkM_ren, rfl, rfl, .inl ⟨rfl, rfl⟩⟩
  | succ m ih =>
    intro k h2
    have hr : inR (k : Nat) ns.length = true := by rw [inR_t]; omega
    have hk : (ndN ns (k : Nat)).Ok := hO.2 _ (getD_mem ns (k : Nat) _ (by omega) (by omega))
    have hw : w64 ((k : Int) + 1) = (k : Int) + 1 := w64_in (by omega)
    have e : ckN ns (m + 1) (k : Nat) = if ndB (ndN ns (k : Nat)) = true then (if stdB ns (k : Nat) = true then (if leI (depI ns (k : Nat)) 64 = true then ckN ns m ((k : Int) + 1) else 31) else 34) else 34 := rfl
    have ew := elem_words (ndN ns (k : Nat))
    refine roundT plain mixed 1 [cElm1 (ndN ns (k : Nat)), cTwd (ndN ns (k : Nat)), cSts ns] [] 400 30 24 8 Try.func24 rfl (by kernel_rfl) (true :: false :: true :: true :: (ff15 (true :: true :: true :: (ff30 [])))) (.br (.yes (.yes (.br (.auto 0 (.yes (.auto 1 (.br .done (.yes (.br .done (.br .done (.yes (.yes .done))))))))) (.auto 3 (.yes (.br .done (.br .done (.yes (.yes .done))))))))) .done) (let k : Int := ((k : Nat) : Int); (let e1 := (@inR k (ns).length); let e2 := (@ByteArray.mk (@Array.mk _ [])); let e3 := (@AV.lit (@Value.string e2)); let e4 := (@AV.lit (@Value.slice none 0 0)); let e5 := ((@ndcell ns (k).toNat 0) :: (@ndcell ns (k).toNat 1) :: (@ndcell ns (k).toNat 2) :: (@ndcell ns (k).toNat 3) :: (@ndcell ns (k).toNat 4) :: (@ndcell ns (k).toNat 5) :: (@List.drop _ (0 + ([(@ndcell ns (k).toNat 0), (@ndcell ns (k).toNat 1), (@ndcell ns (k).toNat 2), (@ndcell ns (k).toNat 3), (@ndcell ns (k).toNat 4), (@ndcell ns (k).toNat 5)]).length) [(int (0 : Int)), e3, e3, e4, e4, e3])); let e6 := (@Value.tuple (@Array.mk _ [])); let e7 := (@AV.view (ns).length 6 (@ndcell ns)); let e8 := (some e7); let e9 := (@AV.own 0 (ns).length 1); let e10 := (some (int (((ns).length : Nat) : Int))); let e11 := (fun y0 => (fun y1 => (int (@dpU ns k y0)))); let e12 := (some (@Blk.mk [] 3 (some (@Rw.mk (ns).length 1 e11)))); let e13 := (@Mem.mk (1 + 1) (0 + 1) [(some (@Blk.mk e5 40 none)), e12]); (.fork (!(leI (((ns).length : Nat) : Int) k)) (.need e1 (.need (@isSo (@And ((@HAppend.hAppend _ _ _ _ (@HAppend.hAppend _ _ _ _ [] [(@AV.agg (@List.take _ 6 e5))]) []) = [(@AV.agg [(int ((@ndN ns k)).par), (@AV.lit (@Value.string ((@ndN ns k)).tag)), (@AV.lit (@Value.string ((@ndN ns k)).id)), (@AV.view (((@ndN ns k)).cls).length 1 (fun y0 => (fun y1 => (@AV.lit ([(@Value.string (((@ndN ns k)).cls.getD y0 e2))].getD y1 e6))))), (@AV.view (((@ndN ns k)).atts).length 2 (fun y0 => (fun y1 => (@AV.lit ([(@Value.string ((((@ndN ns k)).atts.getD y0 attrNone)).name), (@Value.string ((((@ndN ns k)).atts.getD y0 attrNone)).value)].getD y1 e6))))), (@AV.lit (@Value.string ((@ndN ns k)).text))])]) (@And ((@ByteArray.size ((@ndN ns k)).tag) ≤ 9223372036854775807) (@And ((@ByteArray.size ((@ndN ns k)).id) ≤ 9223372036854775807) (@And (@And ((((@ndN ns k)).cls).length ≤ 17592186044416) (∀ (s : ByteArray), s ∈ (ndN ns k).cls → s.size ≤ maxLen)) (@And (@And ((((@ndN ns k)).atts).length ≤ 17592186044416) (∀ (t : AttrV), t ∈ (ndN ns k).atts → t.Ok)) ((@ByteArray.size ((@ndN ns k)).text) ≤ 9223372036854775807))))))) (.fork (!(@elemB (@ndN ns k))) (.need (@isSo (@And ((@HAppend.hAppend _ _ _ _ (@HAppend.hAppend _ _ _ _ [] [(@AV.agg (@List.take _ 6 e5))]) []) = [(@AV.agg [(int ((@ndN ns k)).par), (@AV.lit (@Value.string ((@ndN ns k)).tag)), (@AV.lit (@Value.string ((@ndN ns k)).id)), (@AV.view (((@ndN ns k)).cls).length 1 (fun y0 => (fun y1 => (@AV.lit ([(@Value.string (((@ndN ns k)).cls.getD y0 e2))].getD y1 e6))))), (@AV.view (((@ndN ns k)).atts).length 2 (fun y0 => (fun y1 => (@AV.lit ([(@Value.string ((((@ndN ns k)).atts.getD y0 attrNone)).name), (@Value.string ((((@ndN ns k)).atts.getD y0 attrNone)).value)].getD y1 e6))))), (@AV.lit (@Value.string ((@ndN ns k)).text))])]) (@And ((@ByteArray.size ((@ndN ns k)).tag) ≤ 9223372036854775807) (@And ((@ByteArray.size ((@ndN ns k)).id) ≤ 9223372036854775807) (@And (@And ((((@ndN ns k)).cls).length ≤ 17592186044416) (∀ (s : ByteArray), s ∈ (ndN ns k).cls → s.size ≤ maxLen)) (@And (@And ((((@ndN ns k)).atts).length ≤ 17592186044416) (∀ (t : AttrV), t ∈ (ndN ns k).atts → t.Ok)) ((@ByteArray.size ((@ndN ns k)).text) ≤ 9223372036854775807))))))) (.fork (!(@wrdB (@ndN ns k))) (.leaf (Ex.ret, ((e8 :: none :: (some (int (34 : Int))) :: (some e9) :: (nn15 (e8 :: e10 :: (some (int k)) :: (nn30 [])))), e13))) (.need (@isSo (@And ((@HAppend.hAppend _ _ _ _ (@HAppend.hAppend _ _ _ _ [] [e7, e9, (int k)]) []) = [e7, e9, (int k)]) (@And (e12 = e12) (@And ((ns).length ≤ 1024) (e1 = true))))) (.fork (!(@stdB ns k)) (.leaf (Ex.ret, ((e8 :: none :: (some (int (34 : Int))) :: (some e9) :: (nn15 (e8 :: e10 :: (some (int k)) :: (nn30 [])))), e13))) (.fork (!(leI (@sdD ns k) (64 : Int))) (.leaf (Ex.ret, ((e8 :: none :: (some (int (31 : Int))) :: (some e9) :: (nn15 (e8 :: e10 :: (some (int k)) :: (nn30 [])))), e13))) (.need e1 (.need (@Nat.blt (k).toNat (ns).length) (.leaf (Ex.norm, ((e8 :: none :: (some (int (0 : Int))) :: (some e9) :: (nn15 (e8 :: e10 :: (some (int (w64 (k + (1 : Int))))) :: (nn30 [])))), (@Mem.mk (1 + 1) ((0 + 1) + 1) [(some (@Blk.mk e5 40 none)), (some (@Blk.mk [] 3 (some (@Rw.mk (ns).length 1 (@setc (k).toNat 0 [(int (@sdD ns k))] e11)))))]))))))))))) (.need (@isSo (@And ((@HAppend.hAppend _ _ _ _ (@HAppend.hAppend _ _ _ _ [] [e7, e9, (int k)]) []) = [e7, e9, (int k)]) (@And (e12 = e12) (@And ((ns).length ≤ 1024) (e1 = true))))) (.fork (!(@stdB ns k)) (.leaf (Ex.ret, ((e8 :: none :: (some (int (34 : Int))) :: (some e9) :: (nn15 (e8 :: e10 :: (some (int k)) :: (nn30 [])))), e13))) (.fork (!(leI (@sdD ns k) (64 : Int))) (.leaf (Ex.ret, ((e8 :: none :: (some (int (31 : Int))) :: (some e9) :: (nn15 (e8 :: e10 :: (some (int k)) :: (nn30 [])))), e13))) (.need e1 (.need (@Nat.blt (k).toNat (ns).length) (.leaf (Ex.norm, ((e8 :: none :: (some (int (0 : Int))) :: (some e9) :: (nn15 (e8 :: e10 :: (some (int (w64 (k + (1 : Int))))) :: (nn30 [])))), (@Mem.mk (1 + 1) ((0 + 1) + 1) [(some (@Blk.mk e5 40 none)), (some (@Blk.mk [] 3 (some (@Rw.mk (ns).length 1 (@setc (k).toNat 0 [(int (@sdD ns k))] e11)))))])))))))))))) (.leaf ((@Ex.exit 1), ((e8 :: none :: (some (int (0 : Int))) :: (some e9) :: (nn15 (e8 :: e10 :: (some (int k)) :: (nn30 [])))), (@Mem.mk 1 0 [e12]))))))) (by kernel_rfl) ?_
    conv => zeta
    refine fork_ok (fun h => need_t hr (need_so ⟨rfl, hk⟩ (fork_ok (fun q => need_so ⟨rfl, hk⟩ (fork_ok (fun q1 => ?_) (fun q1 => ?_))) (fun q => ?_)))) (fun h => ?_)
    · have q : elemB (ndN ns (k : Nat)) = false := by simpa using q
      have q1 : wrdB (ndN ns (k : Nat)) = false := by simpa using q1
      rw [ew, q, q1, if_neg (by decide)] at e
      rw [e]
      exact ⟨_, _, [0], rfl, tkE_ren ns 34 k _, tkM_ren, rfl, rfl, .inr ⟨by decide, rfl⟩⟩
    · have q1 : wrdB (ndN ns (k : Nat)) = true := by simpa using q1
      rw [ew, q1, Bool.or_true, if_pos rfl] at e
      refine need_so ⟨rfl, rfl, hl, hr⟩ (fork_ok (fun q2 => ?_) (fun q2 => fork_ok (fun q3 => ?_) (fun q3 => need_t hr (need_t (by rw [Nat.blt_eq]; omega) ?_))))
      · have q2 : stdB ns (k : Nat) = false := by simpa using q2
        rw [q2, if_neg (by decide)] at e
        rw [e]
        exact ⟨_, _, [0], rfl, tkE_ren ns 34 k _, tkM_ren, rfl, rfl, .inr ⟨by decide, rfl⟩⟩
      · have q2 : stdB ns (k : Nat) = true := by simpa using q2
        have hD := sdD_ok (by omega : (0 : Int) ≤ (k : Nat)) q2
        have q3 : leI (depI ns (k : Nat)) 64 = false := by rw [← hD]; simpa using q3
        rw [q2, if_pos rfl, q3, if_neg (by decide)] at e
        rw [e]
        exact ⟨_, _, [0], rfl, tkE_ren ns 31 k _, tkM_ren, rfl, rfl, .inr ⟨by decide, rfl⟩⟩
      · have q2 : stdB ns (k : Nat) = true := by simpa using q2
        have hD := sdD_ok (by omega : (0 : Int) ≤ (k : Nat)) q2
        have q3 : leI (depI ns (k : Nat)) 64 = true := by rw [← hD]; simpa using q3
        rw [q2, if_pos rfl, q3, if_pos rfl] at e
        rw [e]
        have key := ih (k + 1) (by omega)
        rw [show ((k + 1 : Nat) : Int) = (k : Int) + 1 by omega] at key
        exact LoopToT.ren [0] rfl (tkF_ren ns 0 _ _ _ hw rfl) (stM_ren rfl fun i j hj => stB_ren ns k _ _ hD i j hj) key
    · have q : elemB (ndN ns (k : Nat)) = true := by simpa using q
      rw [ew, q, Bool.true_or, if_pos rfl] at e
      refine need_so ⟨rfl, rfl, hl, hr⟩ (fork_ok (fun q2 => ?_) (fun q2 => fork_ok (fun q3 => ?_) (fun q3 => need_t hr (need_t (by rw [Nat.blt_eq]; omega) ?_))))
      · have q2 : stdB ns (k : Nat) = false := by simpa using q2
        rw [q2, if_neg (by decide)] at e
        rw [e]
        exact ⟨_, _, [0], rfl, tkE_ren ns 34 k _, tkM_ren, rfl, rfl, .inr ⟨by decide, rfl⟩⟩
      · have q2 : stdB ns (k : Nat) = true := by simpa using q2
        have hD := sdD_ok (by omega : (0 : Int) ≤ (k : Nat)) q2
        have q3 : leI (depI ns (k : Nat)) 64 = false := by rw [← hD]; simpa using q3
        rw [q2, if_pos rfl, q3, if_neg (by decide)] at e
        rw [e]
        exact ⟨_, _, [0], rfl, tkE_ren ns 31 k _, tkM_ren, rfl, rfl, .inr ⟨by decide, rfl⟩⟩
      · have q2 : stdB ns (k : Nat) = true := by simpa using q2
        have hD := sdD_ok (by omega : (0 : Int) ≤ (k : Nat)) q2
        have q3 : leI (depI ns (k : Nat)) 64 = true := by rw [← hD]; simpa using q3
        rw [q2, if_pos rfl, q3, if_pos rfl] at e
        rw [e]
        have key := ih (k + 1) (by omega)
        rw [show ((k + 1 : Nat) : Int) = (k : Int) + 1 by omega] at key
        exact LoopToT.ren [0] rfl (tkF_ren ns 0 _ _ _ hw rfl) (stM_ren rfl fun i j hj => stB_ren ns k _ _ hD i j hj) key
    · simp only [Bool.not_eq_true', Bool.not_eq_false', leI_t, leI_f, eqI_t, eqI_f, inR_t, inR_f, isSo_t, isSo_f] at h
      omega
namespace Sy
noncomputable abbrev lpTk (ns : List NdV) : Lp Try.prog where
  f := 24
  key := 8
  S := formS (fun _ M => some M.stamp) (fun _ => tkF ns 0 0) (fun t => ⟨1, t, [some (stB ns 0)]⟩) (fun _ => NsOk ns ∧ ns.length ≤ 1024) (fun _ => .fork (eqI (ckN ns ns.length 0) 0) (.leaf (.exit 1, tkE (ckN ns ns.length 0), tkM)) (.leaf (.ret, tkE (ckN ns ns.length 0), tkM))) (true :: false :: true :: true :: (ff15 (true :: true :: true :: (ff30 []))))
  one := by kernel_rfl
  ok := formS_ok fun t ⟨h1, h2⟩ => by
    refine ⟨ns.length + 1, ?_⟩
    have key := LoopToT.to (T := 1) (LoopToT.out (tk_loop ns h1 h2 ns.length 0 (by omega))) (Nat.le_refl 1)
    refine (LoopTo.stampB 0 key).mono fun ex F M hg => ?_
    obtain ⟨rfl, rfl, hg⟩ := hg
    rcases hg with ⟨q1, rfl⟩ | ⟨q1, rfl⟩
    · exact .inl ⟨by rw [eqI_t]; exact q1, rfl⟩
    · exact .inr ⟨by rw [eqI_f]; exact q1, rfl⟩
end Sy
end Go.Proofs.Ytglkdhmikpejnaa
namespace Go.Proofs.Ytglkdhmikpejnaa
open Go Go.RowKit Pl Sy
theorem int_info : ∃ i, Try.prog.info? 3 = some i ∧ i.zero = some (.int .i64 0) ∧ i.size = 1 ∧ i.bytes = 8 := by
  have h : (Try.prog.info? 3).map (fun i => (i.zero, i.size, i.bytes)) = some (some (.int .i64 0), 1, 8) := by kernel_rfl
  obtain ⟨i, hi, he⟩ := Option.map_eq_some_iff.1 h
  simp only [Prod.mk.injEq] at he
  exact ⟨i, hi, he.1, he.2.1, he.2.2⟩
theorem Sy.zero_rows {ρ : Rho} (ns : List NdV) : Holds ρ (stB ns 0) ((Array.range (ns.length * 1)).map (fun j => (Value.int .i64 0).cells[j % (Value.int .i64 0).cells.size]!)) := by
  refine holds_rows (m := ns.length) (s := 1) fun k hk => ?_
  rw [Nat.mul_one] at hk
  refine ⟨.int .i64 0, by simp [hk, Value.cells, Nat.mod_one], ?_, rfl⟩
  have e : dpU ns 0 (k / 1) = 0 := by
    unfold dpU
    rw [if_neg (by omega)]
  unfold dcell
  rw [e]
  simp only [rel]
set_option maxRecDepth 20000 in
theorem Sy.tck_in (ns : List NdV) (hO : NsOk ns) (h0 : ns.length ≠ 0) (hl : ns.length ≤ 1024) : CallTo Try.prog 24 [nview ns] M0 fun v _ => v = int (ckI ns) := fun w0 ρ us w hr hW => by
  have hr0 := hr
  simp only [rels] at hr0
  obtain ⟨u0, us0, e0, hu0, rfl⟩ := hr0
  simp only [rels, rel] at hr
  obtain ⟨u, us1, rfl, ⟨a, cap, rfl, hr1, hr2, hr3, hr4⟩, rfl⟩ := hr
  simp only [List.cons.injEq] at e0
  obtain ⟨rfl, e0⟩ := e0
  clear e0
  have z0 : ((ns.length : Int) == 0) = false := by simp; exact fun e => h0 (by rw [e]; rfl)
  have z1 : decide ((1024 : Int) < (ns.length : Int)) = false := by simp; omega
  have hl' := Lib.hid hl
  have h0' := Lib.hid h0
  have hO' := Lib.hid hO
  have hW' := Lib.hid hW
  have hu' := Lib.hid hu0
  clear hl h0 hO hW hu0 hr1 hr2 hr3 hr4
  go_enter Try.func24, Try.ntmps24
  generalize hR6 : Code.seq (Code.seq (Code.region 6 _ false) _) _ = RR
  go_wp2
  obtain ⟨i, hi, hz, hs1, hb8⟩ := int_info
  have hl := hl'.out
  rw [run_make Try.underlying43 hi hz .i64 .i64 ns.length ns.length (Nat.le_refl _) (by rw [hb8]; omega) (by omega)]
  simp only [Result.andThen]
  rw [Oper.upon_value, hs1]
  obtain ⟨Z, hZ, hZh, hZs⟩ : ∃ Z : Array Value, (Array.range (ns.length * 1)).map (fun j => (Value.int .i64 0).cells[j % (Value.int .i64 0).cells.size]!) = Z ∧ (∀ ρ, Holds ρ (stB ns 0) Z) ∧ Z.size = ns.length := ⟨_, rfl, fun ρ => zero_rows ns, by simp⟩
  rw [hZ]
  have hZh' := Lib.hid hZh
  have hZs' := Lib.hid hZs
  clear hZ hZh hZs
  go_wp2
  have hRR : RR = cSnd (cSnd (cSnd (bodyOf 24))) := by rw [← hR6]; kernel_rfl
  clear hR6
  subst hRR
  have hW := hW'.out
  have hE := hW.fresh (w.heap.size, Z.size)
  have hW1 := (hW.new' (stB ns 0) (hZh'.out ρ)).restamp 0
  refine codeQ [] [lpTk ns] 24 400 30 _ (loops_snd (loops_snd (loops_snd (loops_body _ _)))) (false :: false :: true :: (ff5 (ff44 []))) (F := (some (nview ns) :: none :: some (int 0) :: some (.own 0 ns.length 1) :: (nn48 []))) (M := stM ns 0) (w0 := w0) ?_ hW1 (.br .done .done) (let e1 := (some (@AV.view (ns).length 6 (@ndcell ns))); let e2 := (some (int (0 : Int))); let e3 := (some (@AV.own 0 (ns).length 1)); let e4 := (some (int (((ns).length : Nat) : Int))); let e5 := (@Mem.mk 1 0 [(some (@Blk.mk [] 3 (some (@Rw.mk (ns).length 1 (fun y0 => (fun y1 => (int (@dpU ns (0 : Int) y0))))))))]); let e6 := (@ckN ns (ns).length (0 : Int)); (.need (@isSo (@And ((e1 :: none :: e2 :: e3 :: (nn15 (e1 :: e4 :: e2 :: (nn30 [])))) = (e1 :: none :: e2 :: e3 :: (nn15 (e1 :: e4 :: e2 :: (nn30 []))))) (e5 = e5))) (.need (@isSo (@And (@NsOk ns) ((ns).length ≤ 1024))) (.fork (eqI e6 (0 : Int)) (.leaf (ExP.ret, ((none :: none :: e2 :: (nn5 (nn44 []))), (@Mem.mk 1 0 [none])))) (.leaf (ExP.ret, ((none :: none :: (some (int e6)) :: (nn5 (nn44 []))), (@Mem.mk 1 0 [none])))))))) (by kernel_rfl) ?_
  · refine ⟨rfl, fun t v hv => ?_, rfl⟩
    rcases t with _ | _ | _ | _ | t
    · simp at hv; subst hv; exact hu'.out.ext hE
    · simp at hv
    · simp at hv; subst hv; simp only [rel]; rfl
    · simp at hv
      subst hv
      simp only [rel]
      refine .inr ⟨_, _, ns.length, upd_same _ _ _, rfl, Nat.le_refl _, by unfold maxLen; omega, by rw [hZs'.out]; omega⟩
    · exfalso
      rcases t with _ | _ | _ | _ | _ | _ | _ | _ | _ | _ | _ | _ | _ | _ | _ | _ | _ | _ | _ | _ | _ | _ | _ | _ | _ | _ | _ | _ | _ | _ | _ | _ | _ | _ | _ | _ | _ | _ | _ | _ | _ | _ | _ | _ | _ | _ | _ | _ | t <;> simp at hv
  · have h0 := h0'.out
    have e : ckI ns = ckN ns ns.length 0 := by
      unfold ckI
      rw [if_neg (by rw [eqI_t]; omega), if_pos (by rw [leI_t]; omega)]
    have fin : ∀ r, r = ckI ns → ∀ ρ' a' w', Ext _ ρ' → EndP w0 ρ' .ret (none :: none :: some (int r) :: (nn5 (nn44 []))) tkM a' w' → bodyPost Try.prog Try.f24 (fun e w' => ∃ ρ' u v M', e = .returned u ∧ Ext ρ ρ' ∧ rel ρ' v u ∧ WR w0 ρ' M' w' ∧ v = int (ckI ns)) .ret a' w' := fun r er ρ' a' w' q1 q2 => by
      obtain ⟨u, r1, r2⟩ := resultsA_sound (fn := Try.f24) (v := int r) q2.1 q2.2 (by kernel_rfl)
      exact bodyPost_ret r2 q2.1.defers ⟨ρ', u, int r, tkM, rfl, hE.trans q1, r1, q2.2, by rw [er]⟩
    refine need_so ⟨rfl, rfl⟩ (need_so ⟨hO'.out, hl⟩ (fork_ok (fun q => fin 0 (by rw [eqI_t] at q; rw [e, q])) (fun q => fin _ e.symm)))
set_option maxRecDepth 20000 in
theorem Sy.tck_no (ns : List NdV) (h : ns.length = 0 ∨ 1024 < ns.length) : CallTo Try.prog 24 [nview ns] M0 fun v _ => v = int (ckI ns) := fun w0 ρ us w hr hW => by
  simp only [rels, rel] at hr
  obtain ⟨u, us1, rfl, ⟨a, cap, rfl, hr1, hr2, hr3, hr4⟩, rfl⟩ := hr
  have hW' := Lib.hid hW
  rcases h with h | h
  · have e : ckI ns = 34 := by
      unfold ckI
      rw [if_pos (by rw [eqI_t]; omega)]
    have e' := Lib.hid e
    clear hr1 hr2 hr3 hr4 hW e
    go_enter Try.func24, Try.ntmps24
    rw [h]
    go_wp2
    go_ret
    exact ⟨ρ, _, int 34, M0, rfl, Ext.refl ρ, by simp only [rel]; rfl, hW'.out, by rw [e'.out]⟩
  · have e : ckI ns = 32 := by
      unfold ckI
      rw [if_neg (by rw [eqI_t]; omega), if_neg (by rw [leI_t]; omega)]
    have e' := Lib.hid e
    have z0 : ((ns.length : Int) == 0) = false := by simp; exact fun e => by rw [e] at h; simp at h
    have z1 : decide ((1024 : Int) < (ns.length : Int)) = true := by simp; omega
    clear hr1 hr2 hr3 hr4 hW e h
    go_enter Try.func24, Try.ntmps24
    go_wp2
    go_ret
    exact ⟨ρ, _, int 32, M0, rfl, Ext.refl ρ, by simp only [rel]; rfl, hW'.out, by rw [e'.out]⟩
theorem Sy.tck_all (ns : List NdV) (hO : NsOk ns) : CallTo Try.prog 24 [nview ns] M0 fun v _ => v = int (ckI ns) := by
  by_cases h0 : ns.length = 0
  · exact tck_no ns (.inl h0)
  · by_cases hl : 1024 < ns.length
    · exact tck_no ns (.inr hl)
    · exact tck_in ns hO h0 (by omega)
noncomputable abbrev Sy.cTck (ns : List NdV) : Con Try.prog := at1 24 [nview ns] (int (ckI ns)) (NsOk ns) fun h => ⟨⟨⟨nview_free ns, trivial⟩, trivial⟩, tck_all ns h⟩
end Go.Proofs.Ytglkdhmikpejnaa
namespace Go.Proofs.Ytglkdhmikpejnaa
open Go Go.RowKit Pl Sy
theorem Sy.law_true11 {f : FuncId} {args : List AV} {us : List Value} {W : World} (h : CallTo Try.prog f args M0 fun v _ => v = boo true) (hr : rels (rho0 W) args us) : Calls Try.prog f us.toArray W fun e w' => e = .returned (.bool true) ∧ Below W.heap.size W w' :=
  ((h.mono (H := fun v _ => ∃ u, v = .lit u ∧ u = .bool true) fun v _ e => ⟨_, e, rfl⟩).calls hr).mono fun e w' ⟨⟨u, h1, h2⟩, h3⟩ => ⟨by rw [h1, h2], h3⟩
end Go.Proofs.Ytglkdhmikpejnaa
