/-
  Calls inside of regions that draw, reckoned, where contracts that owe may stand inside of them.
-/
import Derived.Test.YtmlhipckgmbpfaaGreatSyUse
import Derived.Test.YtmlhipckgmbpfaaGreatCasA
import Derived.Test.YtmlhipckgmbpfaaGreatKnown16
namespace Go.Proofs.YtmlhipckgmbpfaaGreat.Sy
open Go Go.RowKit
set_option linter.unusedVariables false

/-- the one result of a run without questions -/
noncomputable def strip {β : Type} (t : Tr β) : Option β := Tr.rec (motive := fun _ => Option β) (fun _ => none) (fun r => some r) (fun _ _ _ _ _ => none) (fun _ _ ih => ih) (fun _ => none) t
/-- what such a run owes -/
noncomputable def andO (b : Bool) (o : Option Bool) : Option Bool := Option.rec (motive := fun _ => Option Bool) (some b) (fun c => some (b && c)) o
noncomputable def owes {β : Type} (t : Tr β) : Option Bool := Tr.rec (motive := fun _ => Option Bool) (fun _ => none) (fun _ => none) (fun _ _ _ _ _ => none) (fun b _ ih => andO b ih) (fun _ => none) t
theorem owed_and {b : Bool} {o : Option Bool} (h : owed (andO b o)) : b = true ∧ owed o := by
  cases o with
  | none => exact ⟨h b rfl, fun c e => by cases e⟩
  | some c =>
    have := h (b && c) rfl
    simp only [Bool.and_eq_true] at this
    exact ⟨this.1, fun d e => by cases e; exact this.2⟩
theorem strip_ok {β : Type} (r : β) : ∀ t : Tr β, strip t = some r → owed (owes t) → t.Ok fun x => x = r
  | .leaf x, h, _ => Option.some.inj h
  | .fork b s t, h, _ => by cases h
  | .need b t, h, ho => by
    obtain ⟨h1, h2⟩ := owed_and (o := owes t) ho
    exact ⟨h1, strip_ok r t h h2⟩
  | .bad n, h, _ => by cases h
  | .ask b, h, _ => by cases h
noncomputable def inlTree (P : Program) (dd : FuncId → List AV → D) (call : CallT) (lp : FuncId → Nat → Option Summ) (n m : Nat) (f : FuncId) (args : List AV) (M : Mem) : Tr (AV × Mem) := callK (β := AV × Mem) P call lp n m f args M (dd f args) (fun v M' _ => .leaf (v, M'))
noncomputable def inlRun2 (t : Tr (AV × Mem)) (M : Mem) : Option (AV × Mem) := match strip t with
  | some r => match Nat.ble M.top r.2.top with
    | true => some (r.1, ⟨r.2.top, M.stamp + r.2.stamp + 1, r.2.bs⟩)
    | false => none
  | none => none
noncomputable def tableY {P : Program} (dd : FuncId → List AV → D) (l : List (Con P)) (lp : FuncId → Nat → Option Summ) (n m : Nat) : Nat → CallT
  | 0 => table l
  | j + 1 => ⟨fun f args M => match tableRun l f args M with
      | some r => some r
      | none => inlRun2 (inlTree P dd (tableY dd l lp n m j) lp n m f args M) M, fun f args M => match tableRun l f args M with
      | some _ => tableOb l f args M
      | none => owes (inlTree P dd (tableY dd l lp n m j) lp n m f args M), fun f args M => (tableRun l f args M).isSome⟩
theorem tableY_ok {P : Program} (dd : FuncId → List AV → D) (hP : Plainly P) (hm : P.follows .mixedOrders = true) (l : List (Con P)) {lp : FuncId → Nat → Option Summ} (hlp : AllLoops P lp) (n m : Nat) : ∀ j, CallOk P (tableY dd l lp n m j)
  | 0 => table_ok l
  | j + 1 => fun f args M v M' h hob => by
    simp only [tableY] at h hob
    cases ht : tableRun l f args M with
    | some r =>
      rw [ht] at h hob
      simp only [Option.some.injEq] at h
      subst h
      exact table_ok l f args M v M' ht hob
    | none =>
      rw [ht] at h hob
      simp only [inlRun2] at h
      simp only at hob
      split at h
      · rename_i r hr
        split at h
        · rename_i hle
          simp only [Option.some.injEq, Prod.mk.injEq] at h
          obtain ⟨rfl, rfl⟩ := h
          refine ⟨⟨by simpa [Nat.ble_eq] using hle, by simp only; omega, fun e => by simp only at e; omega⟩, fun w0 ρ us w h1 h2 => ?_⟩
          refine (callK_ok (β := AV × Mem) hP hm (tableY_ok dd hP hm l hlp n m j) hlp n m f args M (dd f args) (fun v M' _ => .leaf (v, M')) (fun x => x = r) (strip_ok r _ hr hob) w0 ρ us w h1 h2).mono ?_
          rintro e w' ⟨ρ', u, v, M', q1, q2, q3, q4, _, q5⟩
          have q6 : (v, M') = r := q5
          subst q6
          exact ⟨ρ', u, v, _, q1, q2, q3, q4.restamp _, rfl, rfl⟩
        · cases h
      · cases h
noncomputable abbrev reckY (dd : FuncId → List AV → D) (l : List (Con Tryz.prog)) (lp : List (Lp Tryz.prog)) (n m j : Nat) (f : FuncId) (args : List AV) (M : Mem) (d : D) : Tr (AV × D) := callK Tryz.prog (tableY dd l (lpOf lp) n m j) (lpOf lp) n m f args M d (fun v _ d' => .leaf (v, d'))
/-- a call, walked: also calls inside of regions that draw, so deep -/
theorem toY (dd : FuncId → List AV → D) (l : List (Con Tryz.prog)) (lp : List (Lp Tryz.prog)) (n m j : Nat) {f : FuncId} {args : List AV} {M : Mem} (d : D) (t : Tr AV) {G : AV → Prop}
    (h : callK Tryz.prog (tableY dd l (lpOf lp) n m j) (lpOf lp) n m f args M d (fun v _ _ => .leaf v) = t) (ht : t.Ok G) : CallTo Tryz.prog f args M fun v _ => G v := fun w0 ρ us w h1 h2 =>
  (callK_ok plain mixed (tableY_ok dd plain mixed l (lps_ok lp) n m j) (lps_ok lp) n m f args M d (fun v _ _ => .leaf v) G (h ▸ ht) w0 ρ us w h1 h2).mono fun e w' ⟨ρ', u, v, M', q1, q2, q3, q4, _, q5⟩ => ⟨ρ', u, v, M', q1, q2, q3, q4, q5⟩
end Go.Proofs.YtmlhipckgmbpfaaGreat.Sy
namespace Go.Proofs.YtmlhipckgmbpfaaGreat
open Go Go.RowKit Pl Sy
set_option linter.unusedVariables false
set_option linter.unusedSimpArgs false

structure DeclV where
  prop : Int
  kind : Int
  n : Int
  d : Int
  name : ByteArray
  loud : Bool
abbrev Sy.declA (x : DeclV) : AV := .agg [int x.prop, int x.kind, int x.n, int x.d, .lit (.string x.name), boo x.loud]
noncomputable abbrev Sy.cKnown16 : Con Tryz.prog := at1 7 [] (boo true) True fun _ => ⟨⟨trivial, trivial⟩, (CallTo.of_calls (us := []) known16 M0).mono fun _ _ h => h.1⟩
/-sy beh_p
fun (ns : List NodeW) (i : Int) (ss : List (List PartV)) (a b : DeclV) (o : Int) (d : D) => probeV SyTool.probe [cKnown16] 400 30 4 [nview ns, int i, sview ss, declA a, declA b, int o] M0 d
-/
namespace Sy
abbrev bhM (a b : DeclV) : Mem := (@Mem.mk ((0 + 1) + 1) 0 [(some (@Blk.mk [(int (b).prop), (int (b).kind), (int (b).n), (int (b).d), (@AV.lit (@Value.string (b).name)), (boo (b).loud)] 42 none)), (some (@Blk.mk [(int (a).prop), (int (a).kind), (int (a).n), (int (a).d), (@AV.lit (@Value.string (a).name)), (boo (a).loud)] 42 none))])
abbrev bhF (ns : List NodeW) (i : Int) (ss : List (List PartV)) (o k : Int) (q : Bool) : Fr := [some ((@AV.view (ns).length 6 (@ncell ns))), some ((int i)), some ((@AV.view (ss).length 1 (fun x458236 => (fun x759575 => (@AV.view ((ss.getD x458236 [])).length 6 (@pcell (ss.getD x458236 []))))))), none, none, some ((int o)), none, none, none, some ((@AV.ptr 0 0)), some ((@AV.ptr (0 + 1) 0)), none, some (boo q), some (int k), none, none, none, none, none, none, none, none, none, none, none, none, none, none, none, none, none, none, none, none, none, none, none, none, none, none, none, none, none, none, none, none, none, none, none, none, none, none, none, none, none, none, none, none, none, none, none, none, none, none, none, none, none, none, none, none, none, none, none, none, none, none, none, none, none, none, none, none, none]
abbrev bhE (ns : List NodeW) (i : Int) (ss : List (List PartV)) (o : Int) (q : Bool) : Fr := [some ((@AV.view (ns).length 6 (@ncell ns))), some ((int i)), some ((@AV.view (ss).length 1 (fun x458236 => (fun x759575 => (@AV.view ((ss.getD x458236 [])).length 6 (@pcell (ss.getD x458236 []))))))), none, none, some ((int o)), none, none, none, some ((@AV.ptr 0 0)), some ((@AV.ptr (0 + 1) 0)), none, some (boo q), none, none, none, none, none, none, none, none, none, none, none, none, none, none, none, none, none, none, none, none, none, none, none, none, none, none, none, none, none, none, none, none, none, none, none, none, none, none, none, none, none, none, none, none, none, none, none, none, none, none, none, none, none, none, none, none, none, none, none, none, none, none, none, none, none, none, none, none, none, none]
end Sy
/-sy beh_r
fun (ns : List NodeW) (i : Int) (ss : List (List PartV)) (a b : DeclV) (o k : Int) (d : D) => reckL [cKnown16] [] 400 30 4 5 [true, true, true, false, false, true, false, false, false, true, true, false, true, true, false, false, false, false, false, false, false, false, false, false, false, false, false, false, false, false, false, false, false, false, false, false, false, false, false, false, false, false, false, false, false, false, false, false, false, false, false, false, false, false, false, false, false, false, false, false, false, false, false, false, false, false, false, false, false, false, false, false, false, false, false, false, false, false, false, false, false, false, false] (bhF ns i ss o k false) (bhM a b) d
-/
/-- are there more than four parts? -/
def bigB (ps : List PartV) : Bool := !leI ps.length 4
theorem Sy.bh_scan (ns : List NodeW) (i : Int) (ss : List (List PartV)) (a b : DeclV) (o : Int) (hx : ss.length ≤ 17592186044416) : LoopTo Tryz.prog (theBody Tryz.prog 4 5) (ss.length + 1) (bhF ns i ss o 0 false) (bhM a b) fun ex F' M' => M' = bhM a b ∧ ((0 ≤ idxF bigB ss 0 ∧ ex = .ret ∧ F' = bhF ns i ss o (idxF bigB ss 0) true) ∨ (idxF bigB ss 0 = -1 ∧ ex = .exit 0 ∧ F' = bhF ns i ss o ss.length false)) :=
  scan ss bigB [] (fun k => bhF ns i ss o k false) (fun k => bhF ns i ss o k true) (bhM a b) fun k n G h0 h1 c1 c2 c3 => by
    refine roundL [cKnown16] [] 400 30 4 5 Tryz.func4 rfl (by kernel_rfl) [true, true, true, false, false, true, false, false, false, true, true, false, true, true, false, false, false, false, false, false, false, false, false, false, false, false, false, false, false, false, false, false, false, false, false, false, false, false, false, false, false, false, false, false, false, false, false, false, false, false, false, false, false, false, false, false, false, false, false, false, false, false, false, false, false, false, false, false, false, false, false, false, false, false, false, false, false, false, false, false, false, false, false] (.br (.yes (.br (.yes .done) .done)) .done) (.fork (!(leI (((ss).length : Nat) : Int) k)) (.need (@inR k (ss).length) (.fork (!(leI ((((ss.getD (k).toNat [])).length : Nat) : Int) (4 : Int))) (.need (@isSo (@And (([] : List AV) = []) True)) (.leaf (Ex.ret, ([(some (@AV.view (ns).length 6 (@ncell ns))), (some (int i)), (some (@AV.view (ss).length 1 (fun x258266 => (fun x349814 => (@AV.view ((ss.getD x258266 [])).length 6 (@pcell (ss.getD x258266 []))))))), none, none, (some (int o)), none, none, none, (some (@AV.ptr 0 0)), (some (@AV.ptr 1 0)), none, (some (boo true)), (some (int k)), none, none, none, none, none, none, none, none, none, none, none, none, none, none, none, none, none, none, none, none, none, none, none, none, none, none, none, none, none, none, none, none, none, none, none, none, none, none, none, none, none, none, none, none, none, none, none, none, none, none, none, none, none, none, none, none, none, none, none, none, none, none, none, none, none, none, none, none, none], (@Mem.mk 2 0 [(some (@Blk.mk [(int (b).prop), (int (b).kind), (int (b).n), (int (b).d), (@AV.lit (@Value.string (b).name)), (boo (b).loud)] 42 none)), (some (@Blk.mk [(int (a).prop), (int (a).kind), (int (a).n), (int (a).d), (@AV.lit (@Value.string (a).name)), (boo (a).loud)] 42 none))]))))) (.leaf (Ex.norm, ([(some (@AV.view (ns).length 6 (@ncell ns))), (some (int i)), (some (@AV.view (ss).length 1 (fun x410660 => (fun x859161 => (@AV.view ((ss.getD x410660 [])).length 6 (@pcell (ss.getD x410660 []))))))), none, none, (some (int o)), none, none, none, (some (@AV.ptr 0 0)), (some (@AV.ptr 1 0)), none, (some (boo false)), (some (int (w64 (k + (1 : Int))))), none, none, none, none, none, none, none, none, none, none, none, none, none, none, none, none, none, none, none, none, none, none, none, none, none, none, none, none, none, none, none, none, none, none, none, none, none, none, none, none, none, none, none, none, none, none, none, none, none, none, none, none, none, none, none, none, none, none, none, none, none, none, none, none, none, none, none, none, none], (@Mem.mk 2 0 [(some (@Blk.mk [(int (b).prop), (int (b).kind), (int (b).n), (int (b).d), (@AV.lit (@Value.string (b).name)), (boo (b).loud)] 42 none)), (some (@Blk.mk [(int (a).prop), (int (a).kind), (int (a).n), (int (a).d), (@AV.lit (@Value.string (a).name)), (boo (a).loud)] 42 none))])))))) (.leaf ((@Ex.exit 0), ([(some (@AV.view (ns).length 6 (@ncell ns))), (some (int i)), (some (@AV.view (ss).length 1 (fun x116059 => (fun x631020 => (@AV.view ((ss.getD x116059 [])).length 6 (@pcell (ss.getD x116059 []))))))), none, none, (some (int o)), none, none, none, (some (@AV.ptr 0 0)), (some (@AV.ptr 1 0)), none, (some (boo false)), (some (int k)), none, none, none, none, none, none, none, none, none, none, none, none, none, none, none, none, none, none, none, none, none, none, none, none, none, none, none, none, none, none, none, none, none, none, none, none, none, none, none, none, none, none, none, none, none, none, none, none, none, none, none, none, none, none, none, none, none, none, none, none, none, none, none, none, none, none, none, none, none], (@Mem.mk 2 0 [(some (@Blk.mk [(int (b).prop), (int (b).kind), (int (b).n), (int (b).d), (@AV.lit (@Value.string (b).name)), (boo (b).loud)] 42 none)), (some (@Blk.mk [(int (a).prop), (int (a).kind), (int (a).n), (int (a).d), (@AV.lit (@Value.string (a).name)), (boo (a).loud)] 42 none))]))))) (by kernel_rfl) ?_
    refine fork_ok (fun h => ?_) (fun h => ?_)
    · simp only [Bool.not_eq_true', Bool.not_eq_false', leI_t, leI_f, eqI_t, eqI_f, inR_t, inR_f, isSo_t, isSo_f] at h
      have hr : inR k ss.length = true := by rw [inR_t]; omega
      refine need_t hr (fork_ok (fun h2 => need_so ⟨rfl, trivial⟩ (c2 (by omega) h2)) (fun h2 => ?_))
      rw [w64_in (r := k + 1) (by omega)]
      exact c1 (by omega) h2
    · simp only [Bool.not_eq_true', Bool.not_eq_false', leI_t, leI_f, eqI_t, eqI_f, inR_t, inR_f, isSo_t, isSo_f] at h
      exact c3 (by omega)
namespace Sy
noncomputable abbrev lpBh (ns : List NodeW) (i : Int) (ss : List (List PartV)) (a b : DeclV) (o : Int) : Lp Tryz.prog where
  f := 4
  key := 5
  S := formS (fun F M => slotI F 13) (fun k => bhF ns i ss o k false) (fun _ => bhM a b) (fun k => ss.length ≤ 17592186044416 ∧ k = 0) (fun k => .fork (leI 0 (idxF bigB ss 0)) (.leaf (.ret, bhE ns i ss o true, bhM a b)) (.leaf (.exit 0, bhE ns i ss o false, bhM a b))) [true, true, true, false, false, true, false, false, false, true, true, false, true, true, false, false, false, false, false, false, false, false, false, false, false, false, false, false, false, false, false, false, false, false, false, false, false, false, false, false, false, false, false, false, false, false, false, false, false, false, false, false, false, false, false, false, false, false, false, false, false, false, false, false, false, false, false, false, false, false, false, false, false, false, false, false, false, false, false, false, false, false, false]
  one := by kernel_rfl
  ok := formS_ok fun k ⟨h1, h2⟩ => by
    subst h2
    refine ⟨ss.length + 1, ?_⟩
    refine ((Sy.bh_scan ns i ss a b o h1).out [true, true, true, false, false, true, false, false, false, true, true, false, true, false, false, false, false, false, false, false, false, false, false, false, false, false, false, false, false, false, false, false, false, false, false, false, false, false, false, false, false, false, false, false, false, false, false, false, false, false, false, false, false, false, false, false, false, false, false, false, false, false, false, false, false, false, false, false, false, false, false, false, false, false, false, false, false, false, false, false, false, false, false]).mono fun ex F M hg => ?_
    obtain ⟨F0, ⟨hM, hg⟩, rfl⟩ := hg
    rcases hg with ⟨q1, rfl, rfl⟩ | ⟨q1, rfl, rfl⟩
    · exact .inl ⟨by rw [leI_t]; exact q1, by rw [hM]; rfl⟩
    · exact .inr ⟨by rw [leI_f, q1]; omega, by rw [hM]; rfl⟩
end Sy
/-- a declaration's level -/
def lvlI (o : Int) (b : Bool) : Int := if eqI o 0 && b then 3 else if b then 2 else if eqI o 0 then 0 else 1
/-sy lvl_t
fun (o : Int) (b : Bool) (d : D) => reckV [] [] 400 30 24 [int o, boo b] M0 d
-/
theorem Sy.lvl_t (o : Int) (b : Bool) : CallTo Tryz.prog 24 [int o, boo b] M0 fun v _ => v = int (lvlI o b) :=
  toV [] [] 400 30 (.br (.auto 0 (.br .done (.no (.yes .done)))) (.auto 1 (.br .done (.no .done)))) (.fork (eqI o (0 : Int)) (.fork b (.leaf (int (3 : Int))) (.need (!b) (.need (eqI o (0 : Int)) (.leaf (int (0 : Int)))))) (.fork b (.leaf (int (2 : Int))) (.need (!(eqI o (0 : Int))) (.leaf (int (1 : Int)))))) (by kernel_rfl) (by
    unfold lvlI
    repeat' (first | refine fork_ok (fun _ => ?_) (fun _ => ?_) | refine need_t (by simp_all) ?_)
    all_goals refine leaf_int ?_
    all_goals simp_all)
noncomputable abbrev Sy.cLevel : Con Tryz.prog := atX 24 (fun args => match args with | [.lit (.int .i64 o), .lit (.bool b)] => some (o, b) | _ => none) (fun x => [int x.1, boo x.2]) (fun x => int (lvlI x.1 x.2)) (fun _ => True) fun x _ => ⟨⟨⟨trivial, trivial, trivial⟩, trivial⟩, lvl_t x.1 x.2⟩
abbrev Sy.claimA (l a b c r k : Int) : AV := .agg [int l, int a, int b, int c, int r, int k]
/-sy bts_t
fun (l a b c r k r2 k2 : Int) (d : D) => reckV [cCompare] [] 400 30 16 [claimA l a b c r k, claimA l a b c r2 k2] M0 d
-/
theorem eqI_self (a : Int) : eqI a a = true := by rw [eqI_t]
theorem Sy.bts_t (l a b c r k r2 k2 : Int) : CallTo Tryz.prog 16 [claimA l a b c r k, claimA l a b c r2 k2] M0 fun v _ => v = boo true :=
  toV [cCompare] [] 400 30 (.br .done (.br (.auto 3 (.yes (.auto 1 .done))) (.auto 5 .done))) (.fork (!(eqI l l)) (.leaf (boo (!(leI l l)))) (.fork (!((eqI a a) && ((eqI b b) && ((eqI c c) && true)))) (.need (@isSo (@And ([(@AV.agg [(int a), (int b), (int c)]), (@AV.agg [(int a), (int b), (int c)])] = [(@AV.agg [(int a), (int b), (int c)]), (@AV.agg [(int a), (int b), (int c)])]) True)) (.leaf (boo (!(leI (@cmp3 a b c a b c) (0 : Int)))))) (.leaf (boo true)))) (by kernel_rfl) (by
    refine fork_ok (fun h => ?_) (fun _ => fork_ok (fun h => ?_) (fun _ => rfl))
    · rw [eqI_self] at h; cases h
    · rw [eqI_self, eqI_self, eqI_self] at h; cases h)
/-- of two claims of one level and weight the one behind wins -/
noncomputable abbrev Sy.cBeats (ns : List NodeW) (i : Int) (ss : List (List PartV)) (o : Int) : Con Tryz.prog := at1 16 [claimA (lvlI o false) (bestV ns i ss).1.1 (bestV ns i ss).1.2.1 (bestV ns i ss).1.2.2 1 0, claimA (lvlI o false) (bestV ns i ss).1.1 (bestV ns i ss).1.2.1 (bestV ns i ss).1.2.2 0 0] (boo true) True fun _ => ⟨⟨⟨⟨trivial, trivial, trivial, trivial, trivial, trivial, trivial⟩, ⟨trivial, trivial, trivial, trivial, trivial, trivial, trivial⟩, trivial⟩, trivial⟩, bts_t _ _ _ _ _ _ _ _⟩
/-- the script of calls inside of regions that draw -/
noncomputable def Sy.ddB (n : Nat) : FuncId → List AV → D := fun _ args => match args with
  | .agg [_, _, _, _, .lit (.int .i64 r), _] :: _ => match eqI r 1 with | true => .auto n (.yes (.auto 100000000 .done)) | false => .auto 100000000 .done
  | _ => .auto 100000000 .done
/-sy beh_t
fun (ns : List NodeW) (i : Int) (ss : List (List PartV)) (a b : DeclV) (o : Int) (d : D) => reckY (ddB 6) [cKnown16, cRBest ns i ss, cPBest ns i ss, cLevel, cBeats ns i ss o] [lpBh ns i ss a b o] 400 30 3 4 [nview ns, int i, sview ss, declA a, declA b, int o] M0 d
-/
theorem Sy.beh_t (ns : List NodeW) (i : Int) (ss : List (List PartV)) (a b : DeclV) (o : Int) (hok : DocOk ns) (hs : SelsOk ss) : CallTo Tryz.prog 4 [nview ns, int i, sview ss, declA a, declA b, int o] M0 fun v _ => v = boo true :=
  toY (ddB 6) [cKnown16, cRBest ns i ss, cPBest ns i ss, cLevel, cBeats ns i ss o] [lpBh ns i ss a b o] 400 30 3 (.br (.auto 2 (.br (.yes .done) (.br .done (.auto 7 (.yes (.br (.auto 7 (.yes (.yes (.auto 0 (.yes (.no (.auto 0 (.yes (.auto 0 .done))))))))) (.auto 0 (.yes (.auto 8 (.yes (.no (.auto 0 (.yes (.yes (.auto 1 (.yes (.yes (.auto 0 (.yes (.auto 0 .done)))))))))))))))))))) (.auto 3 (.yes .done))) (.fork (!(!(leI (((ss).length : Nat) : Int) (6 : Int)))) (.fork (!(leI (((ns).length : Nat) : Int) (30 : Int))) (.need (@isSo (@And (([] : List AV) = []) True)) (.leaf (boo true))) (.need (@isSo (@And (((some (@AV.view (ns).length 6 (@ncell ns))) :: (some (int i)) :: (some (@AV.view (ss).length 1 (fun x800280 => (fun x58597 => (@AV.view ((ss.getD x800280 [])).length 6 (@pcell (ss.getD x800280 []))))))) :: none :: none :: (some (int o)) :: [none, none, none, (some (@AV.ptr 0 0)), (some (@AV.ptr (0 + 1) 0)), none, (some (boo false)), (some (int (0 : Int))), none, none, none, none, none, none, none, none, none, none, none, none, none, none, none, none, none, none, none, none, none, none, none, none, none, none, none, none, none, none, none, none, none, none, none, none, none, none, none, none, none, none, none, none, none, none, none, none, none, none, none, none, none, none, none, none, none, none, none, none, none, none, none, none, none, none, none, none, none]) = [(some (@AV.view (ns).length 6 (@ncell ns))), (some (int i)), (some (@AV.view (ss).length 1 (fun x195218 => (fun x546582 => (@AV.view ((ss.getD x195218 [])).length 6 (@pcell (ss.getD x195218 []))))))), none, none, (some (int o)), none, none, none, (some (@AV.ptr 0 0)), (some (@AV.ptr 1 0)), none, (some (boo false)), (some (int (0 : Int))), none, none, none, none, none, none, none, none, none, none, none, none, none, none, none, none, none, none, none, none, none, none, none, none, none, none, none, none, none, none, none, none, none, none, none, none, none, none, none, none, none, none, none, none, none, none, none, none, none, none, none, none, none, none, none, none, none, none, none, none, none, none, none, none, none, none, none, none, none]) ((@Mem.mk ((0 + 1) + 1) 0 [(some (@Blk.mk [(int (b).prop), (int (b).kind), (int (b).n), (int (b).d), (@AV.lit (@Value.string (b).name)), (boo (b).loud)] 42 none)), (some (@Blk.mk [(int (a).prop), (int (a).kind), (int (a).n), (int (a).d), (@AV.lit (@Value.string (a).name)), (boo (a).loud)] 42 none))]) = (@Mem.mk 2 0 [(some (@Blk.mk [(int (b).prop), (int (b).kind), (int (b).n), (int (b).d), (@AV.lit (@Value.string (b).name)), (boo (b).loud)] 42 none)), (some (@Blk.mk [(int (a).prop), (int (a).kind), (int (a).n), (int (a).d), (@AV.lit (@Value.string (a).name)), (boo (a).loud)] 42 none))])))) (.need (@isSo (@And ((ss).length ≤ 17592186044416) ((0 : Int) = (0 : Int)))) (.fork (leI (0 : Int) (@Pl.idxF _ bigB ss 0)) (.leaf (boo true)) (.need (@isSo (@And ([(@AV.view (ns).length 6 (@ncell ns)), (int i), (@AV.view (ss).length 1 (fun x261175 => (fun x847955 => (@AV.view ((ss.getD x261175 [])).length 6 (@pcell (ss.getD x261175 []))))))] = [(@AV.view (ns).length 6 (@ncell ns)), (int i), (@AV.view (ss).length 1 (fun x784212 => (fun x540257 => (@AV.view ((ss.getD x784212 [])).length 6 (@pcell (ss.getD x784212 []))))))]) (@And (@And ((ns).length ≤ 17592186044416) (∀ (n : NodeW), n ∈ ns → NodeOk n)) (@And ((ss).length ≤ 17592186044416) (∀ (ps : List PartV), ps ∈ ss → PsOk ps))))) (.fork (!((@bestV ns i ss)).snd) (.need (@isSo (@And ([(@AV.view (ns).length 6 (@ncell ns)), (int i), (@AV.view (ss).length 1 (fun x563978 => (fun x208795 => (@AV.view ((ss.getD x563978 [])).length 6 (@pcell (ss.getD x563978 []))))))] = [(@AV.view (ns).length 6 (@ncell ns)), (int i), (@AV.view (ss).length 1 (fun x383119 => (fun x5700 => (@AV.view ((ss.getD x383119 [])).length 6 (@pcell (ss.getD x383119 []))))))]) (@And (@And ((ns).length ≤ 17592186044416) (∀ (n : NodeW), n ∈ ns → NodeOk n)) (@And ((ss).length ≤ 17592186044416) (∀ (ps : List PartV), ps ∈ ss → PsOk ps))))) (.need (!((@bestV ns i ss)).snd) (.need (@isSo (@And ([(@AV.view (ns).length 6 (@ncell ns)), (int i), (@AV.view (ss).length 1 (fun x517049 => (fun x613137 => (@AV.view ((ss.getD x517049 [])).length 6 (@pcell (ss.getD x517049 []))))))] = [(@AV.view (ns).length 6 (@ncell ns)), (int i), (@AV.view (ss).length 1 (fun x250454 => (fun x601919 => (@AV.view ((ss.getD x250454 [])).length 6 (@pcell (ss.getD x250454 []))))))]) (@And (@And ((ns).length ≤ 17592186044416) (∀ (n : NodeW), n ∈ ns → NodeOk n)) (@And ((ss).length ≤ 17592186044416) (∀ (ps : List PartV), ps ∈ ss → PsOk ps))))) (.need (!((@bestV ns i ss)).snd) (.need (@isSo (@And (([] : List AV) = []) True)) (.leaf (boo true))))))) (.need (@isSo (@And ([(int o), (boo false)] = [(int o), (boo Bool.false)]) True)) (.need (@isSo (@And ([(@AV.view (ns).length 6 (@ncell ns)), (int i), (@AV.view (ss).length 1 (fun x196545 => (fun x561106 => (@AV.view ((ss.getD x196545 [])).length 6 (@pcell (ss.getD x196545 []))))))] = [(@AV.view (ns).length 6 (@ncell ns)), (int i), (@AV.view (ss).length 1 (fun x924430 => (fun x805975 => (@AV.view ((ss.getD x924430 [])).length 6 (@pcell (ss.getD x924430 []))))))]) (@And (@And ((ns).length ≤ 17592186044416) (∀ (n : NodeW), n ∈ ns → NodeOk n)) (@And ((ss).length ≤ 17592186044416) (∀ (ps : List PartV), ps ∈ ss → PsOk ps))))) (.need (!(!((@bestV ns i ss)).snd)) (.need (@isSo (@And ([(int o), (boo false)] = [(int o), (boo Bool.false)]) True)) (.need (@isSo (@And ([(@AV.agg (@List.take _ 6 ((int (@lvlI o Bool.false)) :: (int (((@bestV ns i ss)).fst).fst) :: (int ((((@bestV ns i ss)).fst).snd).fst) :: (int ((((@bestV ns i ss)).fst).snd).snd) :: (int (1 : Int)) :: (int (0 : Int)) :: (@List.drop _ (5 + ([(int (0 : Int))]).length) ((int (@lvlI o Bool.false)) :: (int (((@bestV ns i ss)).fst).fst) :: (int ((((@bestV ns i ss)).fst).snd).fst) :: (int ((((@bestV ns i ss)).fst).snd).snd) :: (int (1 : Int)) :: (@List.drop _ (4 + ([(int (1 : Int))]).length) ((int (@lvlI o Bool.false)) :: (int (((@bestV ns i ss)).fst).fst) :: (int ((((@bestV ns i ss)).fst).snd).fst) :: (int ((((@bestV ns i ss)).fst).snd).snd) :: (@List.drop _ (1 + ([(int (((@bestV ns i ss)).fst).fst), (int ((((@bestV ns i ss)).fst).snd).fst), (int ((((@bestV ns i ss)).fst).snd).snd)]).length) [(int (@lvlI o Bool.false)), (int (0 : Int)), (int (0 : Int)), (int (0 : Int)), (int (0 : Int)), (int (0 : Int))])))))))), (@AV.agg (@List.take _ 6 [(int (@lvlI o Bool.false)), (int (((@bestV ns i ss)).fst).fst), (int ((((@bestV ns i ss)).fst).snd).fst), (int ((((@bestV ns i ss)).fst).snd).snd), (int (0 : Int)), (int (0 : Int))]))] = [(@AV.agg [(int (@lvlI o false)), (int (((@bestV ns i ss)).fst).fst), (int ((((@bestV ns i ss)).fst).snd).fst), (int ((((@bestV ns i ss)).fst).snd).snd), (int (1 : Int)), (int (0 : Int))]), (@AV.agg [(int (@lvlI o false)), (int (((@bestV ns i ss)).fst).fst), (int ((((@bestV ns i ss)).fst).snd).fst), (int ((((@bestV ns i ss)).fst).snd).snd), (int (0 : Int)), (int (0 : Int))])]) True)) (.need (@isSo (@And ([(@AV.view (ns).length 6 (@ncell ns)), (int i), (@AV.view (ss).length 1 (fun x880080 => (fun x706632 => (@AV.view ((ss.getD x880080 [])).length 6 (@pcell (ss.getD x880080 []))))))] = [(@AV.view (ns).length 6 (@ncell ns)), (int i), (@AV.view (ss).length 1 (fun x908405 => (fun x698462 => (@AV.view ((ss.getD x908405 [])).length 6 (@pcell (ss.getD x908405 []))))))]) (@And (@And ((ns).length ≤ 17592186044416) (∀ (n : NodeW), n ∈ ns → NodeOk n)) (@And ((ss).length ≤ 17592186044416) (∀ (ps : List PartV), ps ∈ ss → PsOk ps))))) (.need ((@bestV ns i ss)).snd (.need (@isSo (@And (([] : List AV) = []) True)) (.leaf (boo true)))))))))))))))) (.need (@isSo (@And (([] : List AV) = []) True)) (.leaf (boo true)))) (by kernel_rfl) (by
    repeat' (first
      | exact rfl
      | refine fork_ok (fun _ => ?_) (fun _ => ?_)
      | refine need_t (by assumption) ?_
      | refine need_so ⟨rfl, hok, hs⟩ ?_
      | refine need_so ⟨hs.1, rfl⟩ ?_
      | refine need_so ⟨rfl, trivial⟩ ?_
      | refine need_so ⟨rfl, rfl⟩ ?_
      | refine need_so ⟨by simp, trivial⟩ ?_
      | refine need_t (by simp_all) ?_))
end Go.Proofs.YtmlhipckgmbpfaaGreat
