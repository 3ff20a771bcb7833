/-
  Layer 6: the program's decl.
-/
import Derived.Test.YtjljlcflmcjapaaDeclSy4
namespace Go.Proofs.Ytjljlcflmcjapaa
open Go Go.RowKit Pl Sy
set_option linter.unusedVariables false
set_option linter.unusedSimpArgs false
namespace Sy
/-- the scanner's block -/
abbrev scB (v : AV) (at_ : Int) : Blk := ⟨[v, int at_], 85, none⟩
abbrev cxc (c : Nat → TokV) : Nat → Nat → AV := fun i j => .lit ([(.int .i64 (c i).kind : Value), .string (c i).text, .int .i64 (c i).n].getD j (.tuple (Array.mk [])))
end Sy
namespace Sy
abbrev zB : Blk := ⟨[.lit (.string ⟨#[]⟩), .lit (.slice none 0 0), boo false], 78, none⟩
abbrev skM (l : List TokV) (k : Int) : Mem := ⟨2, 2, [some zB, some (scB (kv l) k)]⟩
end Sy
/-sy skip_p
fun (l : List TokV) (d : D) => probeV SyTool.probe [cSpace] 400 30 61 [.ptr 0 0] (skM l 1) d
-/
namespace Sy
abbrev skF (l : List TokV) : Fr := [some ((@AV.ptr 0 0)), none, none, none, none, none, none, none, none, none, none, none, none, none, none, none, none, none, none, none, none, none, none, none, none, none, none, none, none, none, none, none, none, none, none, none, none, none, none, none, none, none, none]
end Sy
/-sy skip_r
fun (l : List TokV) (k : Int) (d : D) => reckL [cSpace] [] 400 30 61 2 [true, false, false, false, false, false, false, false, false, false, false, false, false, false, false, false, false, false, false, false, false, false, false, false, false, false, false, false, false, false, false, false, false, false, false, false, false, false, false, false, false, false, false] (skF l) (skM l k) d
-/
theorem Sy.LoopTo.stampA {P : Program} {b : Code} {n : Nat} {F : Fr} {T s : Nat} {bs : List (Option Blk)} {G : Ex → Fr → Mem → Prop} (s' : Nat) (h : LoopTo P b n F ⟨T, s', bs⟩ G) : LoopTo P b n F ⟨T, s, bs⟩ G := fun w0 ρ a w Q hF hW hQ => h w0 ρ a w Q hF (hW.restamp s') hQ
theorem Sy.LoopTo.stampG {P : Program} {b : Code} {n : Nat} {F : Fr} {M : Mem} {G : Ex → Fr → Mem → Prop} (s : Nat) (h : LoopTo P b n F M G) : LoopTo P b n F M fun ex F' M' => ∃ M2, G ex F' M2 ∧ M' = ⟨M2.top, s, M2.bs⟩ := fun w0 ρ a w Q hF hW hQ =>
  h w0 ρ a w Q hF hW fun ex F' M' ρ' a' w' hg q1 q2 q3 => hQ ex F' ⟨M'.top, s, M'.bs⟩ ρ' a' w' ⟨M', hg, rfl⟩ q1 q2 (q3.restamp s)
theorem Sy.sk_scan (l : List TokV) (hl : lim l) (h1 : 1 ≤ l.length) : LoopTo Try.prog (theBody Try.prog 61 2) (l.length - 1 + 1) (skF l) (skM l 1) fun ex F' M' => ex = .exit 0 ∧ F' = skF l ∧ M' = skM l (behind l : Nat) := by
  have key := hopL (P := Try.prog) (body := theBody Try.prog 61 2) l.length (fun j => !spB (tokAt l j)) (fun j => j + 1) (fun k _ => Nat.lt_succ_self k) (fun k h => h) (fun k => skF l) (fun k => skF l) (fun k => skM l (k : Nat)) (.exit 0) (fun κ n G h0 c1 c2 c3 => by
    generalize hκ : (κ : Int) = k at *
    refine roundL [cSpace] [] 400 30 61 2 Try.func61 rfl (by kernel_rfl) [true, false, false, false, false, false, false, false, false, false, false, false, false, false, false, false, false, false, false, false, false, false, false, false, false, false, false, false, false, false, false, false, false, false, false, false, false, false, false, false, false, false, false] (.br (.auto 7 (.yes (.auto 1 (.yes (.auto 0 (.br .done .done)))))) (.auto 11 .done)) (.fork (!(leI (((l).length : Nat) : Int) k)) (.need (@inR k (l).length) (.need (@isSo (@And ([(@AV.agg [(int ((l.getD (k).toNat tok0)).kind), (@AV.lit (@Value.string ((l.getD (k).toNat tok0)).text)), (int ((l.getD (k).toNat tok0)).n)])] = [(@AV.agg [(int ((l.getD (k).toNat tok0)).kind), (@AV.lit (@Value.string ((l.getD (k).toNat tok0)).text)), (int ((l.getD (k).toNat tok0)).n)])]) True)) (.fork (@spB (@TokV.mk ((l.getD (k).toNat tok0)).kind ((l.getD (k).toNat tok0)).text ((l.getD (k).toNat tok0)).n)) (.leaf (Ex.norm, ([(some (@AV.ptr 0 0)), none, none, none, none, none, none, none, none, none, none, none, none, none, none, none, none, none, none, none, none, none, none, none, none, none, none, none, none, none, none, none, none, none, none, none, none, none, none, none, none, none, none], (@Mem.mk 2 (2 + 1) [(some zB), (some (@Blk.mk ((@AV.view (l).length 3 (fun x281354 => (fun x209430 => (@AV.lit ([(@Value.int IntKind.i64 ((l.getD x281354 tok0)).kind), (@Value.string ((l.getD x281354 tok0)).text), (@Value.int IntKind.i64 ((l.getD x281354 tok0)).n)].getD x209430 (@Value.tuple (@Array.mk _ []))))))) :: [(int (w64 (k + (1 : Int))))]) 85 none))])))) (.leaf ((@Ex.exit 0), ([(some (@AV.ptr 0 0)), none, none, none, none, none, none, none, none, none, none, none, none, none, none, none, none, none, none, none, none, none, none, none, none, none, none, none, none, none, none, none, none, none, none, none, none, none, none, none, none, none, none], (@Mem.mk 2 2 [(some zB), (some (@Blk.mk [(@AV.view (l).length 3 (fun x514740 => (fun x390323 => (@AV.lit ([(@Value.int IntKind.i64 ((l.getD x514740 tok0)).kind), (@Value.string ((l.getD x514740 tok0)).text), (@Value.int IntKind.i64 ((l.getD x514740 tok0)).n)].getD x390323 (@Value.tuple (@Array.mk _ []))))))), (int k)] 85 none))]))))))) (.leaf ((@Ex.exit 0), ([(some (@AV.ptr 0 0)), none, none, none, none, none, none, none, none, none, none, none, none, none, none, none, none, none, none, none, none, none, none, none, none, none, none, none, none, none, none, none, none, none, none, none, none, none, none, none, none, none, none], (@Mem.mk 2 2 [(some zB), (some (@Blk.mk [(@AV.view (l).length 3 (fun x436698 => (fun x273521 => (@AV.lit ([(@Value.int IntKind.i64 ((l.getD x436698 tok0)).kind), (@Value.string ((l.getD x436698 tok0)).text), (@Value.int IntKind.i64 ((l.getD x436698 tok0)).n)].getD x273521 (@Value.tuple (@Array.mk _ []))))))), (int k)] 85 none))]))))) (by kernel_rfl) ?_
    have hl' : l.length ≤ 17592186044416 := hl
    refine fork_ok (fun h => ?_) (fun h => ?_)
    · simp only [Bool.not_eq_true', Bool.not_eq_false', leI_t, leI_f, eqI_t, eqI_f, inR_t, inR_f, isSo_t, isSo_f] at h
      have hk : κ < l.length := by omega
      have hr : inR k l.length = true := by rw [inR_t]; omega
      have hκ' : tokAt l κ = l.getD k.toNat tok0 := by rw [← hκ]; rfl
      refine need_t hr (need_so ⟨rfl, trivial⟩ (fork_ok (fun h2 => ?_) (fun h2 => c2 hk (by rw [hκ']; simpa using h2))))
      have := c1 hk (by rw [hκ']; simpa using h2)
      rw [show ((κ + 1 : Nat) : Int) = k + 1 by omega] at this
      rw [w64_in (r := k + 1) (by omega)]
      exact Sy.LoopTo.stampA 2 this
    · simp only [Bool.not_eq_true', Bool.not_eq_false', leI_t, leI_f, eqI_t, eqI_f, inR_t, inR_f, isSo_t, isSo_f] at h
      have hk : κ = l.length := by omega
      have := c3 hk
      rw [← hk, hκ] at this
      exact this) 1 h1
  refine key.mono fun ex F M hg => ?_
  obtain ⟨rfl, hg⟩ := hg
  rcases hg with ⟨q1, rfl, rfl⟩ | ⟨q1, rfl, rfl⟩
  · exact ⟨rfl, rfl, rfl⟩
  · exact ⟨rfl, rfl, rfl⟩
namespace Sy
abbrev skE (l : List TokV) : Mem := ⟨2, 3, [some zB, some (scB (kv l) (behind l : Nat))]⟩
noncomputable abbrev lp_sk (l : List TokV) : Lp Try.prog where
  f := 61
  key := 2
  S := formS (fun F M => some ()) (fun _ => skF l) (fun _ => skM l 1) (fun _ => lim l ∧ 1 ≤ l.length) (fun _ => .leaf (.exit 0, skF l, skE l)) [true, false, false, false, false, false, false, false, false, false, false, false, false, false, false, false, false, false, false, false, false, false, false, false, false, false, false, false, false, false, false, false, false, false, false, false, false, false, false, false, false, false, false]
  one := by kernel_rfl
  ok := formS_ok fun _ ⟨h1, h2⟩ => by
    refine ⟨_, ((Sy.sk_scan l h1 h2).stampG 3).mono fun ex F M hg => ?_⟩
    obtain ⟨M2, ⟨rfl, rfl, rfl⟩, rfl⟩ := hg
    rfl
end Sy
/-sy skip_t
fun (l : List TokV) (d : D) => reck [cSpace] [lp_sk l] 400 30 61 [.ptr 0 0] (skM l 1) d
-/
theorem Sy.skip_t (l : List TokV) (hl : lim l) (h1 : 1 ≤ l.length) : CallTo Try.prog 61 [.ptr 0 0] (skM l 1) fun v M' => v = boo (!leI (l.length : Nat) (behind l : Nat)) ∧ M' = skE l :=
  (to [cSpace] [lp_sk l] 400 30 .done (.need (@isSo (@And ([(some (@AV.ptr 0 0)), none, none, none, none, none, none, none, none, none, none, none, none, none, none, none, none, none, none, none, none, none, none, none, none, none, none, none, none, none, none, none, none, none, none, none, none, none, none, none, none, none, none] = [(some (@AV.ptr 0 0)), none, none, none, none, none, none, none, none, none, none, none, none, none, none, none, none, none, none, none, none, none, none, none, none, none, none, none, none, none, none, none, none, none, none, none, none, none, none, none, none, none, none]) ((@Mem.mk 2 2 [(some zB), (some (@Blk.mk [(@AV.view (l).length 3 (fun x817593 => (fun x808569 => (@AV.lit ([(@Value.int IntKind.i64 ((l.getD x817593 tok0)).kind), (@Value.string ((l.getD x817593 tok0)).text), (@Value.int IntKind.i64 ((l.getD x817593 tok0)).n)].getD x808569 (@Value.tuple (@Array.mk _ []))))))), (int (1 : Int))] 85 none))]) = (@Mem.mk 2 2 [(some zB), (some (@Blk.mk [(@AV.view (l).length 3 (fun x565036 => (fun x900363 => (@AV.lit ([(@Value.int IntKind.i64 ((l.getD x565036 tok0)).kind), (@Value.string ((l.getD x565036 tok0)).text), (@Value.int IntKind.i64 ((l.getD x565036 tok0)).n)].getD x900363 (@Value.tuple (@Array.mk _ []))))))), (int (1 : Int))] 85 none))])))) (.need (@isSo (@And ((l).length ≤ 17592186044416) (1 ≤ (l).length))) (.leaf ((boo (!(leI (((l).length : Nat) : Int) (((@behind l) : Nat) : Int)))), (@Mem.mk 2 3 [(some zB), (some (@Blk.mk [(@AV.view (l).length 3 (fun x497255 => (fun x299710 => (@AV.lit ([(@Value.int IntKind.i64 ((l.getD x497255 tok0)).kind), (@Value.string ((l.getD x497255 tok0)).text), (@Value.int IntKind.i64 ((l.getD x497255 tok0)).n)].getD x299710 (@Value.tuple (@Array.mk _ []))))))), (int (((@behind l) : Nat) : Int))] 85 none))]))))) (by kernel_rfl) (G := fun r => r.1 = boo (!leI (l.length : Nat) (behind l : Nat)) ∧ r.2 = skE l) (need_so ⟨rfl, rfl⟩ (need_so ⟨hl, h1⟩ ⟨rfl, rfl⟩))).mono fun v M' h => h
noncomputable abbrev Sy.cSkip (l : List TokV) : Con Try.prog where
  f := 61
  run := fun _ _ => some (boo (!leI (l.length : Nat) (behind l : Nat)), skE l)
  ob := fun args M => some (isSo ((args = [.ptr 0 0] ∧ M = skM l 1) ∧ lim l ∧ 1 ≤ l.length))
  ok := fun args M v M' hr hob => by
    have h1 := hob _ rfl
    rw [isSo_t] at h1
    obtain ⟨⟨rfl, rfl⟩, h2, h3⟩ := h1
    simp at hr
    obtain ⟨rfl, rfl⟩ := hr
    exact ⟨⟨Nat.le_refl 2, show 2 ≤ 3 by decide, fun e => absurd (show 3 = 2 from e) (by decide)⟩, skip_t l h2 h3⟩
/-- one callee, met more than once -/
noncomputable def Sy.atS {Y : Type} (f : FuncId) (sel : List AV → Mem → Option Y) (args0 : Y → List AV) (v0 : Y → AV) (C : Y → Prop) (h : ∀ y, C y → (Frees (args0 y) ∧ Free (v0 y)) ∧ CallTo Try.prog f (args0 y) M0 fun v _ => v = v0 y) : Con Try.prog where
  f := f
  run := fun args M => match sel args M with | some y => some (v0 y, M) | none => none
  ob := fun args M => match sel args M with | some y => some (isSo (args = args0 y ∧ C y)) | none => none
  ok := fun args M v M' hr hob => by
    cases hs : sel args M with
    | none => rw [hs] at hr; cases hr
    | some y =>
      rw [hs] at hr hob
      simp at hr
      obtain ⟨rfl, rfl⟩ := hr
      have h1 := hob _ rfl
      rw [isSo_t] at h1
      obtain ⟨rfl, hC⟩ := h1
      obtain ⟨⟨q1, q2⟩, q3⟩ := h y hC
      exact ⟨Grow.refl M, ((q3.mono fun v _ e => (⟨e ▸ q2, e⟩ : Free v ∧ v = v0 y)).frame q1 M).mono fun v' M' ⟨q1, q2⟩ => ⟨q2, q1⟩⟩
theorem Sy.trim_n (n : Nat) (c : Nat → TokV) (h : lim (toks n (cxc c))) : CallTo Try.prog 84 [.view n 3 (cxc c)] M0 fun v _ => v = kv (trim (toks n (cxc c))) :=
  (trimmed_t (toks n (cxc c)) h).congr fun ρ us hr => by
    simp only [rels] at hr ⊢
    obtain ⟨u, us', rfl, r1, r2⟩ := hr
    refine ⟨u, us', rfl, ?_, r2⟩
    have hl : (toks n (cxc c)).length = n := toks_len n _
    show rel ρ (.view (toks n (cxc c)).length 3 _) u
    rw [hl]
    refine rel_view_congr (fun i j hi hj => ?_) r1
    rw [toks_get n _ hi]
    rfl
noncomputable abbrev Sy.cTrimD (n : Nat) (c : Nat → TokV) (T V : List TokV) : Con Try.prog := atS 84 (fun _ M => match M.stamp with | 0 => some true | _ => some false)
  (fun b => match b with | true => [.view n 3 (cxc c)] | false => [.view (T.length - (behind T + 1)) 3 (cx T (behind T + 1))])
  (fun b => match b with | true => kv T | false => kv V) (fun b => match b with | true => lim (toks n (cxc c)) ∧ T = trim (toks n (cxc c)) | false => lim T ∧ behind T + 1 ≤ T.length ∧ V = trim (T.drop (behind T + 1))) fun b hC => by
    cases b with
    | true =>
      obtain ⟨h1, rfl⟩ := hC
      exact ⟨⟨⟨fun i j => trivial, trivial⟩, kv_free _⟩, trim_n n c h1⟩
    | false =>
      obtain ⟨h1, h2, rfl⟩ := hC
      have e : toks (T.length - (behind T + 1)) (cxc fun i => T.getD (behind T + 1 + i) tok0) = T.drop (behind T + 1) := by
        have := toks_cx T (behind T + 1) (T.length - (behind T + 1)) (by omega)
        rw [List.take_of_length_le (by rw [List.length_drop]; omega)] at this
        exact this
      have := trim_n (T.length - (behind T + 1)) (fun i => T.getD (behind T + 1 + i) tok0) (by rw [e]; exact drop_lim _ h1)
      rw [e] at this
      exact ⟨⟨⟨fun i j => trivial, trivial⟩, kv_free _⟩, this⟩
noncomputable abbrev Sy.cImpD (V v : List TokV) (b : Bool) : Con Try.prog := at1 85 [kv V] (.tup [kv v, boo b]) (lim V ∧ (v, b) = impT V) fun ⟨h1, h2⟩ => by
  refine ⟨⟨⟨kv_free _, trivial⟩, kv_free _, trivial, trivial⟩, (imp_t V h1).mono fun x _ hx => ?_⟩
  rw [hx]; unfold impA; rw [← h2]
noncomputable abbrev Sy.cAnyD (v : List TokV) : Con Try.prog := at1 86 [kv v, .fn (.func 87) [] []] (boo (anyB badB v)) (lim v) fun h => ⟨⟨⟨kv_free _, ⟨trivial, trivial⟩, trivial⟩, trivial⟩, anyb_t v h⟩
noncomputable abbrev Sy.cFirstD (v : List TokV) : Con Try.prog := at1 83 [kv v, int 0, .fn (.func 88) [] []] (int (tops loudB v 0 : Nat)) (lim v) fun h => ⟨⟨⟨kv_free _, trivial, ⟨trivial, trivial⟩, trivial⟩, trivial⟩, firstl_t v h 0 (by omega) (by omega)⟩
noncomputable abbrev Sy.cCloneD (v : List TokV) : Con Try.prog := at1 89 [kv v] (kv v) (limC v) fun h => ⟨⟨⟨kv_free _, trivial⟩, kv_free _⟩, (of_walkV (d := tok0) v v [] (fun x => x.len) tok_one (by decide) h.lim (fun w a cap hR => clone_toks hR h) M0).mono fun v _ hv => hv.1⟩
/-sy decl_t
fun (n : Nat) (c : Nat → TokV) (T V v : List TokV) (b : Bool) (d : D) => reckV [cTrimD n c T V, cImpD V v b, cAnyD v, cFirstD v, cCloneD v, cSkip T] [] 400 30 58 [.ptr 0 0] ⟨1, 0, [some (scB (.view n 3 (cxc c)) 0)]⟩ d
-/
/-- a declaration, or none, as it is given back -/
def Sy.declA : Option DeclV → AV
  | none => .tup [.agg [.lit (.string ⟨#[]⟩), .lit (.slice none 0 0), boo false], boo false]
  | some d => .tup [.agg [.lit (.string d.name), kv d.value, boo d.imp], boo true]
theorem declA_no {T : List TokV} (h : declL T = none) : Sy.declA (declL T) = .tup [.agg [.lit (.string ⟨#[]⟩), .lit (.slice none 0 0), boo false], boo false] := by rw [h]; rfl
theorem anyB_eq (v : List TokV) : anyB badB v = decide (fstT badB v 0 < v.length) := by
  unfold anyB idxI
  rw [leI_eq]
  split
  · rename_i h; rw [decide_eq_true h]; simp
  · rename_i h; rw [decide_eq_false h]; rfl
theorem declL_1 {T : List TokV} (h : T.length = 0 ∨ eqI (tokAt T 0).kind 1 = false) : declL T = none := by unfold declL; rw [if_pos h]
theorem declL_2 {T : List TokV} (h1 : ¬ (T.length = 0 ∨ eqI (tokAt T 0).kind 1 = false)) (h : T.length ≤ behind T ∨ eqI (tokAt T (behind T)).kind 10 = false) : declL T = none := by unfold declL; rw [if_neg h1, if_pos h]
theorem declL_3 {T : List TokV} (h1 : ¬ (T.length = 0 ∨ eqI (tokAt T 0).kind 1 = false)) (h2 : ¬ (T.length ≤ behind T ∨ eqI (tokAt T (behind T)).kind 10 = false)) (h : (valueT T).1.length = 0 ∨ brokenT (valueT T).1 = true) : declL T = none := by unfold declL; rw [if_neg h1, if_neg h2, if_pos h]
theorem declL_4 {T : List TokV} (h1 : ¬ (T.length = 0 ∨ eqI (tokAt T 0).kind 1 = false)) (h2 : ¬ (T.length ≤ behind T ∨ eqI (tokAt T (behind T)).kind 10 = false)) (h : ¬ ((valueT T).1.length = 0 ∨ brokenT (valueT T).1 = true)) : declL T = some ⟨(tokAt T 0).text, (valueT T).1, (valueT T).2⟩ := by unfold declL; rw [if_neg h1, if_neg h2, if_neg h]
theorem Sy.decl_n (n : Nat) (c : Nat → TokV) (T V v : List TokV) (b : Bool) (hn : limC (toks n (cxc c))) (hT : T = trim (toks n (cxc c))) (hV : V = trim (T.drop (behind T + 1))) (hv : (v, b) = impT V) :
    CallTo Try.prog 58 [.ptr 0 0] ⟨1, 0, [some (scB (.view n 3 (cxc c)) 0)]⟩ fun x _ => x = declA (declL T) := by
  have lT : limC T := by unfold limC at *; rw [hT]; exact Nat.le_trans (trim_len _) hn
  have lV : limC V := by unfold limC at *; rw [hV]; exact Nat.le_trans (trim_len _) (Nat.le_trans (by rw [List.length_drop]; omega) lT)
  have lv : limC v := by
    have h1 := impT_len V
    rw [← hv] at h1
    unfold limC at *
    exact Nat.le_trans h1 lV
  have hval : valueT T = (v, b) := by unfold valueT; rw [← hV, hv]
  refine toV [cTrimD n c T V, cImpD V v b, cAnyD v, cFirstD v, cCloneD v, cSkip T] [] 400 30 (.yes (.br (.auto 3 (.yes (.auto 3 (.br .done (.yes (.br (.auto 7 (.yes (.auto 3 (.br .done (.yes (.yes (.yes (.br (.auto 0 (.yes (.auto 0 (.br (.auto 0 (.yes (.auto 3 (.br .done (.yes (.yes .done)))))) (.auto 5 .done))))) (.auto 8 .done))))))))) (.auto 12 .done))))))) (.auto 8 .done))) (.need (@isSo (@And ([(@AV.view n 3 (fun x338307 => (fun x906938 => (@AV.lit ([(@Value.int IntKind.i64 ((c x338307)).kind), (@Value.string ((c x338307)).text), (@Value.int IntKind.i64 ((c x338307)).n)].getD x906938 (@Value.tuple (@Array.mk _ [])))))))] = [(@AV.view n 3 (fun x237014 => (fun x256593 => (@AV.lit ([(@Value.int IntKind.i64 ((c x237014)).kind), (@Value.string ((c x237014)).text), (@Value.int IntKind.i64 ((c x237014)).n)].getD x256593 (@Value.tuple (@Array.mk _ [])))))))]) (@And (((@toks n (fun x506196 => (fun x751892 => (@AV.lit ([(@Value.int IntKind.i64 ((c x506196)).kind), (@Value.string ((c x506196)).text), (@Value.int IntKind.i64 ((c x506196)).n)].getD x751892 (@Value.tuple (@Array.mk _ [])))))))).length ≤ 17592186044416) (T = (@trim (@toks n (fun x758463 => (fun x493435 => (@AV.lit ([(@Value.int IntKind.i64 ((c x758463)).kind), (@Value.string ((c x758463)).text), (@Value.int IntKind.i64 ((c x758463)).n)].getD x493435 (@Value.tuple (@Array.mk _ [])))))))))))) (.fork (!(eqI (((T).length : Nat) : Int) (0 : Int))) (.need (@inR (0 : Int) (T).length) (.fork (!(eqI ((T.getD 0 tok0)).kind (1 : Int))) (.leaf (@AV.tup [(@AV.agg [(@AV.lit (@Value.string (@ByteArray.mk (@Array.mk _ [])))), (@AV.lit (@Value.slice none 0 0)), (boo false)]), (boo false)])) (.need (@isSo (@And (@And ([(@AV.ptr 0 0)] = [(@AV.ptr 0 0)]) ((@Mem.mk (1 + 1) ((0 + 1) + 1) [(some (@Blk.mk [(@AV.lit (@Value.string (@ByteArray.mk (@Array.mk _ [])))), (@AV.lit (@Value.slice none 0 0)), (boo false)] 78 none)), (some (@Blk.mk [(@AV.view (T).length 3 (fun x123034 => (fun x482061 => (@AV.lit ([(@Value.int IntKind.i64 ((T.getD x123034 tok0)).kind), (@Value.string ((T.getD x123034 tok0)).text), (@Value.int IntKind.i64 ((T.getD x123034 tok0)).n)].getD x482061 (@Value.tuple (@Array.mk _ []))))))), (int (1 : Int))] 85 none))]) = (@Mem.mk 2 2 [(some zB), (some (@Blk.mk [(@AV.view (T).length 3 (fun x202053 => (fun x800136 => (@AV.lit ([(@Value.int IntKind.i64 ((T.getD x202053 tok0)).kind), (@Value.string ((T.getD x202053 tok0)).text), (@Value.int IntKind.i64 ((T.getD x202053 tok0)).n)].getD x800136 (@Value.tuple (@Array.mk _ []))))))), (int (1 : Int))] 85 none))]))) (@And ((T).length ≤ 17592186044416) (1 ≤ (T).length)))) (.fork (!(!(!(leI (((T).length : Nat) : Int) (((@behind T) : Nat) : Int))))) (.need (@inR (((@behind T) : Nat) : Int) (T).length) (.fork (!(eqI ((T.getD ((((@behind T) : Nat) : Int)).toNat tok0)).kind (10 : Int))) (.leaf (@AV.tup [(@AV.agg [(@AV.lit (@Value.string (@ByteArray.mk (@Array.mk _ [])))), (@AV.lit (@Value.slice none 0 0)), (boo false)]), (boo false)])) (.need ((leI (0 : Int) (w64 ((((@behind T) : Nat) : Int) + (1 : Int)))) && ((leI (w64 ((((@behind T) : Nat) : Int) + (1 : Int))) (((T).length : Nat) : Int)) && (leI (((T).length : Nat) : Int) (((T).length : Nat) : Int)))) (.need (@isSo (@And ([(@AV.view (((((T).length : Nat) : Int)).toNat - ((w64 ((((@behind T) : Nat) : Int) + (1 : Int)))).toNat) 3 (fun x173259 => (fun x385495 => (@AV.lit ([(@Value.int IntKind.i64 ((T.getD (((w64 ((((@behind T) : Nat) : Int) + (1 : Int)))).toNat + x173259) tok0)).kind), (@Value.string ((T.getD (((w64 ((((@behind T) : Nat) : Int) + (1 : Int)))).toNat + x173259) tok0)).text), (@Value.int IntKind.i64 ((T.getD (((w64 ((((@behind T) : Nat) : Int) + (1 : Int)))).toNat + x173259) tok0)).n)].getD x385495 (@Value.tuple (@Array.mk _ [])))))))] = [(@AV.view ((T).length - ((@behind T) + 1)) 3 (fun x325278 => (fun x496178 => (@AV.lit ([(@Value.int IntKind.i64 ((T.getD (((@behind T) + 1) + x325278) tok0)).kind), (@Value.string ((T.getD (((@behind T) + 1) + x325278) tok0)).text), (@Value.int IntKind.i64 ((T.getD (((@behind T) + 1) + x325278) tok0)).n)].getD x496178 (@Value.tuple (@Array.mk _ [])))))))]) (@And ((T).length ≤ 17592186044416) (@And (((@behind T) + 1) ≤ (T).length) (V = (@trim (@List.drop _ ((@behind T) + 1) T))))))) (.need (@isSo (@And ([(@AV.view (V).length 3 (fun x932033 => (fun x548556 => (@AV.lit ([(@Value.int IntKind.i64 ((V.getD x932033 tok0)).kind), (@Value.string ((V.getD x932033 tok0)).text), (@Value.int IntKind.i64 ((V.getD x932033 tok0)).n)].getD x548556 (@Value.tuple (@Array.mk _ [])))))))] = [(@AV.view (V).length 3 (fun x154308 => (fun x706371 => (@AV.lit ([(@Value.int IntKind.i64 ((V.getD x154308 tok0)).kind), (@Value.string ((V.getD x154308 tok0)).text), (@Value.int IntKind.i64 ((V.getD x154308 tok0)).n)].getD x706371 (@Value.tuple (@Array.mk _ [])))))))]) (@And ((V).length ≤ 17592186044416) ((v, b) = (@impT V))))) (.fork (!(eqI (((v).length : Nat) : Int) (0 : Int))) (.need (@isSo (@And ([(@AV.view (v).length 3 (fun x164962 => (fun x185494 => (@AV.lit ([(@Value.int IntKind.i64 ((v.getD x164962 tok0)).kind), (@Value.string ((v.getD x164962 tok0)).text), (@Value.int IntKind.i64 ((v.getD x164962 tok0)).n)].getD x185494 (@Value.tuple (@Array.mk _ []))))))), (@AV.fn (@Fn.func 87) [] [])] = [(@AV.view (v).length 3 (fun x860093 => (fun x527893 => (@AV.lit ([(@Value.int IntKind.i64 ((v.getD x860093 tok0)).kind), (@Value.string ((v.getD x860093 tok0)).text), (@Value.int IntKind.i64 ((v.getD x860093 tok0)).n)].getD x527893 (@Value.tuple (@Array.mk _ []))))))), (@AV.fn (@Fn.func 87) [] [])]) ((v).length ≤ 17592186044416))) (.fork (!(@anyB badB v)) (.need (@isSo (@And ([(@AV.view (v).length 3 (fun x575704 => (fun x71103 => (@AV.lit ([(@Value.int IntKind.i64 ((v.getD x575704 tok0)).kind), (@Value.string ((v.getD x575704 tok0)).text), (@Value.int IntKind.i64 ((v.getD x575704 tok0)).n)].getD x71103 (@Value.tuple (@Array.mk _ []))))))), (int (0 : Int)), (@AV.fn (@Fn.func 88) [] [])] = [(@AV.view (v).length 3 (fun x609083 => (fun x996058 => (@AV.lit ([(@Value.int IntKind.i64 ((v.getD x609083 tok0)).kind), (@Value.string ((v.getD x609083 tok0)).text), (@Value.int IntKind.i64 ((v.getD x609083 tok0)).n)].getD x996058 (@Value.tuple (@Array.mk _ []))))))), (int (0 : Int)), (@AV.fn (@Fn.func 88) [] [])]) ((v).length ≤ 17592186044416))) (.fork (!(leI (((v).length : Nat) : Int) (((@tops loudB v 0) : Nat) : Int))) (.leaf (@AV.tup [(@AV.agg [(@AV.lit (@Value.string (@ByteArray.mk (@Array.mk _ [])))), (@AV.lit (@Value.slice none 0 0)), (boo false)]), (boo false)])) (.need (@inR (0 : Int) (T).length) (.need (@isSo (@And ([(@AV.view (v).length 3 (fun x488718 => (fun x895385 => (@AV.lit ([(@Value.int IntKind.i64 ((v.getD x488718 tok0)).kind), (@Value.string ((v.getD x488718 tok0)).text), (@Value.int IntKind.i64 ((v.getD x488718 tok0)).n)].getD x895385 (@Value.tuple (@Array.mk _ [])))))))] = [(@AV.view (v).length 3 (fun x443676 => (fun x811596 => (@AV.lit ([(@Value.int IntKind.i64 ((v.getD x443676 tok0)).kind), (@Value.string ((v.getD x443676 tok0)).text), (@Value.int IntKind.i64 ((v.getD x443676 tok0)).n)].getD x811596 (@Value.tuple (@Array.mk _ [])))))))]) ((v).length ≤ 100000))) (.leaf (@AV.tup [(@AV.agg (@List.take _ 3 ((@AV.lit (@Value.string ((T.getD 0 tok0)).text)) :: (@AV.view (v).length 3 (fun x659807 => (fun x247838 => (@AV.lit ([(@Value.int IntKind.i64 ((v.getD x659807 tok0)).kind), (@Value.string ((v.getD x659807 tok0)).text), (@Value.int IntKind.i64 ((v.getD x659807 tok0)).n)].getD x247838 (@Value.tuple (@Array.mk _ []))))))) :: ((boo b) :: [])))), (boo true)])))))) (.leaf (@AV.tup [(@AV.agg [(@AV.lit (@Value.string (@ByteArray.mk (@Array.mk _ [])))), (@AV.lit (@Value.slice none 0 0)), (boo false)]), (boo false)])))) (.leaf (@AV.tup [(@AV.agg [(@AV.lit (@Value.string (@ByteArray.mk (@Array.mk _ [])))), (@AV.lit (@Value.slice none 0 0)), (boo false)]), (boo false)])))))))) (.leaf (@AV.tup [(@AV.agg [(@AV.lit (@Value.string (@ByteArray.mk (@Array.mk _ [])))), (@AV.lit (@Value.slice none 0 0)), (boo false)]), (boo false)])))))) (.leaf (@AV.tup [(@AV.agg [(@AV.lit (@Value.string (@ByteArray.mk (@Array.mk _ [])))), (@AV.lit (@Value.slice none 0 0)), (boo false)]), (boo false)])))) (by kernel_rfl) ?_
  refine need_so ⟨rfl, hn.lim, hT⟩ (fork_ok (fun q1 => ?_) (fun q1 => ?_))
  · simp only [Bool.not_eq_true', Bool.not_eq_false', leI_t, leI_f, eqI_t, eqI_f, inR_t, inR_f, isSo_t, isSo_f] at q1
    have r0 : inR (0 : Int) T.length = true := by rw [inR_t]; omega
    refine need_t r0 (fork_ok (fun q2 => ?_) (fun q2 => ?_))
    · have q2' : (!eqI (tokAt T 0).kind 1) = true := q2
      rw [Bool.not_eq_true'] at q2'
      exact (declA_no (declL_1 (.inr q2'))).symm
    · have q2' : (!eqI (tokAt T 0).kind 1) = false := q2
      rw [Bool.not_eq_false'] at q2'
      have g1 : ¬ (T.length = 0 ∨ eqI (tokAt T 0).kind 1 = false) := by
        rw [q2']; rintro (h | h)
        · omega
        · cases h
      have hb1 := fst_le (fun t => !spB t) T 1 (by omega)
      have hb2 : fstT (fun t => !spB t) T 1 = behind T := rfl
      rw [hb2] at hb1
      have lT' := lT.lim
      unfold Sy.lim at lT'
      refine need_so ⟨⟨rfl, rfl⟩, lT.lim, by omega⟩ (fork_ok (fun q3 => ?_) (fun q3 => ?_))
      · simp only [Bool.not_not] at q3
        simp only [Bool.not_eq_true', Bool.not_eq_false', leI_t, leI_f, eqI_t, eqI_f, inR_t, inR_f, isSo_t, isSo_f] at q3
        have r1 : inR (behind T : Int) T.length = true := by rw [inR_t]; omega
        refine need_t r1 (fork_ok (fun q4 => ?_) (fun q4 => ?_))
        · have q4' : (!eqI (tokAt T (behind T)).kind 10) = true := q4
          rw [Bool.not_eq_true'] at q4'
          exact (declA_no (declL_2 g1 (.inr q4'))).symm
        · have q4' : (!eqI (tokAt T (behind T)).kind 10) = false := q4
          rw [Bool.not_eq_false'] at q4'
          have g2 : ¬ (T.length ≤ behind T ∨ eqI (tokAt T (behind T)).kind 10 = false) := by
            rw [q4']; rintro (h | h)
            · omega
            · cases h
          have w1 : w64 ((behind T : Int) + 1) = ((behind T + 1 : Nat) : Int) := w64_in (by omega)
          rw [w1]
          have hB : (leI (0 : Int) ((behind T + 1 : Nat) : Int) && (leI ((behind T + 1 : Nat) : Int) ((T.length : Nat) : Int) && leI ((T.length : Nat) : Int) ((T.length : Nat) : Int))) = true := by
            simp only [Bool.and_eq_true, leI_t]; omega
          refine need_t hB (need_so ⟨rfl, lT.lim, by omega, hV⟩ (need_so ⟨rfl, lV.lim, hv⟩ (fork_ok (fun q5 => ?_) (fun q5 => ?_))))
          · simp only [Bool.not_eq_true', Bool.not_eq_false', leI_t, leI_f, eqI_t, eqI_f, inR_t, inR_f, isSo_t, isSo_f] at q5
            refine need_so ⟨rfl, lv.lim⟩ (fork_ok (fun q6 => need_so ⟨rfl, lv.lim⟩ (fork_ok (fun q7 => ?_) (fun q7 => ?_))) (fun q6 => ?_))
            · simp only [Bool.not_eq_true', Bool.not_eq_false', leI_t, leI_f, eqI_t, eqI_f, inR_t, inR_f, isSo_t, isSo_f] at q7
              refine (declA_no (declL_3 g1 g2 (.inr ?_))).symm
              rw [hval]
              unfold brokenT
              rw [Bool.or_eq_true, decide_eq_true_eq, decide_eq_true_eq]
              simp only; omega
            · simp only [Bool.not_eq_true', Bool.not_eq_false', leI_t, leI_f, eqI_t, eqI_f, inR_t, inR_f, isSo_t, isSo_f] at q7
              refine need_t r0 (need_so ⟨rfl, lv⟩ ?_)
              have g3 : ¬ ((valueT T).1.length = 0 ∨ brokenT (valueT T).1 = true) := by
                rw [hval]
                unfold brokenT
                rw [anyB_eq] at q6
                simp only [Bool.not_eq_true', decide_eq_false_iff_not] at q6
                rw [Bool.or_eq_true, decide_eq_true_eq, decide_eq_true_eq]
                simp only; omega
              have e := declL_4 g1 g2 g3
              rw [hval] at e
              show _ = declA (declL T)
              rw [e]
              rfl
            · refine (declA_no (declL_3 g1 g2 (.inr ?_))).symm
              rw [hval]
              unfold brokenT
              rw [anyB_eq] at q6
              simp only [Bool.not_eq_false', decide_eq_true_eq] at q6
              rw [Bool.or_eq_true, decide_eq_true_eq]
              exact .inl q6
          · simp only [Bool.not_eq_true', Bool.not_eq_false', leI_t, leI_f, eqI_t, eqI_f, inR_t, inR_f, isSo_t, isSo_f] at q5
            refine (declA_no (declL_3 g1 g2 (.inl ?_))).symm
            rw [hval]; simp only; omega
      · simp only [Bool.not_not] at q3
        simp only [Bool.not_eq_true', Bool.not_eq_false', leI_t, leI_f, eqI_t, eqI_f, inR_t, inR_f, isSo_t, isSo_f] at q3
        exact (declA_no (declL_2 g1 (.inl (by omega)))).symm
  · simp only [Bool.not_eq_true', Bool.not_eq_false', leI_t, leI_f, eqI_t, eqI_f, inR_t, inR_f, isSo_t, isSo_f] at q1
    exact (declA_no (declL_1 (.inl (by omega)))).symm
theorem Sy.decl_t (p : List TokV) (hp : limC p) : CallTo Try.prog 58 [.ptr 0 0] ⟨1, 0, [some (scB (kv p) 0)]⟩ fun x _ => x = declA (declT p) := by
  have e : toks p.length (cxc fun i => p.getD i tok0) = p := toks_cx0 p
  have := decl_n p.length (fun i => p.getD i tok0) (trim p) (trim ((trim p).drop (behind (trim p) + 1))) (impT (trim ((trim p).drop (behind (trim p) + 1)))).1 (impT (trim ((trim p).drop (behind (trim p) + 1)))).2 (by rw [e]; exact hp) (by rw [e]) rfl rfl
  exact this
end Go.Proofs.Ytjljlcflmcjapaa
