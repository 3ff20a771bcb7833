/-
  Layer 6: the program's skip and rule.
-/
import Derived.Test.YtjljlcflmcjapaaRuleSy1
namespace Go.Proofs.Ytjljlcflmcjapaa
open Go Go.RowKit Pl Sy
set_option linter.unusedVariables false
set_option linter.unusedSimpArgs false
theorem Sy.trimp_t (l : List TokV) (h : limC l) : CallTo Try.prog 96 [kv l] M0 fun v _ => v = kv (trim l) :=
  toV [cTrimL l (trim l), cCloneD (trim l)] [] 400 30 ((.yes (.yes .done))) (let T := trim l; (.need (@isSo (@And ([(@AV.view (l).length 3 (fun x227158 => (fun x406562 => (@AV.lit ([(@Value.int IntKind.i64 ((l.getD x227158 tok0)).kind), (@Value.string ((l.getD x227158 tok0)).text), (@Value.int IntKind.i64 ((l.getD x227158 tok0)).n)].getD x406562 (@Value.tuple (@Array.mk _ [])))))))] = [(@AV.view (l).length 3 (fun x498201 => (fun x698052 => (@AV.lit ([(@Value.int IntKind.i64 ((l.getD x498201 tok0)).kind), (@Value.string ((l.getD x498201 tok0)).text), (@Value.int IntKind.i64 ((l.getD x498201 tok0)).n)].getD x698052 (@Value.tuple (@Array.mk _ [])))))))]) (@And ((l).length ≤ 17592186044416) (T = (@trim l))))) (.need (@isSo (@And ([(@AV.view (T).length 3 (fun x789324 => (fun x651691 => (@AV.lit ([(@Value.int IntKind.i64 ((T.getD x789324 tok0)).kind), (@Value.string ((T.getD x789324 tok0)).text), (@Value.int IntKind.i64 ((T.getD x789324 tok0)).n)].getD x651691 (@Value.tuple (@Array.mk _ [])))))))] = [(@AV.view (T).length 3 (fun x883890 => (fun x722078 => (@AV.lit ([(@Value.int IntKind.i64 ((T.getD x883890 tok0)).kind), (@Value.string ((T.getD x883890 tok0)).text), (@Value.int IntKind.i64 ((T.getD x883890 tok0)).n)].getD x722078 (@Value.tuple (@Array.mk _ [])))))))]) ((T).length ≤ 100000))) (.leaf (@AV.view (T).length 3 (fun x836781 => (fun x431093 => (@AV.lit ([(@Value.int IntKind.i64 ((T.getD x836781 tok0)).kind), (@Value.string ((T.getD x836781 tok0)).text), (@Value.int IntKind.i64 ((T.getD x836781 tok0)).n)].getD x431093 (@Value.tuple (@Array.mk _ []))))))))))) (by kernel_rfl) (need_so ⟨rfl, h.lim, rfl⟩ (need_so ⟨rfl, Nat.le_trans (trim_len l) h⟩ rfl))
namespace Sy
abbrev sgM (l : List TokV) (k : Int) : Mem := ⟨1, 0, [some (scB (kv l) k)]⟩
end Sy
/-sy skg_p
fun (l : List TokV) (k : Int) (d : D) => probeV SyTool.probe [cSpace] 400 30 61 [.ptr 0 0] (sgM l k) d
-/
namespace Sy
abbrev sgF (l : List TokV) : Fr := [some ((@AV.ptr 0 0)), none, none, none, none, none, none, none, none, none, none, none, none, none, none, none, none, none, none, none, none, none, none, none, none, none, none, none, none, none, none, none, none, none, none, none, none, none, none, none, none, none, none]
end Sy
/-sy skg_r
fun (l : List TokV) (k : Int) (d : D) => reckL [cSpace] [] 400 30 61 2 [true, false, false, false, false, false, false, false, false, false, false, false, false, false, false, false, false, false, false, false, false, false, false, false, false, false, false, false, false, false, false, false, false, false, false, false, false, false, false, false, false, false, false] (sgF l) (sgM l k) d
-/
theorem Sy.sg_scan (l : List TokV) (hl : lim l) (k0 : Nat) (h1 : k0 ≤ l.length) : LoopTo Try.prog (theBody Try.prog 61 2) (l.length - k0 + 1) (sgF l) (sgM l k0) fun ex F' M' => ex = .exit 0 ∧ F' = sgF l ∧ M' = sgM l (skp l k0 : Nat) := by
  have key := hopL (P := Try.prog) (body := theBody Try.prog 61 2) l.length (fun j => !spB (tokAt l j)) (fun j => j + 1) (fun k _ => Nat.lt_succ_self k) (fun k h => h) (fun k => sgF l) (fun k => sgF l) (fun k => sgM l (k : Nat)) (.exit 0) (fun κ n G h0 c1 c2 c3 => by
    generalize hκ : (κ : Int) = k at *
    refine roundL [cSpace] [] 400 30 61 2 Try.func61 rfl (by kernel_rfl) [true, false, false, false, false, false, false, false, false, false, false, false, false, false, false, false, false, false, false, false, false, false, false, false, false, false, false, false, false, false, false, false, false, false, false, false, false, false, false, false, false, false, false] (.br (.auto 7 (.yes (.auto 1 (.yes (.auto 0 (.br .done .done)))))) (.auto 11 .done)) (.fork (!(leI (((l).length : Nat) : Int) k)) (.need (@inR k (l).length) (.need (@isSo (@And ([(@AV.agg [(int ((l.getD (k).toNat tok0)).kind), (@AV.lit (@Value.string ((l.getD (k).toNat tok0)).text)), (int ((l.getD (k).toNat tok0)).n)])] = [(@AV.agg [(int ((l.getD (k).toNat tok0)).kind), (@AV.lit (@Value.string ((l.getD (k).toNat tok0)).text)), (int ((l.getD (k).toNat tok0)).n)])]) True)) (.fork (@spB (@TokV.mk ((l.getD (k).toNat tok0)).kind ((l.getD (k).toNat tok0)).text ((l.getD (k).toNat tok0)).n)) (.leaf (Ex.norm, ([(some (@AV.ptr 0 0)), none, none, none, none, none, none, none, none, none, none, none, none, none, none, none, none, none, none, none, none, none, none, none, none, none, none, none, none, none, none, none, none, none, none, none, none, none, none, none, none, none, none], (@Mem.mk 1 (0 + 1) [(some (@Blk.mk ((@AV.view (l).length 3 (fun x456974 => (fun x627353 => (@AV.lit ([(@Value.int IntKind.i64 ((l.getD x456974 tok0)).kind), (@Value.string ((l.getD x456974 tok0)).text), (@Value.int IntKind.i64 ((l.getD x456974 tok0)).n)].getD x627353 (@Value.tuple (@Array.mk _ []))))))) :: [(int (w64 (k + (1 : Int))))]) 85 none))])))) (.leaf ((@Ex.exit 0), ([(some (@AV.ptr 0 0)), none, none, none, none, none, none, none, none, none, none, none, none, none, none, none, none, none, none, none, none, none, none, none, none, none, none, none, none, none, none, none, none, none, none, none, none, none, none, none, none, none, none], (@Mem.mk 1 0 [(some (@Blk.mk [(@AV.view (l).length 3 (fun x641723 => (fun x328914 => (@AV.lit ([(@Value.int IntKind.i64 ((l.getD x641723 tok0)).kind), (@Value.string ((l.getD x641723 tok0)).text), (@Value.int IntKind.i64 ((l.getD x641723 tok0)).n)].getD x328914 (@Value.tuple (@Array.mk _ []))))))), (int k)] 85 none))]))))))) (.leaf ((@Ex.exit 0), ([(some (@AV.ptr 0 0)), none, none, none, none, none, none, none, none, none, none, none, none, none, none, none, none, none, none, none, none, none, none, none, none, none, none, none, none, none, none, none, none, none, none, none, none, none, none, none, none, none, none], (@Mem.mk 1 0 [(some (@Blk.mk [(@AV.view (l).length 3 (fun x107837 => (fun x135680 => (@AV.lit ([(@Value.int IntKind.i64 ((l.getD x107837 tok0)).kind), (@Value.string ((l.getD x107837 tok0)).text), (@Value.int IntKind.i64 ((l.getD x107837 tok0)).n)].getD x135680 (@Value.tuple (@Array.mk _ []))))))), (int k)] 85 none))]))))) (by kernel_rfl) ?_
    have hl' : l.length ≤ 17592186044416 := hl
    refine fork_ok (fun h => ?_) (fun h => ?_)
    · simp only [Bool.not_eq_true', Bool.not_eq_false', leI_t, leI_f, eqI_t, eqI_f, inR_t, inR_f, isSo_t, isSo_f] at h
      have hk : κ < l.length := by omega
      have hr : inR k l.length = true := by rw [inR_t]; omega
      have hκ' : tokAt l κ = l.getD k.toNat tok0 := by rw [← hκ]; rfl
      refine need_t hr (need_so ⟨rfl, trivial⟩ (fork_ok (fun h2 => ?_) (fun h2 => c2 hk (by rw [hκ']; simpa using h2))))
      have := c1 hk (by rw [hκ']; simpa using h2)
      rw [show ((κ + 1 : Nat) : Int) = k + 1 by omega] at this
      rw [w64_in (r := k + 1) (by omega)]
      exact Sy.LoopTo.stampA 0 this
    · simp only [Bool.not_eq_true', Bool.not_eq_false', leI_t, leI_f, eqI_t, eqI_f, inR_t, inR_f, isSo_t, isSo_f] at h
      have hk : κ = l.length := by omega
      have := c3 hk
      rw [← hk, hκ] at this
      exact this) k0 h1
  refine key.mono fun ex F M hg => ?_
  obtain ⟨rfl, hg⟩ := hg
  rcases hg with ⟨q1, rfl, rfl⟩ | ⟨q1, rfl, rfl⟩
  · exact ⟨rfl, rfl, rfl⟩
  · exact ⟨rfl, rfl, rfl⟩
namespace Sy
noncomputable abbrev lp_sg (l : List TokV) (k0 : Nat) : Lp Try.prog where
  f := 61
  key := 2
  S := formS (fun F M => some ()) (fun _ => sgF l) (fun _ => sgM l k0) (fun _ => lim l ∧ k0 ≤ l.length) (fun _ => .leaf (.exit 0, sgF l, sgM l (skp l k0 : Nat))) [true, false, false, false, false, false, false, false, false, false, false, false, false, false, false, false, false, false, false, false, false, false, false, false, false, false, false, false, false, false, false, false, false, false, false, false, false, false, false, false, false, false, false]
  one := by kernel_rfl
  ok := formS_ok fun _ ⟨h1, h2⟩ => by
    refine ⟨_, (Sy.sg_scan l h1 k0 h2).mono fun ex F M hg => ?_⟩
    obtain ⟨rfl, rfl, rfl⟩ := hg
    rfl
end Sy
/-sy skg_t
fun (l : List TokV) (k0 : Nat) (d : D) => reck [cSpace] [lp_sg l k0] 400 30 61 [.ptr 0 0] (sgM l k0) d
-/
theorem Sy.skg_t (l : List TokV) (hl : lim l) (k0 : Nat) (h1 : k0 ≤ l.length) : CallTo Try.prog 61 [.ptr 0 0] (sgM l k0) fun v M' => v = boo (!leI (l.length : Nat) (skp l k0 : Nat)) ∧ M' = sgM l (skp l k0 : Nat) :=
  (to [cSpace] [lp_sg l k0] 400 30 .done (.need (@isSo (@And ([(some (@AV.ptr 0 0)), none, none, none, none, none, none, none, none, none, none, none, none, none, none, none, none, none, none, none, none, none, none, none, none, none, none, none, none, none, none, none, none, none, none, none, none, none, none, none, none, none, none] = [(some (@AV.ptr 0 0)), none, none, none, none, none, none, none, none, none, none, none, none, none, none, none, none, none, none, none, none, none, none, none, none, none, none, none, none, none, none, none, none, none, none, none, none, none, none, none, none, none, none]) ((@Mem.mk 1 0 [(some (@Blk.mk [(@AV.view (l).length 3 (fun x178973 => (fun x541920 => (@AV.lit ([(@Value.int IntKind.i64 ((l.getD x178973 tok0)).kind), (@Value.string ((l.getD x178973 tok0)).text), (@Value.int IntKind.i64 ((l.getD x178973 tok0)).n)].getD x541920 (@Value.tuple (@Array.mk _ []))))))), (int ((k0 : Nat) : Int))] 85 none))]) = (@Mem.mk 1 0 [(some (@Blk.mk [(@AV.view (l).length 3 (fun x297483 => (fun x779951 => (@AV.lit ([(@Value.int IntKind.i64 ((l.getD x297483 tok0)).kind), (@Value.string ((l.getD x297483 tok0)).text), (@Value.int IntKind.i64 ((l.getD x297483 tok0)).n)].getD x779951 (@Value.tuple (@Array.mk _ []))))))), (int ((k0 : Nat) : Int))] 85 none))])))) (.need (@isSo (@And ((l).length ≤ 17592186044416) (k0 ≤ (l).length))) (.leaf ((boo (!(leI (((l).length : Nat) : Int) (((@skp l k0) : Nat) : Int)))), (@Mem.mk 1 0 [(some (@Blk.mk [(@AV.view (l).length 3 (fun x662126 => (fun x105978 => (@AV.lit ([(@Value.int IntKind.i64 ((l.getD x662126 tok0)).kind), (@Value.string ((l.getD x662126 tok0)).text), (@Value.int IntKind.i64 ((l.getD x662126 tok0)).n)].getD x105978 (@Value.tuple (@Array.mk _ []))))))), (int (((@skp l k0) : Nat) : Int))] 85 none))]))))) (by kernel_rfl) (G := fun r => r.1 = boo (!leI (l.length : Nat) (skp l k0 : Nat)) ∧ r.2 = sgM l (skp l k0 : Nat)) (need_so ⟨rfl, rfl⟩ (need_so ⟨hl, h1⟩ ⟨rfl, rfl⟩))).mono fun v M' h => h
/-! ### rule -/
/-sy ends_t
fun (b : Bool) (M : Mem) (d : D) => reck [] [] 400 30 95 [boo b] M d
-/
theorem Sy.ends_t (b : Bool) (M : Mem) : CallTo Try.prog 95 [boo b] M fun v M' => v = .fn (.func 136) [] [.ptr M.top 0] ∧ M' = M.push ⟨[boo b], 4, none⟩ :=
  (to [] [] 400 30 .done (.leaf ((@AV.fn (@Fn.func 136) [] [(@AV.ptr (M).top 0)]), (@Mem.mk ((M).top + 1) (M).stamp ((some (@Blk.mk [(boo b)] 4 none)) :: (M).bs)))) (by kernel_rfl) (G := fun r => r.1 = .fn (.func 136) [] [.ptr M.top 0] ∧ r.2 = M.push ⟨[boo b], 4, none⟩) ⟨rfl, rfl⟩).mono fun v M' h => h
/-- a function literal that holds a new block -/
noncomputable def Sy.cEnds : Con Try.prog where
  f := 95
  run := fun args M => match args with | [.lit (.bool b)] => some (.fn (.func 136) [] [.ptr M.top 0], M.push ⟨[boo b], 4, none⟩) | _ => none
  ob := fun _ _ => none
  ok := fun args M v M' hr hob => by
    split at hr
    · rename_i b
      simp at hr
      obtain ⟨rfl, rfl⟩ := hr
      refine ⟨Grow.push M _, ?_⟩
      exact (ends_t b M).mono fun v M' h => h
    · cases hr
theorem Sy.conv_fn {M : Mem} {b e : Nat} {f : Fn} {x : AV} {R : Option Rw} (hb : M.get b = some ⟨[x], e, R⟩) (is : Bool) (hx : x = boo is) : Conv1 M (.fn f [] [.ptr b 0]) (.fn f [] [bx is]) := fun w0 ρ w u hW hr => by
  subst hx
  simp only [rel, rels] at hr ⊢
  obtain ⟨l, m, rfl, rfl, y, ys, rfl, ⟨g, tot, hg, rfl⟩, rfl⟩ := hr
  refine ⟨[], _, rfl, rfl, _, [], rfl, ⟨g, 0, rfl, fun j hj => ?_⟩, rfl⟩
  obtain ⟨q2, cur, q3, q4, q5⟩ := hW.holds hb hg
  obtain ⟨z, r5, r6⟩ := q5.1 0 _ rfl
  have hlt : g < w.heap.size := (Array.getElem?_eq_some_iff.1 q3).1
  refine ⟨z, ?_, ?_⟩
  · simp only [rho0, if_pos hlt]
    rw [cell_at q3, show 0 + j = 0 by omega]; exact r5
  · simp only [rel] at r6; exact r6
noncomputable abbrev Sy.cFirstM (l : List TokV) (lo E : Nat) (is : Bool) : Con Try.prog := atM 83 (fun _ _ => some ()) (fun _ => [kv l, int lo, .fn (.func 136) [] [bx is]]) (fun _ => int E) (fun _ => (lim l ∧ lo ≤ l.length) ∧ E = tops (endB is) l lo) fun _ ⟨⟨h1, h2⟩, h3⟩ => ⟨⟨_, rfl⟩, by
  subst h3
  exact firste_t is l h1 lo (by omega) (by omega)⟩
noncomputable abbrev Sy.cTrimPD (l : List TokV) (lo n : Nat) (H : List TokV) : Con Try.prog := at1 96 [.view n 3 (cx l lo)] (kv H) ((limC l ∧ lo + n ≤ l.length) ∧ H = trim ((l.drop lo).take n)) fun ⟨⟨h1, h2⟩, h3⟩ => by
  refine ⟨⟨⟨fun i j => trivial, trivial⟩, kv_free _⟩, ?_⟩
  subst h3
  refine (trimp_t ((l.drop lo).take n) (by unfold limC at *; rw [List.length_take, List.length_drop]; omega)).congr fun ρ us hr => ?_
  simp only [rels] at hr ⊢
  obtain ⟨u, us', rfl, r1, r2⟩ := hr
  exact ⟨u, us', rfl, sub_part l lo n n h2 rfl _ rfl _ _ r1, r2⟩
noncomputable abbrev Sy.cClonePD (l : List TokV) (lo n : Nat) (H : List TokV) : Con Try.prog := at1 89 [.view n 3 (cx l lo)] (kv H) ((limC l ∧ lo + n ≤ l.length) ∧ H = (l.drop lo).take n) fun ⟨⟨h1, h2⟩, h3⟩ => by
  refine ⟨⟨⟨fun i j => trivial, trivial⟩, kv_free _⟩, ?_⟩
  subst h3
  have hC : limC ((l.drop lo).take n) := by unfold limC at *; rw [List.length_take, List.length_drop]; omega
  have := (of_walkV (d := tok0) ((l.drop lo).take n) ((l.drop lo).take n) [] (fun x => x.len) tok_one (by decide) hC.lim (fun w a cap hR => clone_toks hR hC) M0).mono fun v M' hv => hv.1
  refine CallTo.congr this fun ρ us hr => ?_
  simp only [rels] at hr ⊢
  obtain ⟨u, us', rfl, r1, r2⟩ := hr
  exact ⟨u, us', rfl, sub_part l lo n n h2 rfl _ rfl _ _ r1, r2⟩
/-sy rule_t
fun (l : List TokV) (k : Int) (lo E n n2 : Nat) (is : Bool) (H B : List TokV) (d : D) => reck [cFirstM l lo E is, cEnds, cTrimPD l lo n H, cClonePD l (E + 1) n2 B, cMatch l] [] 400 30 62 [.ptr 0 0] (sgM l k) d
-/
/-- a rule, as it is given back -/
def Sy.rawA (r : RawV) : AV := .agg [.lit (.string r.at_), kv r.head, kv r.body, boo r.block]
theorem mt_open {l : List TokV} {k : Nat} (h : k < l.length) (hc : clo (tokAt l k).kind ≠ 0) : k + 1 ≤ mt l k := by
  rw [mt_eq h, if_neg hc]
  have := runs_le (kindsT l) _ (k + 1) [clo (tokAt l k).kind] (Nat.le_refl _)
  rw [kindsT_len] at this
  omega
theorem rule_leaf {l : List TokV} {κ k' : Nat} {R : RawV} (e : ruleT l κ = (R, k')) {v : AV} {M : Mem} (hv : Sub v (rawA R)) (hM : M.get 0 = some (scB (kv l) (k' : Nat))) : Sub v (rawA (ruleT l κ).1) ∧ M.get 0 = some (scB (kv l) ((ruleT l κ).2 : Nat)) := by
  rw [e]; exact ⟨hv, hM⟩
theorem rawA_no (s : ByteArray) (H : List TokV) : Sub (.agg [.lit (.string s), kv H, .lit (.slice none 0 0), boo false]) (rawA ⟨s, H, [], false⟩) :=
  Sub.agg ⟨Sub.refl _, Sub.refl _, Sub.nil _ _, Sub.refl _, trivial⟩
theorem Sy.rule_t (l : List TokV) (hl : limC l) (κ : Nat) (hκl : κ < l.length) : CallTo Try.prog 62 [.ptr 0 0] (sgM l κ) fun v M' => Sub v (rawA (ruleT l κ).1) ∧ M'.get 0 = some (scB (kv l) ((ruleT l κ).2 : Nat)) := by
  obtain ⟨lo, hlo⟩ : ∃ lo, lo = hd1 l κ := ⟨_, rfl⟩
  obtain ⟨E, hE⟩ : ∃ E, E = endAt l κ := ⟨_, rfl⟩
  obtain ⟨is, his⟩ : ∃ is, is = isAt l κ := ⟨_, rfl⟩
  obtain ⟨H, hH⟩ : ∃ H, H = headOf l κ := ⟨_, rfl⟩
  obtain ⟨B, hB⟩ : ∃ B, B = bodyOf l E := ⟨_, rfl⟩
  have hl1 := hd1_le hκl
  have hl2 := end_le hκl
  rw [← hlo, ← hE] at hl2
  rw [← hlo] at hl1
  have hlen : l.length ≤ 100000 := hl
  have hE' : E = tops (endB is) l lo := by rw [hE, his, hlo]; rfl
  have hH' : H = trim ((l.drop lo).take (E - lo)) := by rw [hH, hlo, hE]; rfl
  have hend : E ≠ l.length → endB is (tokAt l E) = true := fun h => by rw [his, hE]; exact end_at (by rw [← hE]; omega)
  have heq : eqI ((E : Nat) : Int) ((l.length : Nat) : Int) = decide (E = l.length) := by rw [eqI_d, Bool.eq_iff_iff]; simp; omega
  have r1 : E = l.length → ruleT l κ = (⟨nameOf l κ, H, [], false⟩, E) := fun h => by rw [hH, ruleT_end (by rw [← hE]; exact h), h]
  have r2 : E ≠ l.length → eqI (tokAt l E).kind 11 = true → ruleT l κ = (⟨nameOf l κ, H, [], false⟩, E + 1) := fun h h' => by rw [hH, hE]; exact ruleT_semi (by rw [← hE]; exact h) (by rw [← hE]; exact h')
  have r3 : E ≠ l.length → ¬ eqI (tokAt l E).kind 11 = true → ruleT l κ = (⟨nameOf l κ, H, B, true⟩, nxt l E) := fun h h' => by rw [hH, hB, hE]; exact ruleT_block (by rw [← hE]; exact h) (by rw [← hE]; exact h')
  have hmt : E ≠ l.length → ¬ eqI (tokAt l E).kind 11 = true → E + 1 ≤ mt l E ∧ mt l E ≤ l.length := fun h h' => by
    have h1 := hend h
    have h2 := mt_le (l := l) (k := E) (by omega)
    unfold endB at h1
    rw [Bool.not_eq_true] at h'
    rw [h', Bool.and_false, Bool.or_false, eqI_t] at h1
    exact ⟨mt_open (by omega) (by rw [h1]; decide), h2.2⟩
  have wE : E ≤ l.length → w64 ((E : Int) + 1) = ((E + 1 : Nat) : Int) := fun h => w64_in (by omega)
  have mE : mtI l (E : Nat) = (mt l E : Int) := (mt_int l E).1
  have tE : l.getD ((E : Nat) : Int).toNat tok0 = tokAt l E := rfl
  have nm : nameOf l κ = if is = true then (tokAt l κ).text else ⟨#[]⟩ := by rw [his]; rfl
  have hlo' : lo = if is = true then κ + 1 else κ := by rw [hlo, his]; rfl
  generalize hκ : (κ : Int) = k at *
  have tk : l.getD k.toNat tok0 = tokAt l κ := by rw [← hκ]; rfl
  have hr : inR k l.length = true := by rw [inR_t]; omega
  have hk3 : eqI (tokAt l κ).kind 3 = is := his.symm
  obtain ⟨n, hn⟩ : ∃ n, n = E - lo := ⟨_, rfl⟩
  obtain ⟨n2, hn2⟩ : ∃ n2, n2 = mt l E - (E + 1) := ⟨_, rfl⟩
  have hH2 : H = trim ((l.drop lo).take n) := by rw [hn]; exact hH'
  have hB2 : B = (l.drop (E + 1)).take n2 := by rw [hn2, hB]; rfl
  refine (to [cFirstM l lo E is, cEnds, cTrimPD l lo n H, cClonePD l (E + 1) n2 B, cMatch l] [] 400 30 (.yes (.br (.yes (.yes (.yes (.yes (.br .done (.yes (.br .done (.yes (.yes (.yes .done)))))))))) (.yes (.yes (.yes (.br .done (.yes (.br .done (.yes (.yes (.yes .done))))))))))) (.need (@inR k (l).length) (.fork (eqI ((l.getD (k).toNat tok0)).kind (3 : Int)) (.need (@inR k (l).length) (.need (@isSo (@And (@Conv (@Mem.mk (((1 + 1) + 1) + 1) ((0 + 1) + 1) ((some (@Blk.mk [(boo (eqI ((l.getD (k).toNat tok0)).kind (3 : Int)))] 4 none)) :: [(some (@Blk.mk [(@AV.lit (@Value.string ((l.getD (k).toNat tok0)).text)), (@AV.lit (@Value.slice none 0 0)), (@AV.lit (@Value.slice none 0 0)), (boo false)] 76 none)), (some (@Blk.mk [(@AV.lit (@Value.string (@ByteArray.mk (@Array.mk _ [])))), (@AV.lit (@Value.slice none 0 0)), (@AV.lit (@Value.slice none 0 0)), (boo false)] 76 none)), (some (@Blk.mk ((@AV.view (l).length 3 (fun x910648 => (fun x129733 => (@AV.lit ([(@Value.int IntKind.i64 ((l.getD x910648 tok0)).kind), (@Value.string ((l.getD x910648 tok0)).text), (@Value.int IntKind.i64 ((l.getD x910648 tok0)).n)].getD x129733 (@Value.tuple (@Array.mk _ []))))))) :: [(int (w64 (k + (1 : Int))))]) 85 none))])) [(@AV.view (l).length 3 (fun x209501 => (fun x161910 => (@AV.lit ([(@Value.int IntKind.i64 ((l.getD x209501 tok0)).kind), (@Value.string ((l.getD x209501 tok0)).text), (@Value.int IntKind.i64 ((l.getD x209501 tok0)).n)].getD x161910 (@Value.tuple (@Array.mk _ []))))))), (int (w64 (k + (1 : Int)))), (@AV.fn (@Fn.func 136) [] [(@AV.ptr ((1 + 1) + 1) 0)])] [(@AV.view (l).length 3 (fun x229463 => (fun x55667 => (@AV.lit ([(@Value.int IntKind.i64 ((l.getD x229463 tok0)).kind), (@Value.string ((l.getD x229463 tok0)).text), (@Value.int IntKind.i64 ((l.getD x229463 tok0)).n)].getD x55667 (@Value.tuple (@Array.mk _ []))))))), (int ((lo : Nat) : Int)), (@AV.fn (@Fn.func 136) [] [(@AV.vptr 1 (fun x668148 => (boo is)))])]) (@And (@And ((l).length ≤ 17592186044416) (lo ≤ (l).length)) (E = (@tops (@endB is) l lo))))) (.need ((leI (0 : Int) (w64 (k + (1 : Int)))) && ((leI (w64 (k + (1 : Int))) ((E : Nat) : Int)) && (leI ((E : Nat) : Int) (((l).length : Nat) : Int)))) (.need (@isSo (@And ([(@AV.view ((((E : Nat) : Int)).toNat - ((w64 (k + (1 : Int)))).toNat) 3 (fun x604396 => (fun x654689 => (@AV.lit ([(@Value.int IntKind.i64 ((l.getD (((w64 (k + (1 : Int)))).toNat + x604396) tok0)).kind), (@Value.string ((l.getD (((w64 (k + (1 : Int)))).toNat + x604396) tok0)).text), (@Value.int IntKind.i64 ((l.getD (((w64 (k + (1 : Int)))).toNat + x604396) tok0)).n)].getD x654689 (@Value.tuple (@Array.mk _ [])))))))] = [(@AV.view n 3 (fun x224882 => (fun x958702 => (@AV.lit ([(@Value.int IntKind.i64 ((l.getD (lo + x224882) tok0)).kind), (@Value.string ((l.getD (lo + x224882) tok0)).text), (@Value.int IntKind.i64 ((l.getD (lo + x224882) tok0)).n)].getD x958702 (@Value.tuple (@Array.mk _ [])))))))]) (@And (@And ((l).length ≤ 100000) ((lo + n) ≤ (l).length)) (H = (@trim (@List.take _ n (@List.drop _ lo l))))))) (.fork (eqI ((E : Nat) : Int) (((l).length : Nat) : Int)) (.leaf ((@AV.agg (@List.take _ 4 ((@AV.lit (@Value.string ((l.getD (k).toNat tok0)).text)) :: (@AV.view (H).length 3 (fun x991061 => (fun x864850 => (@AV.lit ([(@Value.int IntKind.i64 ((H.getD x991061 tok0)).kind), (@Value.string ((H.getD x991061 tok0)).text), (@Value.int IntKind.i64 ((H.getD x991061 tok0)).n)].getD x864850 (@Value.tuple (@Array.mk _ []))))))) :: [(@AV.lit (@Value.slice none 0 0)), (boo false)]))), (@Mem.mk (((1 + 1) + 1) + 1) (((((0 + 1) + 1) + 1) + 1) + 1) ((some (@Blk.mk [(boo (eqI ((l.getD (k).toNat tok0)).kind (3 : Int)))] 4 none)) :: [(some (@Blk.mk ((@AV.lit (@Value.string ((l.getD (k).toNat tok0)).text)) :: (@AV.view (H).length 3 (fun x732214 => (fun x219031 => (@AV.lit ([(@Value.int IntKind.i64 ((H.getD x732214 tok0)).kind), (@Value.string ((H.getD x732214 tok0)).text), (@Value.int IntKind.i64 ((H.getD x732214 tok0)).n)].getD x219031 (@Value.tuple (@Array.mk _ []))))))) :: (@List.drop _ (1 + ([(@AV.view (H).length 3 (fun x688867 => (fun x732644 => (@AV.lit ([(@Value.int IntKind.i64 ((H.getD x688867 tok0)).kind), (@Value.string ((H.getD x688867 tok0)).text), (@Value.int IntKind.i64 ((H.getD x688867 tok0)).n)].getD x732644 (@Value.tuple (@Array.mk _ [])))))))]).length) [(@AV.lit (@Value.string ((l.getD (k).toNat tok0)).text)), (@AV.lit (@Value.slice none 0 0)), (@AV.lit (@Value.slice none 0 0)), (boo false)])) 76 none)), (some (@Blk.mk ((@AV.lit (@Value.string ((l.getD (k).toNat tok0)).text)) :: (@AV.view (H).length 3 (fun x255105 => (fun x844833 => (@AV.lit ([(@Value.int IntKind.i64 ((H.getD x255105 tok0)).kind), (@Value.string ((H.getD x255105 tok0)).text), (@Value.int IntKind.i64 ((H.getD x255105 tok0)).n)].getD x844833 (@Value.tuple (@Array.mk _ []))))))) :: [(@AV.lit (@Value.slice none 0 0)), (boo false)]) 76 none)), (some (@Blk.mk ((@AV.view (l).length 3 (fun x664050 => (fun x326174 => (@AV.lit ([(@Value.int IntKind.i64 ((l.getD x664050 tok0)).kind), (@Value.string ((l.getD x664050 tok0)).text), (@Value.int IntKind.i64 ((l.getD x664050 tok0)).n)].getD x326174 (@Value.tuple (@Array.mk _ []))))))) :: ((int ((E : Nat) : Int)) :: (@List.drop _ 1 [(int (w64 (k + (1 : Int))))]))) 85 none))])))) (.need (@inR ((E : Nat) : Int) (l).length) (.fork (eqI ((l.getD (((E : Nat) : Int)).toNat tok0)).kind (11 : Int)) (.leaf ((@AV.agg (@List.take _ 4 ((@AV.lit (@Value.string ((l.getD (k).toNat tok0)).text)) :: (@AV.view (H).length 3 (fun x583027 => (fun x365983 => (@AV.lit ([(@Value.int IntKind.i64 ((H.getD x583027 tok0)).kind), (@Value.string ((H.getD x583027 tok0)).text), (@Value.int IntKind.i64 ((H.getD x583027 tok0)).n)].getD x365983 (@Value.tuple (@Array.mk _ []))))))) :: [(@AV.lit (@Value.slice none 0 0)), (boo false)]))), (@Mem.mk (((1 + 1) + 1) + 1) ((((((0 + 1) + 1) + 1) + 1) + 1) + 1) ((some (@Blk.mk [(boo (eqI ((l.getD (k).toNat tok0)).kind (3 : Int)))] 4 none)) :: [(some (@Blk.mk ((@AV.lit (@Value.string ((l.getD (k).toNat tok0)).text)) :: (@AV.view (H).length 3 (fun x288684 => (fun x587697 => (@AV.lit ([(@Value.int IntKind.i64 ((H.getD x288684 tok0)).kind), (@Value.string ((H.getD x288684 tok0)).text), (@Value.int IntKind.i64 ((H.getD x288684 tok0)).n)].getD x587697 (@Value.tuple (@Array.mk _ []))))))) :: (@List.drop _ (1 + ([(@AV.view (H).length 3 (fun x120633 => (fun x360238 => (@AV.lit ([(@Value.int IntKind.i64 ((H.getD x120633 tok0)).kind), (@Value.string ((H.getD x120633 tok0)).text), (@Value.int IntKind.i64 ((H.getD x120633 tok0)).n)].getD x360238 (@Value.tuple (@Array.mk _ [])))))))]).length) [(@AV.lit (@Value.string ((l.getD (k).toNat tok0)).text)), (@AV.lit (@Value.slice none 0 0)), (@AV.lit (@Value.slice none 0 0)), (boo false)])) 76 none)), (some (@Blk.mk ((@AV.lit (@Value.string ((l.getD (k).toNat tok0)).text)) :: (@AV.view (H).length 3 (fun x896186 => (fun x79867 => (@AV.lit ([(@Value.int IntKind.i64 ((H.getD x896186 tok0)).kind), (@Value.string ((H.getD x896186 tok0)).text), (@Value.int IntKind.i64 ((H.getD x896186 tok0)).n)].getD x79867 (@Value.tuple (@Array.mk _ []))))))) :: [(@AV.lit (@Value.slice none 0 0)), (boo false)]) 76 none)), (some (@Blk.mk ((@AV.view (l).length 3 (fun x804608 => (fun x363768 => (@AV.lit ([(@Value.int IntKind.i64 ((l.getD x804608 tok0)).kind), (@Value.string ((l.getD x804608 tok0)).text), (@Value.int IntKind.i64 ((l.getD x804608 tok0)).n)].getD x363768 (@Value.tuple (@Array.mk _ []))))))) :: ((int (w64 (((E : Nat) : Int) + (1 : Int)))) :: (@List.drop _ 1 ((int ((E : Nat) : Int)) :: (@List.drop _ 1 [(int (w64 (k + (1 : Int))))]))))) 85 none))])))) (.need (@isSo (@And ([(@AV.view (l).length 3 (fun x816311 => (fun x485872 => (@AV.lit ([(@Value.int IntKind.i64 ((l.getD x816311 tok0)).kind), (@Value.string ((l.getD x816311 tok0)).text), (@Value.int IntKind.i64 ((l.getD x816311 tok0)).n)].getD x485872 (@Value.tuple (@Array.mk _ []))))))), (int ((E : Nat) : Int))] = [(@AV.view (l).length 3 (fun x672232 => (fun x774933 => (@AV.lit ([(@Value.int IntKind.i64 ((l.getD x672232 tok0)).kind), (@Value.string ((l.getD x672232 tok0)).text), (@Value.int IntKind.i64 ((l.getD x672232 tok0)).n)].getD x774933 (@Value.tuple (@Array.mk _ []))))))), (int ((E : Nat) : Int))]) ((l).length ≤ 17592186044416))) (.need ((leI (0 : Int) (w64 (((E : Nat) : Int) + (1 : Int)))) && ((leI (w64 (((E : Nat) : Int) + (1 : Int))) (@mtI l ((E : Nat) : Int))) && (leI (@mtI l ((E : Nat) : Int)) (((l).length : Nat) : Int)))) (.need (@isSo (@And ([(@AV.view (((@mtI l ((E : Nat) : Int))).toNat - ((w64 (((E : Nat) : Int) + (1 : Int)))).toNat) 3 (fun x830189 => (fun x279274 => (@AV.lit ([(@Value.int IntKind.i64 ((l.getD (((w64 (((E : Nat) : Int) + (1 : Int)))).toNat + x830189) tok0)).kind), (@Value.string ((l.getD (((w64 (((E : Nat) : Int) + (1 : Int)))).toNat + x830189) tok0)).text), (@Value.int IntKind.i64 ((l.getD (((w64 (((E : Nat) : Int) + (1 : Int)))).toNat + x830189) tok0)).n)].getD x279274 (@Value.tuple (@Array.mk _ [])))))))] = [(@AV.view n2 3 (fun x253051 => (fun x607151 => (@AV.lit ([(@Value.int IntKind.i64 ((l.getD ((E + 1) + x253051) tok0)).kind), (@Value.string ((l.getD ((E + 1) + x253051) tok0)).text), (@Value.int IntKind.i64 ((l.getD ((E + 1) + x253051) tok0)).n)].getD x607151 (@Value.tuple (@Array.mk _ [])))))))]) (@And (@And ((l).length ≤ 100000) (((E + 1) + n2) ≤ (l).length)) (B = (@List.take _ n2 (@List.drop _ (E + 1) l)))))) (.leaf ((@AV.agg (@List.take _ 4 [(@AV.lit (@Value.string ((l.getD (k).toNat tok0)).text)), (@AV.view (H).length 3 (fun x472740 => (fun x112452 => (@AV.lit ([(@Value.int IntKind.i64 ((H.getD x472740 tok0)).kind), (@Value.string ((H.getD x472740 tok0)).text), (@Value.int IntKind.i64 ((H.getD x472740 tok0)).n)].getD x112452 (@Value.tuple (@Array.mk _ []))))))), (@AV.view (B).length 3 (fun x143089 => (fun x209270 => (@AV.lit ([(@Value.int IntKind.i64 ((B.getD x143089 tok0)).kind), (@Value.string ((B.getD x143089 tok0)).text), (@Value.int IntKind.i64 ((B.getD x143089 tok0)).n)].getD x209270 (@Value.tuple (@Array.mk _ []))))))), (boo true)])), (@Mem.mk (((1 + 1) + 1) + 1) ((((((((0 + 1) + 1) + 1) + 1) + 1) + 1) + 1) + 1) ((some (@Blk.mk [(boo (eqI ((l.getD (k).toNat tok0)).kind (3 : Int)))] 4 none)) :: [(some (@Blk.mk ((@AV.lit (@Value.string ((l.getD (k).toNat tok0)).text)) :: (@AV.view (H).length 3 (fun x743434 => (fun x41523 => (@AV.lit ([(@Value.int IntKind.i64 ((H.getD x743434 tok0)).kind), (@Value.string ((H.getD x743434 tok0)).text), (@Value.int IntKind.i64 ((H.getD x743434 tok0)).n)].getD x41523 (@Value.tuple (@Array.mk _ []))))))) :: (@AV.view (B).length 3 (fun x863264 => (fun x395608 => (@AV.lit ([(@Value.int IntKind.i64 ((B.getD x863264 tok0)).kind), (@Value.string ((B.getD x863264 tok0)).text), (@Value.int IntKind.i64 ((B.getD x863264 tok0)).n)].getD x395608 (@Value.tuple (@Array.mk _ []))))))) :: (boo true) :: (@List.drop _ 4 ((@AV.lit (@Value.string ((l.getD (k).toNat tok0)).text)) :: (@AV.view (H).length 3 (fun x893221 => (fun x960989 => (@AV.lit ([(@Value.int IntKind.i64 ((H.getD x893221 tok0)).kind), (@Value.string ((H.getD x893221 tok0)).text), (@Value.int IntKind.i64 ((H.getD x893221 tok0)).n)].getD x960989 (@Value.tuple (@Array.mk _ []))))))) :: (@AV.view (B).length 3 (fun x389038 => (fun x169207 => (@AV.lit ([(@Value.int IntKind.i64 ((B.getD x389038 tok0)).kind), (@Value.string ((B.getD x389038 tok0)).text), (@Value.int IntKind.i64 ((B.getD x389038 tok0)).n)].getD x169207 (@Value.tuple (@Array.mk _ []))))))) :: (@List.drop _ (2 + ([(@AV.view (B).length 3 (fun x351419 => (fun x665788 => (@AV.lit ([(@Value.int IntKind.i64 ((B.getD x351419 tok0)).kind), (@Value.string ((B.getD x351419 tok0)).text), (@Value.int IntKind.i64 ((B.getD x351419 tok0)).n)].getD x665788 (@Value.tuple (@Array.mk _ [])))))))]).length) ((@AV.lit (@Value.string ((l.getD (k).toNat tok0)).text)) :: (@AV.view (H).length 3 (fun x249065 => (fun x274729 => (@AV.lit ([(@Value.int IntKind.i64 ((H.getD x249065 tok0)).kind), (@Value.string ((H.getD x249065 tok0)).text), (@Value.int IntKind.i64 ((H.getD x249065 tok0)).n)].getD x274729 (@Value.tuple (@Array.mk _ []))))))) :: (@List.drop _ (1 + ([(@AV.view (H).length 3 (fun x7250 => (fun x690790 => (@AV.lit ([(@Value.int IntKind.i64 ((H.getD x7250 tok0)).kind), (@Value.string ((H.getD x7250 tok0)).text), (@Value.int IntKind.i64 ((H.getD x7250 tok0)).n)].getD x690790 (@Value.tuple (@Array.mk _ [])))))))]).length) [(@AV.lit (@Value.string ((l.getD (k).toNat tok0)).text)), (@AV.lit (@Value.slice none 0 0)), (@AV.lit (@Value.slice none 0 0)), (boo false)])))))) 76 none)), (some (@Blk.mk [(@AV.lit (@Value.string ((l.getD (k).toNat tok0)).text)), (@AV.view (H).length 3 (fun x986711 => (fun x593488 => (@AV.lit ([(@Value.int IntKind.i64 ((H.getD x986711 tok0)).kind), (@Value.string ((H.getD x986711 tok0)).text), (@Value.int IntKind.i64 ((H.getD x986711 tok0)).n)].getD x593488 (@Value.tuple (@Array.mk _ []))))))), (@AV.view (B).length 3 (fun x204488 => (fun x79173 => (@AV.lit ([(@Value.int IntKind.i64 ((B.getD x204488 tok0)).kind), (@Value.string ((B.getD x204488 tok0)).text), (@Value.int IntKind.i64 ((B.getD x204488 tok0)).n)].getD x79173 (@Value.tuple (@Array.mk _ []))))))), (boo true)] 76 none)), (some (@Blk.mk ((@AV.view (l).length 3 (fun x587085 => (fun x698890 => (@AV.lit ([(@Value.int IntKind.i64 ((l.getD x587085 tok0)).kind), (@Value.string ((l.getD x587085 tok0)).text), (@Value.int IntKind.i64 ((l.getD x587085 tok0)).n)].getD x698890 (@Value.tuple (@Array.mk _ []))))))) :: ((int (if ((((l).length : Nat) : Int) < (w64 ((@mtI l ((E : Nat) : Int)) + (1 : Int)))) then (((l).length : Nat) : Int) else (w64 ((@mtI l ((E : Nat) : Int)) + (1 : Int))))) :: (@List.drop _ 1 ((int ((E : Nat) : Int)) :: (@List.drop _ 1 [(int (w64 (k + (1 : Int))))]))))) 85 none))])))))))))))))) (.need (@isSo (@And (@Conv (@Mem.mk (((1 + 1) + 1) + 1) 0 [(some (@Blk.mk [(boo (eqI ((l.getD (k).toNat tok0)).kind (3 : Int)))] 4 none)), (some (@Blk.mk [(@AV.lit (@Value.string (@ByteArray.mk (@Array.mk _ [])))), (@AV.lit (@Value.slice none 0 0)), (@AV.lit (@Value.slice none 0 0)), (boo false)] 76 none)), (some (@Blk.mk [(@AV.lit (@Value.string (@ByteArray.mk (@Array.mk _ [])))), (@AV.lit (@Value.slice none 0 0)), (@AV.lit (@Value.slice none 0 0)), (boo false)] 76 none)), (some (@Blk.mk [(@AV.view (l).length 3 (fun x523638 => (fun x180034 => (@AV.lit ([(@Value.int IntKind.i64 ((l.getD x523638 tok0)).kind), (@Value.string ((l.getD x523638 tok0)).text), (@Value.int IntKind.i64 ((l.getD x523638 tok0)).n)].getD x180034 (@Value.tuple (@Array.mk _ []))))))), (int k)] 85 none))]) [(@AV.view (l).length 3 (fun x236259 => (fun x972836 => (@AV.lit ([(@Value.int IntKind.i64 ((l.getD x236259 tok0)).kind), (@Value.string ((l.getD x236259 tok0)).text), (@Value.int IntKind.i64 ((l.getD x236259 tok0)).n)].getD x972836 (@Value.tuple (@Array.mk _ []))))))), (int k), (@AV.fn (@Fn.func 136) [] [(@AV.ptr ((1 + 1) + 1) 0)])] [(@AV.view (l).length 3 (fun x327596 => (fun x895329 => (@AV.lit ([(@Value.int IntKind.i64 ((l.getD x327596 tok0)).kind), (@Value.string ((l.getD x327596 tok0)).text), (@Value.int IntKind.i64 ((l.getD x327596 tok0)).n)].getD x895329 (@Value.tuple (@Array.mk _ []))))))), (int ((lo : Nat) : Int)), (@AV.fn (@Fn.func 136) [] [(@AV.vptr 1 (fun x455570 => (boo is)))])]) (@And (@And ((l).length ≤ 17592186044416) (lo ≤ (l).length)) (E = (@tops (@endB is) l lo))))) (.need ((leI (0 : Int) k) && ((leI k ((E : Nat) : Int)) && (leI ((E : Nat) : Int) (((l).length : Nat) : Int)))) (.need (@isSo (@And ([(@AV.view ((((E : Nat) : Int)).toNat - (k).toNat) 3 (fun x954302 => (fun x451575 => (@AV.lit ([(@Value.int IntKind.i64 ((l.getD ((k).toNat + x954302) tok0)).kind), (@Value.string ((l.getD ((k).toNat + x954302) tok0)).text), (@Value.int IntKind.i64 ((l.getD ((k).toNat + x954302) tok0)).n)].getD x451575 (@Value.tuple (@Array.mk _ [])))))))] = [(@AV.view n 3 (fun x926443 => (fun x807080 => (@AV.lit ([(@Value.int IntKind.i64 ((l.getD (lo + x926443) tok0)).kind), (@Value.string ((l.getD (lo + x926443) tok0)).text), (@Value.int IntKind.i64 ((l.getD (lo + x926443) tok0)).n)].getD x807080 (@Value.tuple (@Array.mk _ [])))))))]) (@And (@And ((l).length ≤ 100000) ((lo + n) ≤ (l).length)) (H = (@trim (@List.take _ n (@List.drop _ lo l))))))) (.fork (eqI ((E : Nat) : Int) (((l).length : Nat) : Int)) (.leaf ((@AV.agg [(@AV.lit (@Value.string (@ByteArray.mk (@Array.mk _ [])))), (@AV.view (H).length 3 (fun x44559 => (fun x429868 => (@AV.lit ([(@Value.int IntKind.i64 ((H.getD x44559 tok0)).kind), (@Value.string ((H.getD x44559 tok0)).text), (@Value.int IntKind.i64 ((H.getD x44559 tok0)).n)].getD x429868 (@Value.tuple (@Array.mk _ []))))))), (@AV.lit (@Value.slice none 0 0)), (boo false)]), (@Mem.mk (((1 + 1) + 1) + 1) (((0 + 1) + 1) + 1) [(some (@Blk.mk [(boo (eqI ((l.getD (k).toNat tok0)).kind (3 : Int)))] 4 none)), (some (@Blk.mk [(@AV.lit (@Value.string (@ByteArray.mk (@Array.mk _ [])))), (@AV.view (H).length 3 (fun x218492 => (fun x642409 => (@AV.lit ([(@Value.int IntKind.i64 ((H.getD x218492 tok0)).kind), (@Value.string ((H.getD x218492 tok0)).text), (@Value.int IntKind.i64 ((H.getD x218492 tok0)).n)].getD x642409 (@Value.tuple (@Array.mk _ []))))))), (@AV.lit (@Value.slice none 0 0)), (boo false)] 76 none)), (some (@Blk.mk [(@AV.lit (@Value.string (@ByteArray.mk (@Array.mk _ [])))), (@AV.view (H).length 3 (fun x299966 => (fun x69802 => (@AV.lit ([(@Value.int IntKind.i64 ((H.getD x299966 tok0)).kind), (@Value.string ((H.getD x299966 tok0)).text), (@Value.int IntKind.i64 ((H.getD x299966 tok0)).n)].getD x69802 (@Value.tuple (@Array.mk _ []))))))), (@AV.lit (@Value.slice none 0 0)), (boo false)] 76 none)), (some (@Blk.mk ((@AV.view (l).length 3 (fun x871355 => (fun x888944 => (@AV.lit ([(@Value.int IntKind.i64 ((l.getD x871355 tok0)).kind), (@Value.string ((l.getD x871355 tok0)).text), (@Value.int IntKind.i64 ((l.getD x871355 tok0)).n)].getD x888944 (@Value.tuple (@Array.mk _ []))))))) :: [(int ((E : Nat) : Int))]) 85 none))]))) (.need (@inR ((E : Nat) : Int) (l).length) (.fork (eqI ((l.getD (((E : Nat) : Int)).toNat tok0)).kind (11 : Int)) (.leaf ((@AV.agg [(@AV.lit (@Value.string (@ByteArray.mk (@Array.mk _ [])))), (@AV.view (H).length 3 (fun x639174 => (fun x611927 => (@AV.lit ([(@Value.int IntKind.i64 ((H.getD x639174 tok0)).kind), (@Value.string ((H.getD x639174 tok0)).text), (@Value.int IntKind.i64 ((H.getD x639174 tok0)).n)].getD x611927 (@Value.tuple (@Array.mk _ []))))))), (@AV.lit (@Value.slice none 0 0)), (boo false)]), (@Mem.mk (((1 + 1) + 1) + 1) ((((0 + 1) + 1) + 1) + 1) [(some (@Blk.mk [(boo (eqI ((l.getD (k).toNat tok0)).kind (3 : Int)))] 4 none)), (some (@Blk.mk [(@AV.lit (@Value.string (@ByteArray.mk (@Array.mk _ [])))), (@AV.view (H).length 3 (fun x226163 => (fun x589320 => (@AV.lit ([(@Value.int IntKind.i64 ((H.getD x226163 tok0)).kind), (@Value.string ((H.getD x226163 tok0)).text), (@Value.int IntKind.i64 ((H.getD x226163 tok0)).n)].getD x589320 (@Value.tuple (@Array.mk _ []))))))), (@AV.lit (@Value.slice none 0 0)), (boo false)] 76 none)), (some (@Blk.mk [(@AV.lit (@Value.string (@ByteArray.mk (@Array.mk _ [])))), (@AV.view (H).length 3 (fun x293941 => (fun x355341 => (@AV.lit ([(@Value.int IntKind.i64 ((H.getD x293941 tok0)).kind), (@Value.string ((H.getD x293941 tok0)).text), (@Value.int IntKind.i64 ((H.getD x293941 tok0)).n)].getD x355341 (@Value.tuple (@Array.mk _ []))))))), (@AV.lit (@Value.slice none 0 0)), (boo false)] 76 none)), (some (@Blk.mk ((@AV.view (l).length 3 (fun x708954 => (fun x738627 => (@AV.lit ([(@Value.int IntKind.i64 ((l.getD x708954 tok0)).kind), (@Value.string ((l.getD x708954 tok0)).text), (@Value.int IntKind.i64 ((l.getD x708954 tok0)).n)].getD x738627 (@Value.tuple (@Array.mk _ []))))))) :: ((int (w64 (((E : Nat) : Int) + (1 : Int)))) :: (@List.drop _ 1 [(int ((E : Nat) : Int))]))) 85 none))]))) (.need (@isSo (@And ([(@AV.view (l).length 3 (fun x757349 => (fun x754477 => (@AV.lit ([(@Value.int IntKind.i64 ((l.getD x757349 tok0)).kind), (@Value.string ((l.getD x757349 tok0)).text), (@Value.int IntKind.i64 ((l.getD x757349 tok0)).n)].getD x754477 (@Value.tuple (@Array.mk _ []))))))), (int ((E : Nat) : Int))] = [(@AV.view (l).length 3 (fun x741562 => (fun x658502 => (@AV.lit ([(@Value.int IntKind.i64 ((l.getD x741562 tok0)).kind), (@Value.string ((l.getD x741562 tok0)).text), (@Value.int IntKind.i64 ((l.getD x741562 tok0)).n)].getD x658502 (@Value.tuple (@Array.mk _ []))))))), (int ((E : Nat) : Int))]) ((l).length ≤ 17592186044416))) (.need ((leI (0 : Int) (w64 (((E : Nat) : Int) + (1 : Int)))) && ((leI (w64 (((E : Nat) : Int) + (1 : Int))) (@mtI l ((E : Nat) : Int))) && (leI (@mtI l ((E : Nat) : Int)) (((l).length : Nat) : Int)))) (.need (@isSo (@And ([(@AV.view (((@mtI l ((E : Nat) : Int))).toNat - ((w64 (((E : Nat) : Int) + (1 : Int)))).toNat) 3 (fun x181343 => (fun x657908 => (@AV.lit ([(@Value.int IntKind.i64 ((l.getD (((w64 (((E : Nat) : Int) + (1 : Int)))).toNat + x181343) tok0)).kind), (@Value.string ((l.getD (((w64 (((E : Nat) : Int) + (1 : Int)))).toNat + x181343) tok0)).text), (@Value.int IntKind.i64 ((l.getD (((w64 (((E : Nat) : Int) + (1 : Int)))).toNat + x181343) tok0)).n)].getD x657908 (@Value.tuple (@Array.mk _ [])))))))] = [(@AV.view n2 3 (fun x616500 => (fun x842417 => (@AV.lit ([(@Value.int IntKind.i64 ((l.getD ((E + 1) + x616500) tok0)).kind), (@Value.string ((l.getD ((E + 1) + x616500) tok0)).text), (@Value.int IntKind.i64 ((l.getD ((E + 1) + x616500) tok0)).n)].getD x842417 (@Value.tuple (@Array.mk _ [])))))))]) (@And (@And ((l).length ≤ 100000) (((E + 1) + n2) ≤ (l).length)) (B = (@List.take _ n2 (@List.drop _ (E + 1) l)))))) (.leaf ((@AV.agg [(@AV.lit (@Value.string (@ByteArray.mk (@Array.mk _ [])))), (@AV.view (H).length 3 (fun x459446 => (fun x371098 => (@AV.lit ([(@Value.int IntKind.i64 ((H.getD x459446 tok0)).kind), (@Value.string ((H.getD x459446 tok0)).text), (@Value.int IntKind.i64 ((H.getD x459446 tok0)).n)].getD x371098 (@Value.tuple (@Array.mk _ []))))))), (@AV.view (B).length 3 (fun x839075 => (fun x811471 => (@AV.lit ([(@Value.int IntKind.i64 ((B.getD x839075 tok0)).kind), (@Value.string ((B.getD x839075 tok0)).text), (@Value.int IntKind.i64 ((B.getD x839075 tok0)).n)].getD x811471 (@Value.tuple (@Array.mk _ []))))))), (boo true)]), (@Mem.mk (((1 + 1) + 1) + 1) ((((((0 + 1) + 1) + 1) + 1) + 1) + 1) [(some (@Blk.mk [(boo (eqI ((l.getD (k).toNat tok0)).kind (3 : Int)))] 4 none)), (some (@Blk.mk [(@AV.lit (@Value.string (@ByteArray.mk (@Array.mk _ [])))), (@AV.view (H).length 3 (fun x547864 => (fun x961301 => (@AV.lit ([(@Value.int IntKind.i64 ((H.getD x547864 tok0)).kind), (@Value.string ((H.getD x547864 tok0)).text), (@Value.int IntKind.i64 ((H.getD x547864 tok0)).n)].getD x961301 (@Value.tuple (@Array.mk _ []))))))), (@AV.view (B).length 3 (fun x926525 => (fun x548734 => (@AV.lit ([(@Value.int IntKind.i64 ((B.getD x926525 tok0)).kind), (@Value.string ((B.getD x926525 tok0)).text), (@Value.int IntKind.i64 ((B.getD x926525 tok0)).n)].getD x548734 (@Value.tuple (@Array.mk _ []))))))), (boo true)] 76 none)), (some (@Blk.mk [(@AV.lit (@Value.string (@ByteArray.mk (@Array.mk _ [])))), (@AV.view (H).length 3 (fun x977719 => (fun x276795 => (@AV.lit ([(@Value.int IntKind.i64 ((H.getD x977719 tok0)).kind), (@Value.string ((H.getD x977719 tok0)).text), (@Value.int IntKind.i64 ((H.getD x977719 tok0)).n)].getD x276795 (@Value.tuple (@Array.mk _ []))))))), (@AV.view (B).length 3 (fun x533692 => (fun x655524 => (@AV.lit ([(@Value.int IntKind.i64 ((B.getD x533692 tok0)).kind), (@Value.string ((B.getD x533692 tok0)).text), (@Value.int IntKind.i64 ((B.getD x533692 tok0)).n)].getD x655524 (@Value.tuple (@Array.mk _ []))))))), (boo true)] 76 none)), (some (@Blk.mk ((@AV.view (l).length 3 (fun x698521 => (fun x849074 => (@AV.lit ([(@Value.int IntKind.i64 ((l.getD x698521 tok0)).kind), (@Value.string ((l.getD x698521 tok0)).text), (@Value.int IntKind.i64 ((l.getD x698521 tok0)).n)].getD x849074 (@Value.tuple (@Array.mk _ []))))))) :: ((int (if ((((l).length : Nat) : Int) < (w64 ((@mtI l ((E : Nat) : Int)) + (1 : Int)))) then (((l).length : Nat) : Int) else (w64 ((@mtI l ((E : Nat) : Int)) + (1 : Int))))) :: (@List.drop _ 1 [(int ((E : Nat) : Int))]))) 85 none))])))))))))))))) (by kernel_rfl) (G := fun r => Sub r.1 (rawA (ruleT l κ).1) ∧ r.2.get 0 = some (scB (kv l) ((ruleT l κ).2 : Nat))) ?_).mono fun v M' h => h
  have bnd : (leI (0 : Int) ((lo : Nat) : Int) && (leI ((lo : Nat) : Int) ((E : Nat) : Int) && leI ((E : Nat) : Int) ((l.length : Nat) : Int))) = true := by
    simp only [Bool.and_eq_true, leI_t]; omega
  have nE : (if ((l.length : Nat) : Int) < w64 (mtI l (E : Nat) + 1) then ((l.length : Nat) : Int) else w64 (mtI l (E : Nat) + 1)) = (nxt l E : Nat) ∨ l.length ≤ E := by
    rcases Nat.lt_or_ge E l.length with h | h
    · left
      have := mt_le h
      rw [mE, w64_in (r := (mt l E : Int) + 1) (by omega)]
      unfold nxt
      split <;> omega
    · exact .inr h
  rw [tk]
  refine need_t hr (fork_ok (fun q1 => need_t hr ?_) (fun q1 => ?_))
  · have q1' : is = true := by rw [← hk3]; exact q1
    have hw : w64 (k + 1) = ((lo : Nat) : Int) := by
      rw [hlo', if_pos q1', ← hκ]
      exact w64_in (by omega)
    rw [if_pos q1'] at nm
    rw [hw]
    refine need_so ⟨Conv.cons (Conv1.free _ (kv_free l)) (Conv.cons (Conv1.lit _ _) (Conv.cons (conv_fn rfl is ?_) (Conv.nil _))), ⟨hl.lim, hl1.2⟩, hE'⟩ (need_t bnd (need_so ⟨?_, ⟨hl, by omega⟩, hH2⟩ (fork_ok (fun q2 => ?_) (fun q2 => ?_))))
    · rw [hk3]
    · rw [hn]; rfl
    · rw [heq, decide_eq_true_eq] at q2
      exact rule_leaf (r1 q2) (by rw [nm]; exact rawA_no _ _) rfl
    · rw [heq, decide_eq_false_iff_not] at q2
      have hrE : inR ((E : Nat) : Int) l.length = true := by rw [inR_t]; omega
      rw [tE, wE hl2.2]
      refine need_t hrE (fork_ok (fun q3 => ?_) (fun q3 => ?_))
      · exact rule_leaf (r2 q2 q3) (by rw [nm]; exact rawA_no _ _) rfl
      · have q3' : ¬ eqI (tokAt l E).kind 11 = true := by rw [Bool.not_eq_true]; exact q3
        have hm := hmt q2 q3'
        have nE' := nE.resolve_right (by omega)
        rw [nE', mE]
        have bn2 : (leI (0 : Int) ((E + 1 : Nat) : Int) && (leI ((E + 1 : Nat) : Int) ((mt l E : Nat) : Int) && leI ((mt l E : Nat) : Int) ((l.length : Nat) : Int))) = true := by
          simp only [Bool.and_eq_true, leI_t]; omega
        refine need_so ⟨rfl, hl.lim⟩ (need_t bn2 (need_so ⟨?_, ⟨hl, by omega⟩, hB2⟩ ?_))
        · rw [hn2]; rfl
        · exact rule_leaf (r3 q2 q3') (by rw [nm]; exact Sub.refl _) rfl
  · have q1' : is = false := by rw [← hk3]; exact q1
    have hw : k = ((lo : Nat) : Int) := by
      rw [hlo', q1', ← hκ]; rfl
    rw [q1'] at nm
    have nm' : nameOf l κ = ⟨#[]⟩ := nm
    clear nm
    have nm := nm'
    subst hw
    refine need_so ⟨Conv.cons (Conv1.free _ (kv_free l)) (Conv.cons (Conv1.lit _ _) (Conv.cons (conv_fn rfl is ?_) (Conv.nil _))), ⟨hl.lim, hl1.2⟩, hE'⟩ (need_t bnd (need_so ⟨?_, ⟨hl, by omega⟩, hH2⟩ (fork_ok (fun q2 => ?_) (fun q2 => ?_))))
    · rw [hk3]
    · rw [hn]; rfl
    · rw [heq, decide_eq_true_eq] at q2
      exact rule_leaf (r1 q2) (by rw [nm]; exact rawA_no _ _) rfl
    · rw [heq, decide_eq_false_iff_not] at q2
      have hrE : inR ((E : Nat) : Int) l.length = true := by rw [inR_t]; omega
      rw [tE, wE hl2.2]
      refine need_t hrE (fork_ok (fun q3 => ?_) (fun q3 => ?_))
      · exact rule_leaf (r2 q2 q3) (by rw [nm]; exact rawA_no _ _) rfl
      · have q3' : ¬ eqI (tokAt l E).kind 11 = true := by rw [Bool.not_eq_true]; exact q3
        have hm := hmt q2 q3'
        have nE' := nE.resolve_right (by omega)
        rw [nE', mE]
        have bn2 : (leI (0 : Int) ((E + 1 : Nat) : Int) && (leI ((E + 1 : Nat) : Int) ((mt l E : Nat) : Int) && leI ((mt l E : Nat) : Int) ((l.length : Nat) : Int))) = true := by
          simp only [Bool.and_eq_true, leI_t]; omega
        refine need_so ⟨rfl, hl.lim⟩ (need_t bn2 (need_so ⟨?_, ⟨hl, by omega⟩, hB2⟩ ?_))
        · rw [hn2]; rfl
        · exact rule_leaf (r3 q2 q3') (by rw [nm]; exact Sub.refl _) rfl
end Go.Proofs.Ytjljlcflmcjapaa
