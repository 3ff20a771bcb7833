/-
  Layer 6: Closed; and the law SyntaxGoesOn, walked.
-/
import Derived.Test.YtjljlcflmcjapaaGoesPlain
import Derived.Test.YtjljlcflmcjapaaDeclS1
import Derived.Test.YtjljlcflmcjapaaKnown06
namespace Go.Proofs.Ytjljlcflmcjapaa
open Go Go.RowKit Pl
set_option linter.unusedVariables false
set_option linter.unusedSimpArgs false
/-sy clo_p
fun (l : List TokV) (d : D) => Sy.probeV SyTool.probe [Sy.cMatchR l] 400 30 33 [Sy.kv l] Sy.M0 d
-/
namespace Sy
abbrev clF (l : List TokV) (i : Int) (b : Bool) : Fr := [some ((@AV.view (l).length 3 (fun x864417 => (fun x781353 => (@AV.lit ([(@Value.int IntKind.i64 ((l.getD x864417 tok0)).kind), (@Value.string ((l.getD x864417 tok0)).text), (@Value.int IntKind.i64 ((l.getD x864417 tok0)).n)].getD x781353 (@Value.tuple (@Array.mk _ [])))))))), none, some (boo b), some (int i), none, none, none, none, none, none, none, none, none, none, none, none, none, none]
end Sy
/-sy clo_r
fun (l : List TokV) (i : Int) (d : D) => Sy.reckL [Sy.cMatchR l] [] 400 30 33 3 [true, false, true, true, false, false, false, false, false, false, false, false, false, false, false, false, false, false] (Sy.clF l i false) Sy.M0 d
-/
section
open Sy
theorem Sy.clo_scan (l : List TokV) (hl : lim l) : ∀ i, LoopTo Try.prog (theBody Try.prog 33 3) (l.length - i + 1) (clF l i false) M0 fun ex F' M' => M' = M0 ∧ ((closedF l i < l.length ∧ ex = .ret ∧ F' = clF l (closedF l i : Nat) false) ∨ (l.length ≤ closedF l i ∧ ex = .exit 0 ∧ F' = clF l (closedF l i : Nat) false)) :=
  hopM l.length (fun j => decide (mt l j = l.length)) (fun j => mt l j + 1) (mt_gt l) (fun i => clF l i false) (fun i => clF l i false) (fun _ => M0) .ret (.exit 0) fun κ n G c1 c2 c3 => by
    generalize hκ : (κ : Int) = i at *
    refine roundL [cMatchR l] [] 400 30 33 3 Try.func33 rfl (by kernel_rfl) [true, false, true, true, false, false, false, false, false, false, false, false, false, false, false, false, false, false] (.br (.yes (.br .done .done)) .done) (.fork (!(leI (((l).length : Nat) : Int) i)) (.need (@isSo (@And ([(@AV.view (l).length 3 (fun x996079 => (fun x532067 => (@AV.lit ([(@Value.int IntKind.i64 ((l.getD x996079 tok0)).kind), (@Value.string ((l.getD x996079 tok0)).text), (@Value.int IntKind.i64 ((l.getD x996079 tok0)).n)].getD x532067 (@Value.tuple (@Array.mk _ []))))))), (int i)] = [(@AV.view (l).length 3 (fun x772378 => (fun x119686 => (@AV.lit ([(@Value.int IntKind.i64 ((l.getD x772378 tok0)).kind), (@Value.string ((l.getD x772378 tok0)).text), (@Value.int IntKind.i64 ((l.getD x772378 tok0)).n)].getD x119686 (@Value.tuple (@Array.mk _ []))))))), (int i)]) ((l).length ≤ 17592186044416))) (.fork (eqI (@mtI l i) (((l).length : Nat) : Int)) (.leaf (Ex.ret, ([(some (@AV.view (l).length 3 (fun x520180 => (fun x729311 => (@AV.lit ([(@Value.int IntKind.i64 ((l.getD x520180 tok0)).kind), (@Value.string ((l.getD x520180 tok0)).text), (@Value.int IntKind.i64 ((l.getD x520180 tok0)).n)].getD x729311 (@Value.tuple (@Array.mk _ [])))))))), none, (some (boo false)), (some (int i)), none, none, none, none, none, none, none, none, none, none, none, none, none, none], (@Mem.mk 0 0 [])))) (.leaf (Ex.norm, ([(some (@AV.view (l).length 3 (fun x381985 => (fun x421556 => (@AV.lit ([(@Value.int IntKind.i64 ((l.getD x381985 tok0)).kind), (@Value.string ((l.getD x381985 tok0)).text), (@Value.int IntKind.i64 ((l.getD x381985 tok0)).n)].getD x421556 (@Value.tuple (@Array.mk _ [])))))))), none, (some (boo false)), (some (int (w64 ((@mtI l i) + (1 : Int))))), none, none, none, none, none, none, none, none, none, none, none, none, none, none], (@Mem.mk 0 0 [])))))) (.leaf ((@Ex.exit 0), ([(some (@AV.view (l).length 3 (fun x976213 => (fun x493288 => (@AV.lit ([(@Value.int IntKind.i64 ((l.getD x976213 tok0)).kind), (@Value.string ((l.getD x976213 tok0)).text), (@Value.int IntKind.i64 ((l.getD x976213 tok0)).n)].getD x493288 (@Value.tuple (@Array.mk _ [])))))))), none, (some (boo false)), (some (int i)), none, none, none, none, none, none, none, none, none, none, none, none, none, none], (@Mem.mk 0 0 []))))) (by kernel_rfl) ?_
    have hl' : l.length ≤ 17592186044416 := hl
    refine fork_ok (fun h => ?_) (fun h => ?_)
    · simp only [Bool.not_eq_true', Bool.not_eq_false', leI_t, leI_f, eqI_t, eqI_f, inR_t, inR_f, isSo_t, isSo_f] at h
      have hk : κ < l.length := by omega
      have hm := mt_le hk
      have e1 : mtI l i = (mt l κ : Int) := by rw [← hκ]; exact (mt_int l κ).1
      refine need_so ⟨rfl, hl⟩ (fork_ok (fun h2 => ?_) (fun h2 => ?_))
      · simp only [Bool.not_eq_true', Bool.not_eq_false', leI_t, leI_f, eqI_t, eqI_f, inR_t, inR_f, isSo_t, isSo_f] at h2
        exact c2 hk (by rw [decide_eq_true_eq]; omega)
      · simp only [Bool.not_eq_true', Bool.not_eq_false', leI_t, leI_f, eqI_t, eqI_f, inR_t, inR_f, isSo_t, isSo_f] at h2
        have := c1 hk (by rw [decide_eq_false_iff_not]; omega)
        rw [show ((mt l κ + 1 : Nat) : Int) = w64 (mtI l i + 1) by rw [e1, w64_in (r := (mt l κ : Int) + 1) (by omega)]; omega] at this
        exact this
    · simp only [Bool.not_eq_true', Bool.not_eq_false', leI_t, leI_f, eqI_t, eqI_f, inR_t, inR_f, isSo_t, isSo_f] at h
      exact c3 (by omega)
namespace Sy
abbrev clE (l : List TokV) (b : Bool) : Fr := [some ((@AV.view (l).length 3 (fun x864417 => (fun x781353 => (@AV.lit ([(@Value.int IntKind.i64 ((l.getD x864417 tok0)).kind), (@Value.string ((l.getD x864417 tok0)).text), (@Value.int IntKind.i64 ((l.getD x864417 tok0)).n)].getD x781353 (@Value.tuple (@Array.mk _ [])))))))), none, some (boo b), none, none, none, none, none, none, none, none, none, none, none, none, none, none, none]
noncomputable abbrev lp_cl (l : List TokV) : Lp Try.prog where
  f := 33
  key := 3
  S := formS (fun F M => slotI F 3) (fun i => clF l i false) (fun _ => M0) (fun i => lim l ∧ i = 0) (fun i => .fork (!leI (l.length : Nat) (closedF l 0 : Nat)) (.leaf (.ret, clE l false, M0)) (.leaf (.exit 0, clE l false, M0))) [true, false, true, true, false, false, false, false, false, false, false, false, false, false, false, false, false, false]
  one := by kernel_rfl
  ok := formS_ok fun i ⟨h1, h2⟩ => by
    subst h2
    refine ⟨_, ((Sy.clo_scan l h1 0).out [true, false, true, false, false, false, false, false, false, false, false, false, false, false, false, false, false, false]).mono fun ex F M hg => ?_⟩
    obtain ⟨F0, ⟨rfl, hg⟩, rfl⟩ := hg
    rcases hg with ⟨q1, rfl, rfl⟩ | ⟨q1, rfl, rfl⟩
    · exact .inl ⟨by rw [Bool.not_eq_true', leI_f]; omega, rfl⟩
    · exact .inr ⟨by rw [Bool.not_eq_false', leI_t]; omega, rfl⟩
end Sy
/-sy clo_t
fun (l : List TokV) (d : D) => Sy.reckV [] [Sy.lp_cl l] 400 30 33 [Sy.kv l] Sy.M0 d
-/
theorem Sy.clo_t (l : List TokV) (hl : lim l) : CallTo Try.prog 33 [kv l] M0 fun v _ => v = boo (leI (l.length : Nat) (closedF l 0 : Nat)) :=
  toV [] [lp_cl l] 400 30 (.br .done .done) (.need (@isSo (@And (((some (@AV.view (l).length 3 (fun x300044 => (fun x688105 => (@AV.lit ([(@Value.int IntKind.i64 ((l.getD x300044 tok0)).kind), (@Value.string ((l.getD x300044 tok0)).text), (@Value.int IntKind.i64 ((l.getD x300044 tok0)).n)].getD x688105 (@Value.tuple (@Array.mk _ [])))))))) :: [none, (some (boo false)), (some (int (0 : Int))), none, none, none, none, none, none, none, none, none, none, none, none, none, none]) = [(some (@AV.view (l).length 3 (fun x523817 => (fun x647778 => (@AV.lit ([(@Value.int IntKind.i64 ((l.getD x523817 tok0)).kind), (@Value.string ((l.getD x523817 tok0)).text), (@Value.int IntKind.i64 ((l.getD x523817 tok0)).n)].getD x647778 (@Value.tuple (@Array.mk _ [])))))))), none, (some (boo false)), (some (int (0 : Int))), none, none, none, none, none, none, none, none, none, none, none, none, none, none]) ((@Mem.mk 0 0 []) = M0))) (.need (@isSo (@And ((l).length ≤ 17592186044416) ((0 : Int) = (0 : Int)))) (.fork (!(leI (((l).length : Nat) : Int) (((@closedF l 0) : Nat) : Int))) (.leaf (boo false)) (.leaf (boo true))))) (by kernel_rfl) (by
    refine need_so ⟨rfl, rfl⟩ (need_so ⟨hl, rfl⟩ (fork_ok (fun q => ?_) (fun q => ?_)))
    · rw [Bool.not_eq_true'] at q; rw [q]; rfl
    · rw [Bool.not_eq_false'] at q; rw [q]; rfl)
end
theorem closed_w {w : World} {a : Option Addr} {cap : Nat} {m : List TokV} (h : RToks w a cap m) :
    Calls Try.prog 33 #[.slice a m.length cap] w fun e w' => e = .returned (.bool (decide (m.length ≤ closedF m 0))) ∧ Below w.heap.size w w' := by
  refine (((Sy.clo_t m h.sm).mono fun v _ e => (⟨_, e, rfl⟩ : ∃ u, v = .lit u ∧ u = .bool (Sy.leI (m.length : Nat) (closedF m 0 : Nat)))).calls (us := [.slice a m.length cap]) ?_).mono ?_
  · simp only [Sy.rels]
    exact ⟨_, _, rfl, rel_kv h, rfl⟩
  · rintro e w' ⟨⟨u, rfl, rfl⟩, hb⟩
    refine ⟨?_, hb⟩
    rw [Sy.leI_eq]
    exact ret_bool (by rw [Bool.eq_iff_iff]; simp)
def semiT : TokV := ⟨11, ⟨#[]⟩, 0⟩
theorem declsT_len (l : List TokV) : (declsT l).length ≤ l.length + 1 := by
  unfold declsT
  exact Nat.le_trans (List.length_filterMap_le _ _) (pieces_n semiB _ l (Nat.le_refl _))
theorem ReadsD.len {w : World} {rs : List DRow} {ds : List DeclV} (h : ReadsD w rs ds) : rs.length = ds.length := by rw [← h.1]; simp
theorem ReadsD.app {w : World} {r1 r2 : List DRow} {d1 d2 : List DeclV} (h1 : ReadsD w r1 d1) (h2 : ReadsD w r2 d2) : ReadsD w (r1 ++ r2) (d1 ++ d2) :=
  ⟨by rw [List.map_append, h1.1, h2.1], fun r hr => by
    rcases List.mem_append.1 hr with hr | hr
    · exact h1.2 r hr
    · exact h2.2 r hr⟩
theorem own_goes {W : World} {B : Nat} {e : TypeId} {v : Value} {a b : List TokV} (s : TokV) (h : W.ownsRow B e 3 v (0 + a.length + 1 + b.length) ((([] ++ (a.map TokV.cells).flatten) ++ (#[.int .i64 s.kind, .string s.text, .int .i64 s.n] : Array Value).toList) ++ (b.map TokV.cells).flatten)) (hn : a.length + b.length ≤ 100000) :
    ∃ al cl, v = .slice al (a ++ s :: b).length cl ∧ RToks W al cl (a ++ s :: b) := by
  have e1 : 0 + a.length + 1 + b.length = (a ++ s :: b).length := by rw [List.length_append, List.length_cons]; omega
  have e2 : ((([] ++ (a.map TokV.cells).flatten) ++ (#[.int .i64 s.kind, .string s.text, .int .i64 s.n] : Array Value).toList) ++ (b.map TokV.cells).flatten) = ((a ++ s :: b).map TokV.cells).flatten := by
    simp [TokV.cells]
  rw [e1, e2] at h
  exact Rows.of_own (cells := TokV.cells) h (fun k hk j u hu => flat_get TokV.cells 3 _ (fun _ _ => rfl) k hk j u hu) (by rw [← e1]; omega)
theorem own_both {W : World} {B : Nat} {e : TypeId} {v : Value} {r1 r2 : List DRow} (h : W.ownsRow B e 3 v (0 + r1.length + r2.length) (([] ++ (r1.map DRow.cells).flatten) ++ (r2.map DRow.cells).flatten)) (hn : r1.length + r2.length ≤ 100000) :
    ∃ al cl, v = .slice al (r1 ++ r2).length cl ∧ RDecls W al cl (r1 ++ r2) := by
  have e1 : 0 + r1.length + r2.length = (r1 ++ r2).length := by rw [List.length_append]; omega
  have e2 : (([] ++ (r1.map DRow.cells).flatten) ++ (r2.map DRow.cells).flatten) = ((r1 ++ r2).map DRow.cells).flatten := by simp
  rw [e1, e2] at h
  exact Rows.of_own (cells := DRow.cells) h (fun k hk j u hu => flat_get DRow.cells 3 _ (fun _ _ => rfl) k hk j u hu) (by rw [← e1]; omega)
set_option maxRecDepth 4000 in
set_option maxHeartbeats 1000000 in
theorem goes_walk {w : World} {aa ab : Option Addr} {ca cb : Nat} {a b : List TokV} (ha : RToks w aa ca a) (hb : RToks w ab cb b) :
    Calls Try.prog 12 #[.slice aa a.length ca, .slice ab b.length cb] w fun e w' => e = .returned (.bool true) ∧ Below w.heap.size w w' := by
  have HA := Lib.hid ha; have HB := Lib.hid hb
  have hga := ha.sm
  have hgb := hb.sm
  have hw0 : Below w.heap.size w w := Below.refl _ _
  have HC := Lib.hid (fun (W : World) (h : Below w.heap.size w W) => closed_w (ha.grow h))
  have HFA := Lib.hid (fun W => few06 aa a.length ca W hga)
  have HFB := Lib.hid (fun W => few06 ab b.length cb W hgb)
  clear ha hb
  by_cases hfa : a.length ≤ 300
  · have d1 : decide (a.length ≤ 300) = true := by simpa using hfa
    by_cases hfb : b.length ≤ 300
    · have d2 : decide (b.length ≤ 300) = true := by simpa using hfb
      by_cases hcl : a.length ≤ closedF a 0
      · have d3 : decide (a.length ≤ closedF a 0) = true := by simpa using hcl
        have HAPP := Lib.hid (declsT_app semiT (by decide) a b hcl)
        have hA : limC a := by unfold limC; omega
        have hB : limC b := by unfold limC; omega
        have hL : limC (a ++ semiT :: b) := by unfold limC; rw [List.length_append, List.length_cons]; omega
        have L1 := declsT_len a
        have L2 := declsT_len b
        have HD1 := Lib.hid (fun (W : World) (h : Below w.heap.size w W) => decls_p (HA.out.grow h) hA)
        have HD2 := Lib.hid (fun (W : World) (h : Below w.heap.size w W) => decls_p (HB.out.grow h) hB)
        have HD3 := Lib.hid (fun (W : World) (al : Option Addr) (cl : Nat) (h : RToks W al cl (a ++ semiT :: b)) => by have := decls_p h hL; rw [List.length_append, List.length_cons] at this; exact this)
        have hone : ∀ u ∈ (#[.int .i64 11, .string ⟨#[]⟩, .int .i64 0] : Array Value), u.oneCell' = true := fun u hu => Sy.tok_one semiT u (by simpa [TokV.cells, semiT] using hu)
        have HONE := Lib.hid hone
        rw [d3] at HC
        clear hA hB hL hcl d3 hone
        go_enter Try.func12, Try.ntmps12
        go_wp2_with (first
          | (go_at_call 25; refine (HFA.out _).mono ?_; rintro e w' ⟨rfl, rfl⟩; clear HFA)
          | (go_at_call 25; refine (HFB.out _).mono ?_; rintro e w' ⟨rfl, rfl⟩; clear HFB)
          | (go_at_call 33; refine (HC.out _ hw0).mono ?_; rintro e wc ⟨rfl, hc1⟩; have hwc := bseq hw0 hc1)
          | (at_builtin; refine wpList_app_rows (cells := TokV.cells) 41 46 3 32 _ tToks rfl _ _ rfl w.heap.size _ 0 [] rfl (World.ownsRow_nil _ _ _ _) aa ca a rfl (HA.out.grow hwc) (fun _ _ => rfl) (fun y _ u hu => Sy.tok_one y u hu) (by omega) (by omega) hwc.size ?_; intro v1 W1 ho1 hb1)
          | (at_builtin; refine wpList_app 41 46 3 32 _ tToks rfl _ _ rfl w.heap.size _ _ _ rfl ho1 1 #[.int .i64 11, .string ⟨#[]⟩, .int .i64 0] rfl rfl HONE.out (by omega) (by omega) (Nat.le_trans hwc.size hb1.size) ?_; intro v2 W2 ho2 hb2)
          | (at_builtin; refine wpList_app_rows (cells := TokV.cells) 41 46 3 32 _ tToks rfl _ _ rfl w.heap.size _ _ _ rfl ho2 ab cb b rfl (HB.out.grow ((hwc.trans hb1).trans hb2)) (fun _ _ => rfl) (fun y _ u hu => Sy.tok_one y u hu) (by omega) (by omega) (Nat.le_trans hwc.size (Nat.le_trans hb1.size hb2.size)) ?_; intro v3 W3 ho3 hb3; have hw3 := ((hwc.trans hb1).trans hb2).trans hb3; obtain ⟨al, cl, rfl, hrl⟩ := own_goes semiT ho3 (by omega); have HRL := Lib.hid hrl; clear hrl ho3 ho2 ho1)
          | (go_at_call 31; refine (HD1.out _ hw3).mono ?_; rintro e w4 ⟨b1, c1, r1, rfl, hr1, hs1, h4⟩; have hq1 : r1.length ≤ 301 := (by have := hs1.len; omega); have HR1 := Lib.hid hr1; have HS1 := Lib.hid hs1; have H4 := Lib.hid h4; clear hr1 hs1 HD1; have hw4 := bseq hw3 h4)
          | (go_at_call 31; refine (HD2.out _ hw4).mono ?_; rintro e w5 ⟨b2, c2, r2, rfl, hr2, hs2, h5⟩; have hq2 : r2.length ≤ 301 := (by have := hs2.len; omega); have HR2 := Lib.hid hr2; have HS2 := Lib.hid hs2; have H5 := Lib.hid h5; clear hr2 hs2 HD2; have hw5 := bseq hw4 h5)
          | (at_builtin; refine wpList_app_rows (cells := DRow.cells) 49 78 3 48 _ tDecls rfl _ _ rfl w5.heap.size _ 0 [] rfl (World.ownsRow_nil _ _ _ _) b1 c1 r1 rfl (HR1.out.grow H5.out) (fun _ _ => rfl) (fun y _ u hu => DRow.one y u hu) (by omega) (by omega) (Nat.le_refl _) ?_; intro v6 W6 ho6 hb6)
          | (at_builtin; refine wpList_app_rows (cells := DRow.cells) 49 78 3 48 _ tDecls rfl _ _ rfl w5.heap.size _ _ _ rfl ho6 b2 c2 r2 rfl (HR2.out.grow hb6) (fun _ _ => rfl) (fun y _ u hu => DRow.one y u hu) (by omega) (by omega) hb6.size ?_; intro v7 W7 ho7 hb7; have h57 := hb6.trans hb7; have hw7 := bseq hw5 h57; obtain ⟨bl, dl, rfl, hrb⟩ := own_both ho7 (by omega); have HRB := Lib.hid hrb; clear hrb ho7 ho6)
          | (go_at_call 31; refine (HD3.out _ _ _ (((HRL.out.grow H4.out).grow H5.out).grow h57)).mono ?_; rintro e w8 ⟨b8, c8, r8, rfl, hr8, hs8, h8⟩; have HR8 := Lib.hid hr8; have HS8 := Lib.hid hs8; have H8 := Lib.hid h8; clear hr8 hs8; have hw8 := bseq hw7 h8)
          | (go_at_call 30; have hsd := same_decls HR8.out (HRB.out.grow H8.out) HS8.out (by rw [HAPP.out]; exact ((((HS1.out.grow H5.out).grow h57).app (HS2.out.grow h57)).grow H8.out)); rw [List.length_append] at hsd; refine hsd.mono ?_; clear hsd; rintro e w9 ⟨rfl, h9⟩; have hw9 := bseq hw8 h9)
          | (go_at_call 26; refine (known06 _).mono ?_; rintro e w10 ⟨rfl, h10⟩; have hw10 := bseq hw9 h10))
        go_ret
        exact ⟨rfl, hw10⟩
      · have d3 : decide (a.length ≤ closedF a 0) = false := by simpa using hcl
        rw [d3] at HC
        clear hcl d3
        go_enter Try.func12, Try.ntmps12
        go_wp2_with (first
          | (go_at_call 25; refine (HFA.out _).mono ?_; rintro e w' ⟨rfl, rfl⟩; clear HFA)
          | (go_at_call 25; refine (HFB.out _).mono ?_; rintro e w' ⟨rfl, rfl⟩; clear HFB)
          | (go_at_call 33; refine (HC.out _ hw0).mono ?_; rintro e wc ⟨rfl, hc1⟩; have hwc := bseq hw0 hc1)
          | (go_at_call 26; refine (known06 _).mono ?_; rintro e w10 ⟨rfl, h10⟩; have hw10 := bseq hwc h10))
        go_ret
        exact ⟨rfl, hw10⟩
    · have d2 : decide (b.length ≤ 300) = false := by simpa using hfb
      go_enter Try.func12, Try.ntmps12
      go_wp2_with (first
        | (go_at_call 25; refine (HFA.out _).mono ?_; rintro e w' ⟨rfl, rfl⟩; clear HFA)
        | (go_at_call 25; refine (HFB.out _).mono ?_; rintro e w' ⟨rfl, rfl⟩; clear HFB)
        | (go_at_call 26; refine (known06 _).mono ?_; rintro e w10 ⟨rfl, h10⟩; have hw10 := bseq hw0 h10))
      go_ret
      exact ⟨rfl, hw10⟩
  · have d1 : decide (a.length ≤ 300) = false := by simpa using hfa
    go_enter Try.func12, Try.ntmps12
    go_wp2_with (first
      | (go_at_call 25; refine (HFA.out _).mono ?_; rintro e w' ⟨rfl, rfl⟩; clear HFA)
      | (go_at_call 26; refine (known06 _).mono ?_; rintro e w10 ⟨rfl, h10⟩; have hw10 := bseq hw0 h10))
    go_ret
    exact ⟨rfl, hw10⟩
end Go.Proofs.Ytjljlcflmcjapaa
