/-
  Layer 6's law SyntaxJoins, walked.
-/
import Derived.Test.YtjljlcflmcjapaaRuleS
import Derived.Test.YtjljlcflmcjapaaKnown06
namespace Go.Proofs.Ytjljlcflmcjapaa
open Go Go.RowKit Pl
set_option linter.unusedVariables false
set_option linter.unusedSimpArgs false
def openT : TokV := ⟨17, ⟨#[]⟩, 0⟩
def closeT : TokV := ⟨18, ⟨#[]⟩, 0⟩
def joinA (head body : List TokV) : List TokV := head ++ openT :: (body ++ [closeT])
theorem joinA_len (head body : List TokV) : (joinA head body).length = head.length + 1 + body.length + 1 := by simp [joinA]; omega
theorem one_tok (k : Int) : ∀ u ∈ (#[.int .i64 k, .string ⟨#[]⟩, .int .i64 0] : Array Value), u.oneCell' = true := fun u hu => Sy.tok_one ⟨k, ⟨#[]⟩, 0⟩ u (by simpa [TokV.cells] using hu)
theorem own_joinA {W : World} {B : Nat} {e : TypeId} {ad : Option Addr} {cap n : Nat} {head body : List TokV} (hn : n = head.length + 1 + body.length + 1) (h : W.ownsRow B e 3 (.slice ad n cap) n ((((head.map TokV.cells).flatten ++ (#[.int .i64 17, .string ⟨#[]⟩, .int .i64 0] : Array Value).toList) ++ (body.map TokV.cells).flatten) ++ (#[.int .i64 18, .string ⟨#[]⟩, .int .i64 0] : Array Value).toList)) (hs : head.length + body.length ≤ 100000) :
    RToks W ad cap (joinA head body) := by
  have e2 : ((((head.map TokV.cells).flatten ++ (#[.int .i64 17, .string ⟨#[]⟩, .int .i64 0] : Array Value).toList) ++ (body.map TokV.cells).flatten) ++ (#[.int .i64 18, .string ⟨#[]⟩, .int .i64 0] : Array Value).toList) = ((joinA head body).map TokV.cells).flatten := by
    simp [joinA, TokV.cells, openT, closeT]
  have e1 : n = (joinA head body).length := by rw [joinA_len, hn]
  rw [e2, e1] at h
  obtain ⟨a, c, he, hr⟩ := Rows.of_own (cells := TokV.cells) h (fun k hk j u hu => flat_get TokV.cells 3 _ (fun _ _ => rfl) k hk j u hu) (by rw [← e1, hn]; omega)
  simp at he
  obtain ⟨rfl, rfl⟩ := he
  exact hr
theorem own_app2 {α : Type} {cells : α → List Value} {s : Nat} {W : World} {B : Nat} {e : TypeId} {v : Value} {r1 r2 : List α} (m : Nat) (hm : m = r1.length) (hs : ∀ x, (cells x).length = s) (h : W.ownsRow B e s v (0 + m + r2.length) (([] ++ (r1.map cells).flatten) ++ (r2.map cells).flatten)) (hn : r1.length + r2.length ≤ 100000) :
    ∃ al cl, v = .slice al (m + r2.length) cl ∧ Rows cells s W al cl (r1 ++ r2) := by
  subst hm
  have e1 : 0 + r1.length + r2.length = (r1 ++ r2).length := by rw [List.length_append]; omega
  have e2 : (([] ++ (r1.map cells).flatten) ++ (r2.map cells).flatten) = ((r1 ++ r2).map cells).flatten := by simp
  rw [e1, e2] at h
  obtain ⟨al, cl, he, hr⟩ := Rows.of_own (cells := cells) h (fun k hk j u hu => flat_get cells s _ (fun x _ => hs x) k hk j u hu) (by rw [← e1]; omega)
  exact ⟨al, cl, by rw [he, List.length_append], hr⟩
/-- append of rows whose number is spelled otherwise -/
theorem wpList_app_rowsN {α : Type} {cells : α → List Value} {P : Program} {w : World} {ops : Array Oper} {rest : List Oper} {o : Oper} {a : Act} {Q : Exit → Act → World → Prop}
    (t e : TypeId) (size bytes : Nat) (z : Value) (hT : SliceT P t e size bytes z) (hgd : o.guard = none) (s x : Operand)
    (ho : o.op = .call { callee := .builtin .append, args := #[s, x], argTypes := #[t, t] })
    (base : Nat) (v : Value) (n : Nat) (xs : List Value) (hs : a.eval s = v) (hown : w.ownsRow base e size v n xs)
    (ao : Option Addr) (capy : Nat) (ys : List α) (m : Nat) (hm : m = ys.length) (hx : a.eval x = .slice ao m capy) (hY : Rows cells size w ao capy ys) (hlen : ∀ y ∈ ys, (cells y).length = size) (h1 : ∀ y ∈ ys, ∀ u ∈ cells y, u.oneCell' = true)
    (hbytes : (n + m) * bytes ≤ 140737488355328) (hn : n + m ≤ 17592186044416) (hbase : base ≤ w.heap.size)
    (h : ∀ v' w', w'.ownsRow base e size v' (n + m) (xs ++ (ys.map cells).flatten) → Below base w w' → wpList P ops Q rest (a.put o.dst v') w') :
    wpList P ops Q (o :: rest) a w := by
  subst hm
  exact wpList_app_rows t e size bytes z hT hgd s x ho base v n xs hs hown ao capy ys hx hY hlen h1 hbytes hn hbase h
theorem rulesF_len (l : List TokV) : ∀ (f k : Nat), k ≤ l.length → (rulesF l f k).length ≤ l.length - k
  | 0, k, _ => Nat.zero_le _
  | f + 1, k, hk => by
    rw [rulesF_succ]
    have h1 := skp_le l k hk
    split
    · rename_i h
      have h2 := rule_gt h
      have h3 := rulesF_len l f (ruleT l (skp l k)).2 h2.2
      split
      · simp only [List.length_cons]; omega
      · omega
    · exact Nat.zero_le _
theorem rulesT_len (l : List TokV) : (rulesT l).length ≤ l.length := rulesF_len l _ 0 (Nat.zero_le _)
theorem ReadsX.len {w : World} {rs : List XRow} {qs : List RawV} (h : ReadsX w rs qs) : rs.length = qs.length := by rw [← h.1]; simp
theorem ReadsX.app {w : World} {r1 r2 : List XRow} {d1 d2 : List RawV} (h1 : ReadsX w r1 d1) (h2 : ReadsX w r2 d2) : ReadsX w (r1 ++ r2) (d1 ++ d2) :=
  ⟨by rw [List.map_append, h1.1, h2.1], fun r hr => by
    rcases List.mem_append.1 hr with hr | hr
    · exact h1.2 r hr
    · exact h2.2 r hr⟩
set_option maxRecDepth 4000 in
set_option maxHeartbeats 2000000 in
theorem joins_walk {w : World} {ah ab aq : Option Addr} {ch cb cq : Nat} {h b q : List TokV} (hh : RToks w ah ch h) (hb : RToks w ab cb b) (hq : RToks w aq cq q) :
    Calls Try.prog 13 #[.slice ah h.length ch, .slice ab b.length cb, .slice aq q.length cq] w fun e w' => e = .returned (.bool true) ∧ Below w.heap.size w w' := by
  have HH := Lib.hid hh; have HB := Lib.hid hb; have HQ := Lib.hid hq
  have hgh := hh.sm
  have hgb := hb.sm
  have hgq := hq.sm
  have hw0 : Below w.heap.size w w := Below.refl _ _
  have HCH := Lib.hid (fun (W : World) (g : Below w.heap.size w W) => closed_w (hh.grow g))
  have HCB := Lib.hid (fun (W : World) (g : Below w.heap.size w W) => closed_w (hb.grow g))
  have HFH := Lib.hid (fun W => few06 ah h.length ch W hgh)
  have HFB := Lib.hid (fun W => few06 ab b.length cb W hgb)
  have HFQ := Lib.hid (fun W => few06 aq q.length cq W hgq)
  clear hh hb hq
  by_cases hfh : h.length ≤ 300
  · have d1 : decide (h.length ≤ 300) = true := by simpa using hfh
    by_cases hfb : b.length ≤ 300
    · have d2 : decide (b.length ≤ 300) = true := by simpa using hfb
      by_cases hfq : q.length ≤ 300
      · have d3 : decide (q.length ≤ 300) = true := by simpa using hfq
        by_cases hcb : b.length ≤ closedF b 0
        · have d4 : decide (b.length ≤ closedF b 0) = true := by simpa using hcb
          rw [d4] at HCB
          clear d4 hcb
          by_cases hch : h.length ≤ closedF h 0
          · have d5 : decide (h.length ≤ closedF h 0) = true := by simpa using hch
            rw [d5] at HCH
            clear d5
            have LA := joinA_len h b
            have HM := Lib.hid (fun (W : World) (al : Option Addr) (cl : Nat) (g : RToks W al cl (joinA h b)) => by have := match_r g (h.length : Nat); rw [(mt_int (joinA h b) h.length).1, LA] at this; exact this)
            by_cases hm : mt (joinA h b) h.length = h.length + 1 + b.length
            · have HJ := Lib.hid (joins (a := joinA h b) q rfl rfl hch (by rw [hm, LA]; omega))
              have e7 : ((mt (joinA h b) h.length : Int) != (h.length : Int) + 1 + (b.length : Int)) = false := by
                rw [hm]; simp
              have HR1 := Lib.hid (fun (W : World) (al : Option Addr) (cl : Nat) (g : RToks W al cl (joinA h b)) => by have := rules_p g (show limC (joinA h b) by unfold limC; omega); rw [LA] at this; exact this)
              have HR2 := Lib.hid (fun (W : World) (g : Below w.heap.size w W) => rules_p (HQ.out.grow g) (show limC q by unfold limC; omega))
              have HR3 := Lib.hid (fun (W : World) (al : Option Addr) (cl : Nat) (g : RToks W al cl (joinA h b ++ q)) => by have := rules_p g (show limC (joinA h b ++ q) by unfold limC; rw [List.length_append]; omega); rw [List.length_append, LA] at this; exact this)
              have L1 := rulesT_len (joinA h b)
              have L2 := rulesT_len q
              generalize mt (joinA h b) h.length = M at *
              clear hm hch
              go_enter Try.func13, Try.ntmps13
              go_wp2_with (first
                | (go_at_call 25; refine (HFH.out _).mono ?_; rintro e w' ⟨rfl, rfl⟩; clear HFH)
                | (go_at_call 25; refine (HFB.out _).mono ?_; rintro e w' ⟨rfl, rfl⟩; clear HFB)
                | (go_at_call 25; refine (HFQ.out _).mono ?_; rintro e w' ⟨rfl, rfl⟩; clear HFQ)
                | (go_at_call 33; refine (HCB.out _ hw0).mono ?_; rintro e wb ⟨rfl, hc1⟩; have hwb := bseq hw0 hc1; clear HCB)
                | (go_at_call 33; refine (HCH.out _ hwb).mono ?_; rintro e wc ⟨rfl, hc2⟩; have hwc := bseq hwb hc2; clear HCH)
                | (at_builtin; refine wpList_app_rows (cells := TokV.cells) 41 46 3 32 _ tToks rfl _ _ rfl w.heap.size _ 0 [] rfl (World.ownsRow_nil _ _ _ _) ah ch h rfl (HH.out.grow hwc) (fun _ _ => rfl) (fun y _ u hu => Sy.tok_one y u hu) (by omega) (by omega) hwc.size ?_; intro v1 W1 ho1 hb1)
                | (at_builtin; refine wpList_app1 41 46 3 32 _ tToks rfl _ _ rfl w.heap.size _ _ _ rfl ho1 #[.int .i64 17, .string ⟨#[]⟩, .int .i64 0] W1.heap.size rfl rfl rfl (one_tok 17) (by omega) (by omega) (Nat.le_trans hwc.size hb1.size) ?_; intro g2 c2 W2 ho2 hb2 _ _; simp only [Nat.zero_add, List.nil_append] at ho2)
                | (at_builtin; refine wpList_app_rows (cells := TokV.cells) 41 46 3 32 _ tToks rfl _ _ rfl w.heap.size _ _ _ rfl ho2 ab cb b rfl (HB.out.grow ((hwc.trans hb1).trans hb2)) (fun _ _ => rfl) (fun y _ u hu => Sy.tok_one y u hu) (by omega) (by omega) (Nat.le_trans hwc.size (Nat.le_trans hb1.size hb2.size)) ?_; intro v3 W3 ho3 hb3)
                | (at_builtin; refine wpList_app1 41 46 3 32 _ tToks rfl _ _ rfl w.heap.size _ _ _ rfl ho3 #[.int .i64 18, .string ⟨#[]⟩, .int .i64 0] W3.heap.size rfl rfl rfl (one_tok 18) (by omega) (by omega) (Nat.le_trans hwc.size (Nat.le_trans hb1.size (Nat.le_trans hb2.size hb3.size))) ?_; intro g4 c4 W4 ho4 hb4 _ _; have hw4 := (((hwc.trans hb1).trans hb2).trans hb3).trans hb4; have HRA := Lib.hid (own_joinA (by omega) ho4 (by omega)); clear ho1 ho2 ho3 ho4)
                | (at_builtin; refine wpList_app_rowsN (cells := TokV.cells) 41 46 3 32 _ tToks rfl _ _ rfl W4.heap.size _ 0 [] rfl (World.ownsRow_nil _ _ _ _) (some ⟨g4, 0, none⟩) c4 (joinA h b) (h.length + 1 + b.length + 1) LA.symm rfl HRA.out (fun _ _ => rfl) (fun y _ u hu => Sy.tok_one y u hu) (by omega) (by omega) (Nat.le_refl _) ?_; intro v5 W5 ho5 hb5; have hw5 := bseq hw4 hb5; have HRA5 := Lib.hid (HRA.out.grow hb5))
                | (at_builtin; refine wpList_app_rows (cells := TokV.cells) 41 46 3 32 _ tToks rfl _ _ rfl W4.heap.size _ _ _ rfl ho5 aq cq q rfl (HQ.out.grow hw5) (fun _ _ => rfl) (fun y _ u hu => Sy.tok_one y u hu) (by omega) (by omega) hb5.size ?_; intro v6 W6 ho6 hb6; have h46 := hb5.trans hb6; have hw6 := bseq hw4 h46; obtain ⟨al, cl, rfl, hrl⟩ := own_app2 (cells := TokV.cells) (r1 := joinA h b) _ LA.symm (fun x => x.len) ho6 (by omega); have HRL := Lib.hid hrl; have HRA6 := Lib.hid (HRA.out.grow h46); clear ho5 ho6 hrl)
                | (go_at_call 28; refine (HM.out _ _ _ HRA6.out).mono ?_; rintro e w7 ⟨rfl, h7⟩; have hw7 := bseq hw6 h7)
                | (go_at_call 34; refine (HR1.out _ _ _ (HRA6.out.grow h7)).mono ?_; rintro e w8 ⟨b1, c1, r1, rfl, hr1, hs1, h8⟩; have hq1 : r1.length ≤ 602 := (by have := hs1.len; omega); have HX1 := Lib.hid hr1; have HS1 := Lib.hid hs1; have H8 := Lib.hid h8; have hw8 := bseq hw7 h8; clear hr1 hs1 HR1)
                | (go_at_call 34; refine (HR2.out _ hw8).mono ?_; rintro e w9 ⟨b2, d2', r2, rfl, hr2, hs2, h9⟩; have hq2 : r2.length ≤ 300 := (by have := hs2.len; omega); have HX2 := Lib.hid hr2; have HS2 := Lib.hid hs2; have H9 := Lib.hid h9; have hw9 := bseq hw8 h9; clear hr2 hs2 HR2)
                | (at_builtin; refine wpList_app_rows (cells := XRow.cells) 52 76 4 72 _ tRaws rfl _ _ rfl w9.heap.size _ 0 [] rfl (World.ownsRow_nil _ _ _ _) b1 c1 r1 rfl (HX1.out.grow H9.out) (fun _ _ => rfl) (fun y _ u hu => XRow.one y u hu) (by omega) (by omega) (Nat.le_refl _) ?_; intro v10 W10 ho10 hb10)
                | (at_builtin; refine wpList_app_rows (cells := XRow.cells) 52 76 4 72 _ tRaws rfl _ _ rfl w9.heap.size _ _ _ rfl ho10 b2 d2' r2 rfl (HX2.out.grow hb10) (fun _ _ => rfl) (fun y _ u hu => XRow.one y u hu) (by omega) (by omega) hb10.size ?_; intro v11 W11 ho11 hb11; have h911 := hb10.trans hb11; have hw11 := bseq hw9 h911; obtain ⟨bl, dl, rfl, hrb⟩ := own_app2 (cells := XRow.cells) (r1 := r1) _ rfl (fun x => x.len) ho11 (by omega); have HRB := Lib.hid hrb; clear hrb ho11 ho10)
                | (go_at_call 34; refine (HR3.out _ _ _ ((((HRL.out.grow h7).grow H8.out).grow H9.out).grow h911)).mono ?_; rintro e w12 ⟨b12, c12, r12, rfl, hr12, hs12, h12⟩; have HX12 := Lib.hid hr12; have HS12 := Lib.hid hs12; have H12 := Lib.hid h12; have hw12 := bseq hw11 h12; clear hr12 hs12 HR3)
                | (go_at_call 35; have hsd := same_rules HX12.out (HRB.out.grow H12.out) HS12.out (by rw [HJ.out]; exact ((((HS1.out.grow H9.out).grow h911).app (HS2.out.grow h911)).grow H12.out)); rw [List.length_append] at hsd; refine hsd.mono ?_; clear hsd; rintro e w13 ⟨rfl, h13⟩; have hw13 := bseq hw12 h13)
                | (go_at_call 26; refine (known06 _).mono ?_; rintro e w14 ⟨rfl, h14⟩; have hw14 := bseq hw13 h14))
              go_ret
              exact ⟨rfl, hw14⟩
            · have e7 : ((mt (joinA h b) h.length : Int) != (h.length : Int) + 1 + (b.length : Int)) = true := by
                simp; omega
              generalize mt (joinA h b) h.length = M at *
              clear hm hch
              go_enter Try.func13, Try.ntmps13
              go_wp2_with (first
                | (go_at_call 25; refine (HFH.out _).mono ?_; rintro e w' ⟨rfl, rfl⟩; clear HFH)
                | (go_at_call 25; refine (HFB.out _).mono ?_; rintro e w' ⟨rfl, rfl⟩; clear HFB)
                | (go_at_call 25; refine (HFQ.out _).mono ?_; rintro e w' ⟨rfl, rfl⟩; clear HFQ)
                | (go_at_call 33; refine (HCB.out _ hw0).mono ?_; rintro e wb ⟨rfl, hc1⟩; have hwb := bseq hw0 hc1; clear HCB)
                | (go_at_call 33; refine (HCH.out _ hwb).mono ?_; rintro e wc ⟨rfl, hc2⟩; have hwc := bseq hwb hc2; clear HCH)
                | (at_builtin; refine wpList_app_rows (cells := TokV.cells) 41 46 3 32 _ tToks rfl _ _ rfl w.heap.size _ 0 [] rfl (World.ownsRow_nil _ _ _ _) ah ch h rfl (HH.out.grow hwc) (fun _ _ => rfl) (fun y _ u hu => Sy.tok_one y u hu) (by omega) (by omega) hwc.size ?_; intro v1 W1 ho1 hb1)
                | (at_builtin; refine wpList_app1 41 46 3 32 _ tToks rfl _ _ rfl w.heap.size _ _ _ rfl ho1 #[.int .i64 17, .string ⟨#[]⟩, .int .i64 0] W1.heap.size rfl rfl rfl (one_tok 17) (by omega) (by omega) (Nat.le_trans hwc.size hb1.size) ?_; intro g2 c2 W2 ho2 hb2 _ _; simp only [Nat.zero_add, List.nil_append] at ho2)
                | (at_builtin; refine wpList_app_rows (cells := TokV.cells) 41 46 3 32 _ tToks rfl _ _ rfl w.heap.size _ _ _ rfl ho2 ab cb b rfl (HB.out.grow ((hwc.trans hb1).trans hb2)) (fun _ _ => rfl) (fun y _ u hu => Sy.tok_one y u hu) (by omega) (by omega) (Nat.le_trans hwc.size (Nat.le_trans hb1.size hb2.size)) ?_; intro v3 W3 ho3 hb3)
                | (at_builtin; refine wpList_app1 41 46 3 32 _ tToks rfl _ _ rfl w.heap.size _ _ _ rfl ho3 #[.int .i64 18, .string ⟨#[]⟩, .int .i64 0] W3.heap.size rfl rfl rfl (one_tok 18) (by omega) (by omega) (Nat.le_trans hwc.size (Nat.le_trans hb1.size (Nat.le_trans hb2.size hb3.size))) ?_; intro g4 c4 W4 ho4 hb4 _ _; have hw4 := (((hwc.trans hb1).trans hb2).trans hb3).trans hb4; have HRA := Lib.hid (own_joinA (by omega) ho4 (by omega)); clear ho1 ho2 ho3 ho4)
                | (at_builtin; refine wpList_app_rowsN (cells := TokV.cells) 41 46 3 32 _ tToks rfl _ _ rfl W4.heap.size _ 0 [] rfl (World.ownsRow_nil _ _ _ _) (some ⟨g4, 0, none⟩) c4 (joinA h b) (h.length + 1 + b.length + 1) LA.symm rfl HRA.out (fun _ _ => rfl) (fun y _ u hu => Sy.tok_one y u hu) (by omega) (by omega) (Nat.le_refl _) ?_; intro v5 W5 ho5 hb5; have hw5 := bseq hw4 hb5; have HRA5 := Lib.hid (HRA.out.grow hb5))
                | (at_builtin; refine wpList_app_rows (cells := TokV.cells) 41 46 3 32 _ tToks rfl _ _ rfl W4.heap.size _ _ _ rfl ho5 aq cq q rfl (HQ.out.grow hw5) (fun _ _ => rfl) (fun y _ u hu => Sy.tok_one y u hu) (by omega) (by omega) hb5.size ?_; intro v6 W6 ho6 hb6; have h46 := hb5.trans hb6; have hw6 := bseq hw4 h46; obtain ⟨al, cl, rfl, hrl⟩ := own_app2 (cells := TokV.cells) (r1 := joinA h b) _ LA.symm (fun x => x.len) ho6 (by omega); have HRL := Lib.hid hrl; have HRA6 := Lib.hid (HRA.out.grow h46); clear ho5 ho6 hrl)
                | (go_at_call 28; refine (HM.out _ _ _ HRA6.out).mono ?_; rintro e w7 ⟨rfl, h7⟩; have hw7 := bseq hw6 h7)
                | (go_at_call 26; refine (known06 _).mono ?_; rintro e w14 ⟨rfl, h14⟩; have hw14 := bseq hw7 h14))
              go_ret
              exact ⟨rfl, hw14⟩
          · have d5 : decide (h.length ≤ closedF h 0) = false := by simpa using hch
            rw [d5] at HCH
            clear d5 hch
            go_enter Try.func13, Try.ntmps13
            go_wp2_with (first
              | (go_at_call 25; refine (HFH.out _).mono ?_; rintro e w' ⟨rfl, rfl⟩; clear HFH)
              | (go_at_call 25; refine (HFB.out _).mono ?_; rintro e w' ⟨rfl, rfl⟩; clear HFB)
              | (go_at_call 25; refine (HFQ.out _).mono ?_; rintro e w' ⟨rfl, rfl⟩; clear HFQ)
              | (go_at_call 33; refine (HCB.out _ hw0).mono ?_; rintro e wb ⟨rfl, hc1⟩; have hwb := bseq hw0 hc1; clear HCB)
              | (go_at_call 33; refine (HCH.out _ hwb).mono ?_; rintro e wc ⟨rfl, hc2⟩; have hwc := bseq hwb hc2; clear HCH)
              | (go_at_call 26; refine (known06 _).mono ?_; rintro e w14 ⟨rfl, h14⟩; have hw14 := bseq hwc h14))
            go_ret
            exact ⟨rfl, hw14⟩
        · have d4 : decide (b.length ≤ closedF b 0) = false := by simpa using hcb
          rw [d4] at HCB
          clear d4 hcb
          go_enter Try.func13, Try.ntmps13
          go_wp2_with (first
            | (go_at_call 25; refine (HFH.out _).mono ?_; rintro e w' ⟨rfl, rfl⟩; clear HFH)
            | (go_at_call 25; refine (HFB.out _).mono ?_; rintro e w' ⟨rfl, rfl⟩; clear HFB)
            | (go_at_call 25; refine (HFQ.out _).mono ?_; rintro e w' ⟨rfl, rfl⟩; clear HFQ)
            | (go_at_call 33; refine (HCB.out _ hw0).mono ?_; rintro e wb ⟨rfl, hc1⟩; have hwb := bseq hw0 hc1; clear HCB)
            | (go_at_call 26; refine (known06 _).mono ?_; rintro e w14 ⟨rfl, h14⟩; have hw14 := bseq hwb h14))
          go_ret
          exact ⟨rfl, hw14⟩
      · have d3 : decide (q.length ≤ 300) = false := by simpa using hfq
        go_enter Try.func13, Try.ntmps13
        go_wp2_with (first
          | (go_at_call 25; refine (HFH.out _).mono ?_; rintro e w' ⟨rfl, rfl⟩; clear HFH)
          | (go_at_call 25; refine (HFB.out _).mono ?_; rintro e w' ⟨rfl, rfl⟩; clear HFB)
          | (go_at_call 25; refine (HFQ.out _).mono ?_; rintro e w' ⟨rfl, rfl⟩; clear HFQ)
          | (go_at_call 26; refine (known06 _).mono ?_; rintro e w14 ⟨rfl, h14⟩; have hw14 := bseq hw0 h14))
        go_ret
        exact ⟨rfl, hw14⟩
    · have d2 : decide (b.length ≤ 300) = false := by simpa using hfb
      go_enter Try.func13, Try.ntmps13
      go_wp2_with (first
        | (go_at_call 25; refine (HFH.out _).mono ?_; rintro e w' ⟨rfl, rfl⟩; clear HFH)
        | (go_at_call 25; refine (HFB.out _).mono ?_; rintro e w' ⟨rfl, rfl⟩; clear HFB)
        | (go_at_call 25; refine (HFQ.out _).mono ?_; rintro e w' ⟨rfl, rfl⟩; clear HFQ)
        | (go_at_call 26; refine (known06 _).mono ?_; rintro e w14 ⟨rfl, h14⟩; have hw14 := bseq hw0 h14))
      go_ret
      exact ⟨rfl, hw14⟩
  · have d1 : decide (h.length ≤ 300) = false := by simpa using hfh
    go_enter Try.func13, Try.ntmps13
    go_wp2_with (first
      | (go_at_call 25; refine (HFH.out _).mono ?_; rintro e w' ⟨rfl, rfl⟩; clear HFH)
      | (go_at_call 25; refine (HFB.out _).mono ?_; rintro e w' ⟨rfl, rfl⟩; clear HFB)
      | (go_at_call 25; refine (HFQ.out _).mono ?_; rintro e w' ⟨rfl, rfl⟩; clear HFQ)
      | (go_at_call 26; refine (known06 _).mono ?_; rintro e w14 ⟨rfl, h14⟩; have hw14 := bseq hw0 h14))
    go_ret
    exact ⟨rfl, hw14⟩
end Go.Proofs.Ytjljlcflmcjapaa
