/-
  Layer 6: the reference's Split, walked.
-/
import Derived.Test.YtjljlcflmcjapaaDeclW1
import Derived.IntWalk
import Derived.Deep.AppendLies
import Derived.Deep.RegionLaw
namespace Go.Proofs.Ytjljlcflmcjapaa
open Go.RowKit Pl
set_option linter.unusedVariables false
set_option linter.unusedSimpArgs false
theorem top_w {w : World} {a : Option Addr} {cap : Nat} {m : List TokV} (h : RToks w a cap m) (hm : Sy.lim m) :
    Calls Try.prog 90 #[.slice a m.length cap, .int .i64 0, .int .i64 11, .int .i64 11] w fun e w' => e = .returned (.int .i64 (tops semiB m 0 : Nat)) ∧ Below w.heap.size w w' := by
  refine (((Sy.top_t m hm 0 11 (by omega) (by omega)).mono fun v _ e => (⟨_, e, rfl⟩ : ∃ u, v = .lit u ∧ u = .int .i64 (tops semiB m (0 : Int).toNat : Nat))).calls (us := [.slice a m.length cap, .int .i64 0, .int .i64 11, .int .i64 11]) ?_).mono ?_
  · simp only [Sy.rels]
    exact ⟨_, _, rfl, rel_kv h, _, _, rfl, by simp only [Sy.rel], _, _, rfl, by simp only [Sy.rel], _, _, rfl, by simp only [Sy.rel], rfl⟩
  · rintro e w' ⟨⟨u, rfl, rfl⟩, hb⟩
    exact ⟨rfl, hb⟩
theorem own_one (w : World) (e : TypeId) (u : Value) (B : Nat) (hB : B ≤ w.heap.size) : (w.alloc (.cells #[u] e)).ownsRow B e 1 (.slice (some ⟨w.heap.size, 0, none⟩) 1 1) 1 [u] :=
  ⟨by simp, Or.inr ⟨w.heap.size, 1, #[u], rfl, hB, heap_alloc_new w _, Nat.le_refl _, by unfold maxLen; omega, by simp, by simp⟩⟩
theorem own_drew {w : World} {B : Nat} {e : TypeId} {s n : Nat} {v : Value} {xs : List Value} (h : w.ownsRow B e s v n xs) : w.drew.ownsRow B e s v n xs := h
theorem Reads.cons {w : World} {rs : List TRow} {ps : List (List TokV)} (h : Reads w rs ps) (r : TRow) (hr : RToks w r.a r.cap r.l) : Reads w (r :: rs) (r.l :: ps) :=
  ⟨by rw [List.map_cons, h.1], fun x hx => by
    rcases List.mem_cons.1 hx with rfl | hx
    · exact hr
    · exact h.2 x hx⟩
/-- append of rows that are, at a step of a region that draws -/
theorem step_app_rows {α : Type} {cells : α → List Value} {P : Program} {w : World} {ops : Array Oper} {o : Oper} {a : Act} {K : Act → World → Prop} {Q : Exit → Act → World → Prop} {E : Prop}
    (t e : TypeId) (size bytes : Nat) (z : Value) (hT : SliceT P t e size bytes z) (hgd : o.guard = none) (s x : Operand)
    (ho : o.op = .call { callee := .builtin .append, args := #[s, x], argTypes := #[t, t] })
    (base : Nat) (v : Value) (n : Nat) (xs : List Value) (hs : a.eval s = v) (hown : w.ownsRow base e size v n xs)
    (ao : Option Addr) (capy : Nat) (ys : List α) (hx : a.eval x = .slice ao ys.length capy) (hY : Rows cells size w ao capy ys) (hne : ys ≠ []) (hlen : ∀ y ∈ ys, (cells y).length = size) (h1 : ∀ y ∈ ys, ∀ u ∈ cells y, u.oneCell' = true)
    (hbytes : (n + ys.length) * bytes ≤ 140737488355328) (hn : n + ys.length ≤ 17592186044416) (hbase : base ≤ w.heap.size)
    (h : ∀ v' w', w'.ownsRow base e size v' (n + ys.length) (xs ++ (ys.map cells).flatten) → Below base w w' → K (a.put o.dst v') w') :
    if Region.wanted o (yielded ops a.tmps) = true then Oper.wp P o a w K Q else E := by
  obtain ⟨i, hi, hz, hsz, hby⟩ := hT.info
  obtain ⟨b, off, rfl, hb, hc⟩ := hY.base hne
  have hfl : ((ys.map cells).flatten).length = ys.length * size := by
    clear h hx hY h1 hbytes hn hc hne
    induction ys with
    | nil => simp
    | cons y ys ih => simp [ih (fun y hy => hlen y (by simp [hy])), hlen y (by simp), Nat.add_mul]; omega
  refine step_append_lies w hgd s x t ho base e i z size bytes hT.under hi hz hsz hby hT.zs hT.pos v n xs hs hown ⟨b, off, none⟩ ys.length capy _ hx hfl (fun j u hu => hY.flat hT.pos hlen j u hu) ?_ (List.length_pos_iff.2 hne) (by simp only [maxLen]; omega) hbytes hbase w.heap.size rfl ?_
  · intro u hu
    obtain ⟨c, hc, hu⟩ := List.mem_flatten.1 hu
    obtain ⟨y, hy, rfl⟩ := List.mem_map.1 hc
    exact h1 y hy u hu
  · intro g cap w' ho' hg _ _
    exact h _ w' ho' (Below.of_grown hg hown hbase)
set_option maxRecDepth 4000 in
set_option maxHeartbeats 4000000 in
theorem split_rm (n : Nat) : ∀ {w : World} {a : Option Addr} {cap : Nat} {l : List TokV} (h : RToks w a cap l) (hl : limC l) (hn : l.length < n),
    Calls Try.prog 59 #[.slice a l.length cap, .int .i64 11] w fun e w' => ∃ b c rs, e = .returned (.slice b rs.length c) ∧ RRows w' b c rs ∧ (∀ X, RToks X a cap l → Reads X rs (pieces semiB l)) ∧ Below w.heap.size w w' := by
  induction n with
  | zero => intro w a cap l h hl hn; exact absurd hn (by omega)
  | succ n ih =>
    intro w a cap l h hl hn
    have HT := Lib.hid (fun (W : World) (hb : Below w.heap.size w W) => top_w (h.grow hb) hl.lim)
    have HPS := Lib.hid (pieces_step semiB l)
    have hk := tops_le semiB l 0 (Nat.zero_le _)
    have hle := h.le
    have HH := Lib.hid h
    have hlen : l.length ≤ 100000 := hl
    generalize hkk : tops semiB l 0 = k at *
    have htk := Lib.hid (h.take k cap hk.2 (by omega) (Nat.le_refl _))
    clear hkk
    have HC := Lib.hid (fun w => closing_r 11 w)
    have hc11 : clo 11 = 0 := by decide
    rw [hc11] at HC
    by_cases hend : k = l.length
    · subst hend
      have e1 : ((l.length : Int) == (l.length : Int)) = true := by simp
      clear h ih
      go_enter Try.func59, Try.ntmps59
      go_wp2_with (first
        | (go_at_call 29; refine (HC.out _).mono ?_; rintro e w' ⟨rfl, rfl⟩)
        | (go_at_call 90; refine (HT.out _ (Below.refl _ _)).mono ?_; rintro e w1 ⟨rfl, h1⟩))
      go_ret
      refine ⟨_, 1, [⟨a, cap, l⟩], rfl, ?_, ?_, balloc h1 _⟩
      · exact Rows.of_block (cur := #[.slice a l.length cap]) (heap_alloc_new w1 _) (fun _ _ => rfl) rfl (Nat.le_refl _) (by decide)
      · have e2 := HPS.out
        rw [if_pos trivial, List.take_length] at e2
        rw [e2]
        exact fun X hX => (Reads.nil X).snoc ⟨a, cap, l⟩ hX
    · have hlt : k < l.length := by omega
      have e1 : ((k : Int) == (l.length : Int)) = false := by simp; omega
      obtain ⟨b, off, rfl, hb, right⟩ := h.at (fun e => by rw [e] at hlt; simp at hlt)
      have hld : (l.drop (k + 1)).length = l.length - (k + 1) := by rw [List.length_drop]
      have HI := Lib.hid (fun (W : World) (hb' : Below w.heap.size w W) => by
        have := ih (w := W) ((h.drop (k + 1) (by omega) (if cap = k + 1 then some ⟨b, off, none⟩ else some ⟨b, off + (k + 1) * 3, none⟩) (fun hh => by rw [if_neg (by omega)]) (fun hh => by split at hh <;> cases hh)).grow hb') (show (l.drop (k + 1)).length ≤ 100000 by omega) (by omega)
        rw [hld] at this
        exact this.mono fun e w' ⟨b', c', rs, q1, q2, q3, q4⟩ => (⟨b', c', rs, q1, q2, fun X hX => q3 X (hX.drop (k + 1) (by omega) _ (fun hh => by rw [if_neg (by have := hX.le; omega)]) (fun hh => by split at hh <;> cases hh)), q4⟩ : ∃ b' c' rs, e = Ending.returned (.slice b' (List.length (rs : List TRow)) c') ∧ RRows w' b' c' rs ∧ (∀ X, RToks X (some ⟨b, off, none⟩) cap l → Reads X rs (pieces semiB (l.drop (k + 1)))) ∧ Below W.heap.size W w'))
      clear h ih
      have hpn := pieces_n semiB _ _ (Nat.le_refl (l.drop (k + 1)).length)
      by_cases hck : cap = k + 1
      · simp only [hck, if_true] at HI
        subst hck
        have hl0 : l.length - (k + 1) = 0 := by omega
        rw [hl0, Nat.sub_self] at HI
        go_enter Try.func59, Try.ntmps59
        go_wp2_with (first
          | (go_at_call 29; refine (HC.out _).mono ?_; rintro e w' ⟨rfl, rfl⟩)
          | (go_at_call 90; refine (HT.out _ (Below.refl _ _)).mono ?_; rintro e w1 ⟨rfl, h1⟩))
        have hsz : w.heap.size ≤ w1.heap.size := h1.size
        have w1e : IntKind.i64.wrap ((k : Int) + 1) = (k : Int) + 1 := IntWalk.i64_in _ (by omega)
        have w2e : (0 : Int) ≤ (k : Int) + 1 := by omega
        have w4e : (k : Int) ≤ (k : Int) + 1 := by omega
        have w5e : (k : Int) + 1 ≤ (l.length : Int) := by omega
        have w6e : k ≤ l.length := by omega
        have w7e : k ≤ k + 1 := by omega
        have w8e : k + 1 ≤ l.length := by omega
        have w3e : ((k : Int) + 1).toNat = k + 1 := by omega
        have hn1 : ∀ rs : List TRow, rs.length = (pieces semiB (l.drop (k + 1))).length → (1 + rs.length) * 24 ≤ 140737488355328 ∧ 1 + rs.length ≤ 17592186044416 := fun rs h => by omega
        have HN1 := Lib.hid hn1
        have H1 := Lib.hid h1
        clear hn1 h1 right
        go_region_law (first
          | (go_simp; go_at_call 59; refine (HI.out _ ?_).mono ?_; (first | exact (balloc H1.out _).drew | exact H1.out.drew); rintro e w2 ⟨b2, c2, rs, rfl, hr2, hrd2, h2⟩; have hs2 : w1.heap.size ≤ w2.heap.size := Nat.le_trans (by first | exact ((balloc (Below.refl w1.heap.size w1) _).drew).size | exact Nat.le_refl _) h2.size; have HB2 : Hid (Below w.heap.size w w2) := (by first | exact bseq (balloc H1.out _).drew h2 | exact bseq H1.out.drew h2); have hrl := (hrd2 w HH.out).len; have HNN := Lib.hid (HN1.out rs hrl); have HNE : Hid (rs ≠ []) := (fun e => by have := hrl; have := pieces_ne semiB (l.drop (k + 1)); rw [e] at *; simp at *; omega); have HR2 := Lib.hid hr2; have HRD2 := Lib.hid hrd2; have H2 := Lib.hid h2; clear hr2 hrd2 h2 hrl)
          | (refine step_app_rows (cells := TRow.cells) 80 41 1 24 _ tPieces rfl _ _ rfl w.heap.size (.slice (some ⟨w1.heap.size, 0, none⟩) 1 1) 1 [.slice (some ⟨b, off, none⟩) k (k + 1)] ?_ ?_ b2 c2 rs rfl ?_ HNE.out (fun _ _ => rfl) (fun y _ u hu => TRow.one y u hu) HNN.out.1 HNN.out.2 ?_ ?_; (first | rfl | simp [Act.eval, Act.put]); (exact own_grow (own_drew (own_one w1 _ _ w.heap.size hsz)) H2.out); (exact HR2.out); (exact Nat.le_trans hsz hs2); intro v' w4 hown4 hb4)
          | (refine step_app_rows (cells := TRow.cells) 80 41 1 24 _ tPieces rfl _ _ rfl w.heap.size (.slice (some ⟨w2.heap.size, 0, none⟩) 1 1) 1 [.slice (some ⟨b, off, none⟩) k (k + 1)] ?_ ?_ b2 c2 rs rfl ?_ HNE.out (fun _ _ => rfl) (fun y _ u hu => TRow.one y u hu) HNN.out.1 HNN.out.2 ?_ ?_; (first | rfl | simp [Act.eval, Act.put]); (exact own_one w2 _ _ w.heap.size (Nat.le_trans hsz hs2)); (exact HR2.out.later _); (exact Nat.le_trans (Nat.le_trans hsz hs2) (by simp)); intro v' w4 hown4 hb4))
        all_goals go_wp2
        all_goals
          obtain ⟨b9, c9, rfl, hr9⟩ := Rows.of_own (cells := TRow.cells) (xs := ⟨some ⟨b, off, none⟩, k + 1, l.take k⟩ :: rs) (by
            have hlk : (l.take k).length = k := by rw [List.length_take]; omega
            have : 1 + rs.length = (⟨some ⟨b, off, none⟩, k + 1, l.take k⟩ :: rs).length := by simp; omega
            rw [← this]; simpa [TRow.cells, hlk] using hown4) (fun i hi j u hu => by
            have hlk : (l.take k).length = k := by rw [List.length_take]; omega
            have := flat_get TRow.cells 1 (⟨some ⟨b, off, none⟩, k + 1, l.take k⟩ :: rs) (fun _ _ => rfl) i hi j u hu
            simpa [TRow.cells, hlk] using this) (by have := HNN.out.2; simp; omega)
          have HR9 := Lib.hid hr9
          clear hown4 hr9
          have hB : Below w.heap.size w w4 := by first | exact HB2.out.trans hb4 | exact (balloc HB2.out _).trans hb4
          have hs : ∀ X, RToks X (some ⟨b, off, none⟩) (k + 1) l → Reads X (⟨some ⟨b, off, none⟩, k + 1, l.take k⟩ :: rs) (l.take k :: pieces semiB (l.drop (k + 1))) := fun X hX => (HRD2.out X hX).cons ⟨some ⟨b, off, none⟩, k + 1, l.take k⟩ (hX.take k (k + 1) hk.2 (by omega) (Nat.le_refl _))
          have e2 := HPS.out
          rw [if_neg hend] at e2
          go_ret
          refine ⟨b9, c9, _, rfl, HR9.out, ?_, hB⟩
          rw [e2]
          exact hs
      · simp only [hck, if_false] at HI
        go_enter Try.func59, Try.ntmps59
        go_wp2_with (first
          | (go_at_call 29; refine (HC.out _).mono ?_; rintro e w' ⟨rfl, rfl⟩)
          | (go_at_call 90; refine (HT.out _ (Below.refl _ _)).mono ?_; rintro e w1 ⟨rfl, h1⟩))
        have hsz : w.heap.size ≤ w1.heap.size := h1.size
        have w1e : IntKind.i64.wrap ((k : Int) + 1) = (k : Int) + 1 := IntWalk.i64_in _ (by omega)
        have w2e : (0 : Int) ≤ (k : Int) + 1 := by omega
        have w4e : (k : Int) ≤ (k : Int) + 1 := by omega
        have w5e : (k : Int) + 1 ≤ (l.length : Int) := by omega
        have w6e : k ≤ l.length := by omega
        have w7e : k ≤ cap := by omega
        have w8e : k + 1 ≤ l.length := by omega
        have w3e : ((k : Int) + 1).toNat = k + 1 := by omega
        have hn1 : ∀ rs : List TRow, rs.length = (pieces semiB (l.drop (k + 1))).length → (1 + rs.length) * 24 ≤ 140737488355328 ∧ 1 + rs.length ≤ 17592186044416 := fun rs h => by omega
        have HN1 := Lib.hid hn1
        have H1 := Lib.hid h1
        clear hn1 h1 right
        go_region_law (first
          | (go_simp; go_at_call 59; refine (HI.out _ ?_).mono ?_; (first | exact (balloc H1.out _).drew | exact H1.out.drew); rintro e w2 ⟨b2, c2, rs, rfl, hr2, hrd2, h2⟩; have hs2 : w1.heap.size ≤ w2.heap.size := Nat.le_trans (by first | exact ((balloc (Below.refl w1.heap.size w1) _).drew).size | exact Nat.le_refl _) h2.size; have HB2 : Hid (Below w.heap.size w w2) := (by first | exact bseq (balloc H1.out _).drew h2 | exact bseq H1.out.drew h2); have hrl := (hrd2 w HH.out).len; have HNN := Lib.hid (HN1.out rs hrl); have HNE : Hid (rs ≠ []) := (fun e => by have := hrl; have := pieces_ne semiB (l.drop (k + 1)); rw [e] at *; simp at *; omega); have HR2 := Lib.hid hr2; have HRD2 := Lib.hid hrd2; have H2 := Lib.hid h2; clear hr2 hrd2 h2 hrl)
          | (refine step_app_rows (cells := TRow.cells) 80 41 1 24 _ tPieces rfl _ _ rfl w.heap.size (.slice (some ⟨w1.heap.size, 0, none⟩) 1 1) 1 [.slice (some ⟨b, off, none⟩) k cap] ?_ ?_ b2 c2 rs rfl ?_ HNE.out (fun _ _ => rfl) (fun y _ u hu => TRow.one y u hu) HNN.out.1 HNN.out.2 ?_ ?_; (first | rfl | simp [Act.eval, Act.put]); (exact own_grow (own_drew (own_one w1 _ _ w.heap.size hsz)) H2.out); (exact HR2.out); (exact Nat.le_trans hsz hs2); intro v' w4 hown4 hb4)
          | (refine step_app_rows (cells := TRow.cells) 80 41 1 24 _ tPieces rfl _ _ rfl w.heap.size (.slice (some ⟨w2.heap.size, 0, none⟩) 1 1) 1 [.slice (some ⟨b, off, none⟩) k cap] ?_ ?_ b2 c2 rs rfl ?_ HNE.out (fun _ _ => rfl) (fun y _ u hu => TRow.one y u hu) HNN.out.1 HNN.out.2 ?_ ?_; (first | rfl | simp [Act.eval, Act.put]); (exact own_one w2 _ _ w.heap.size (Nat.le_trans hsz hs2)); (exact HR2.out.later _); (exact Nat.le_trans (Nat.le_trans hsz hs2) (by simp)); intro v' w4 hown4 hb4))
        all_goals go_wp2
        all_goals
          obtain ⟨b9, c9, rfl, hr9⟩ := Rows.of_own (cells := TRow.cells) (xs := ⟨some ⟨b, off, none⟩, cap, l.take k⟩ :: rs) (by
            have hlk : (l.take k).length = k := by rw [List.length_take]; omega
            have : 1 + rs.length = (⟨some ⟨b, off, none⟩, cap, l.take k⟩ :: rs).length := by simp; omega
            rw [← this]; simpa [TRow.cells, hlk] using hown4) (fun i hi j u hu => by
            have hlk : (l.take k).length = k := by rw [List.length_take]; omega
            have := flat_get TRow.cells 1 (⟨some ⟨b, off, none⟩, cap, l.take k⟩ :: rs) (fun _ _ => rfl) i hi j u hu
            simpa [TRow.cells, hlk] using this) (by have := HNN.out.2; simp; omega)
          have HR9 := Lib.hid hr9
          clear hown4 hr9
          have hB : Below w.heap.size w w4 := by first | exact HB2.out.trans hb4 | exact (balloc HB2.out _).trans hb4
          have hs : ∀ X, RToks X (some ⟨b, off, none⟩) cap l → Reads X (⟨some ⟨b, off, none⟩, cap, l.take k⟩ :: rs) (l.take k :: pieces semiB (l.drop (k + 1))) := fun X hX => (HRD2.out X hX).cons ⟨some ⟨b, off, none⟩, cap, l.take k⟩ (hX.take k cap hk.2 (by omega) (Nat.le_refl _))
          have e2 := HPS.out
          rw [if_neg hend] at e2
          go_ret
          refine ⟨b9, c9, _, rfl, HR9.out, ?_, hB⟩
          rw [e2]
          exact hs
theorem split_r {w : World} {a : Option Addr} {cap : Nat} {l : List TokV} (h : RToks w a cap l) (hl : limC l) :
    Calls Try.prog 59 #[.slice a l.length cap, .int .i64 11] w fun e w' => ∃ b c rs, e = .returned (.slice b rs.length c) ∧ RRows w' b c rs ∧ Reads w' rs (pieces semiB l) ∧ Below w.heap.size w w' :=
  (split_rm (l.length + 1) h hl (Nat.lt_succ_self _)).mono fun e w' ⟨b, c, rs, h1, h2, h3, h4⟩ => ⟨b, c, rs, h1, h2, (h3 w h).grow h4, h4⟩
end Go.Proofs.Ytjljlcflmcjapaa
