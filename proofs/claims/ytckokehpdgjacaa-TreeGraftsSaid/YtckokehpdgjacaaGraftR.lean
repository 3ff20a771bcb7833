/-
  Contract of the reference's Graft.
-/
import Derived.Test.YtckokehpdgjacaaGraf
namespace Go.Proofs.Ytckokehpdgjacaa
open Go.RowKit Pl
set_option linter.unusedVariables false

theorem NodeAt.rpn' {W w' : World} {b o : Nat} {P : PNode} {ac aa : Option Addr} {cc ca : Nat} (h : NodeAt W b o P ac aa cc ca) (hb : Below W.heap.size W w') (q : Int) :
    RPN w' ⟨q, P.tag, P.id, .slice ac P.cs.length cc, .slice aa P.ats.length ca, P.text⟩ { P with parent := q } := h.rpn (h.rc.grow hb) (h.ra.grow hb) q

/-- append of what one new block holds; the block's number spelled as it stands -/
theorem wpList_appg {P : Program} {w : World} {ops : Array Oper} {rest : List Oper} {o : Oper} {a : Act} {Q : Exit → Act → World → Prop}
    (t e : TypeId) (size bytes : Nat) (z : Value) (hT : SliceT P t e size bytes z) (hgd : o.guard = none) (s x : Operand)
    (ho : o.op = .call { callee := .builtin .append, args := #[s, x], argTypes := #[t, t] })
    (base : Nat) (v : Value) (n : Nat) (xs : List Value) (hs : a.eval s = v) (hown : w.ownsRow base e size v n xs)
    (m : Nat) (news : Array Value) (g : Nat) (hx : a.eval x = .slice (some ⟨g, 0, none⟩) m m) (hgz : g = w.heap.size) (hl : news.size = m * size) (h1 : ∀ u ∈ news, u.oneCell' = true)
    (hbytes : (n + m) * bytes ≤ 140737488355328) (hn : n + m ≤ 17592186044416) (hbase : base ≤ w.heap.size)
    (h : ∀ v' w', w'.ownsRow base e size v' (n + m) (xs ++ news.toList) → Below base w w' → wpList P ops Q rest (a.put o.dst v') w') :
    wpList P ops Q (o :: rest) a (w.alloc (.cells news e)) := by
  subst hgz
  exact wpList_app t e size bytes z hT hgd s x ho base v n xs hs hown m news hx hl h1 hbytes hn hbase h

theorem one_i64r (p : Int) (t d x : ByteArray) (a b : Option Addr) (n c m e : Nat) : ∀ u ∈ (#[.int .i64 p, .string t, .string d, .slice a n c, .slice b m e, .string x] : Array Value), u.oneCell' = true := by
  intro u hu
  simp at hu
  rcases hu with rfl | rfl | rfl | rfl | rfl | rfl <;> rfl
theorem seg_at (S : List PNode) (off : Nat) (f : PNode → PNode) (k : Nat) (h0 : off ≤ k) (h : k < S.length) : seg S off f (k + 1 - off) = seg S off f (k - off) ++ [f S[k]] := by
  have := seg_step S off f (k - off) (by omega)
  rw [show k + 1 - off = k - off + 1 by omega, this]
  simp [show off + (k - off) = k by omega]

set_option maxRecDepth 4000 in
set_option maxHeartbeats 4000000 in
theorem graft_r {w : World} {a a' : Option Addr} {cap cap' : Nat} {l m : List NodeV} {L M : List PNode} (hl : RNodes w a cap l) (hm : RNodes w a' cap' m) (hL : RP w l L) (hM : RP w m M)
    (hn : l.length ≤ 100) (hn' : m.length ≤ 100) (c1 : checkP L = 0) (c2 : checkP M = 0) (i : Nat) (hi : i < l.length) :
    Calls Try.prog 40 #[.slice a l.length cap, .int .i64 i, .slice a' m.length cap'] w fun e w' =>
      ∃ b c ol, e = .returned (.slice b ol.length c) ∧ RNodes w' b c ol ∧ RP w' ol (graftP L i (E (par l) l.length i) M) ∧ Below w.heap.size w w' := by
  have F1 := tree_facts (hL.check.trans c1)
  have F2 := tree_facts (hM.check.trans c2)
  have HEnd := Lib.hid (fun (W : World) (h : Below w.heap.size w W) => by have := end_r (hl.grow h) (i : Int); rw [endI_E _ hi] at this; exact this)
  have hEb := E_bd (par l) hi
  have hlL := hL.len
  have hlM := hM.len
  have hm0 := F2.1
  have GL := Lib.hid (node_at hl hL (by omega))
  have GM := Lib.hid (node_at hm hM (by omega))
  have G1 := Lib.hid (show ∀ k (hk : k < L.length), L[k].cs.length ≤ 8 ∧ L[k].ats.length ≤ 8 ∧ -1 ≤ L[k].parent ∧ L[k].parent < k from fun k hk => by
    have := F1.2.2 k (by omega)
    rw [hL.par] at this
    simpa [csP, atP, Go.Proofs.Ytckokehpdgjacaa.par, hk, PNode.toV] using this)
  have G2 := Lib.hid (show ∀ k (hk : k < M.length), M[k].cs.length ≤ 8 ∧ M[k].ats.length ≤ 8 ∧ -1 ≤ M[k].parent ∧ M[k].parent < k from fun k hk => by
    have := F2.2.2 k (by omega)
    rw [hM.par] at this
    simpa [csP, atP, Go.Proofs.Ytckokehpdgjacaa.par, hk, PNode.toV] using this)
  clear hl hm hL hM F1 F2 c1 c2
  generalize hEm : E (par l) l.length i = em at *
  clear hEm
  generalize l.length = nl at *
  generalize m.length = nm at *
  subst hlL hlM
  obtain ⟨b, off, rfl, hb, hc⟩ := GL.out
  obtain ⟨b', off', rfl, hb', hc'⟩ := GM.out
  have HN := Lib.hid hc; have HM := Lib.hid hc'
  clear hc hc' GL GM
  go_enter Try.func40, Try.ntmps40
  go_wp2_with (go_at_call 38; refine (HEnd.out _ (Below.refl _ _)).mono ?_; rintro e w' ⟨rfl, rfl⟩)
  go_loopw [7, 9] (fun v t wr => ∃ (k : Nat) (ol : List NodeV), t = .int .i64 k ∧ k ≤ i + 1 ∧ wr.ownsRow w.heap.size 54 6 v ol.length ((ol.map NodeV.cells).flatten) ∧ RP w ol (seg L 0 (fun P => P) k) ∧ Below w.heap.size w wr) (fun _ t _ => i + 1 - (intOf t).toNat)
  case atStart => exact ⟨0, [], rfl, Nat.zero_le _, World.ownsRow_nil _ _ _ _, by rw [seg_zero]; exact RP.nil _, Below.refl _ _⟩
  case round =>
    obtain ⟨k, ol, rfl, hk, hown, hRO, hbl⟩ := hrel
    have hol : ol.length ≤ k := by have := hRO.len; have := seg_len L 0 (fun P => P) k; omega
    have hRO := Lib.hid hRO
    by_cases hlt : k < i + 1
    · have e1 : decide ((k : Int) ≤ (i : Int)) = true := by simp; omega
      obtain ⟨ac, aa, cc, ca, na⟩ := HN.out k (by omega)
      have nb := na.grow hb hbl
      have hstep := seg_step L 0 (fun P => P) k (by omega)
      simp only [Nat.zero_add] at hstep
      generalize L[k] = P at *
      have HS := Lib.hid hstep
      clear hstep
      obtain ⟨d0, d1, d2, d3, d4, d5⟩ := (show _ ∧ _ ∧ _ ∧ _ ∧ _ ∧ _ from ⟨nb.d0, nb.d1, nb.d2, nb.d3, nb.d4, nb.d5⟩)
      have HNA := Lib.hid na
      clear nb na
      go_wp2_with (at_builtin; refine wpList_app 22 54 6 104 _ tNodes rfl _ _ rfl w.heap.size _ _ _ rfl hown 1 #[.int .i64 P.parent, .string P.tag, .string P.id, .slice ac P.cs.length cc, .slice aa P.ats.length ca, .string P.text] rfl rfl (by intro u hu; simp at hu; rcases hu with rfl | rfl | rfl | rfl | rfl | rfl <;> rfl) (by omega) (by omega) hbl.size ?_; intro v' w4 hown4 hb4)
      go_roundw
      case rel =>
        refine ⟨k + 1, ol ++ [⟨P.parent, P.tag, P.id, .slice ac P.cs.length cc, .slice aa P.ats.length ca, P.text⟩], by simp, hlt, ?_, ?_, hbl.trans hb4⟩
        · simpa [NodeV.cells] using hown4
        · rw [HS.out]
          exact hRO.out.snoc (HNA.out.rpn' (Below.refl _ _) P.parent)
      case measure => simp [intOf] <;> omega
    · obtain rfl : k = i + 1 := by omega
      have m0 : (1 : Int) ≤ (M.length : Int) := by omega
      have HRO1 := hRO
      have hown1 := hown
      clear hRO hown hol hk
      go_wp2_with fail
      go_loopw [7, 10] (fun v t wr => ∃ (k : Nat) (ol : List NodeV), t = .int .i64 k ∧ 1 ≤ k ∧ k ≤ M.length ∧ wr.ownsRow w.heap.size 54 6 v ol.length ((ol.map NodeV.cells).flatten) ∧ RP w ol (seg L 0 (fun P => P) (i + 1) ++ seg M 1 (addP i) (k - 1)) ∧ Below w.heap.size w wr) (fun _ t _ => M.length - (intOf t).toNat)
      case atStart => exact ⟨1, ol, rfl, Nat.le_refl _, by omega, hown1, by rw [Nat.sub_self, seg_zero, List.append_nil]; exact HRO1.out, hbl⟩
      case round =>
        clear hbl hown1 HRO1
        obtain ⟨k, ol, rfl, hk1, hk, hown, hRO, hbl⟩ := hrel
        have hol : ol.length ≤ 400 := by have h1 := hRO.len; have h2 := seg_len L 0 (fun P => P) (i + 1); have h3 := seg_len M 1 (addP i) (k - 1); rw [List.length_append] at h1; omega
        have hRO := Lib.hid hRO
        by_cases hlt : k < M.length
        · have e1 : decide ((k : Int) < (M.length : Int)) = true := by simp; omega
          obtain ⟨ac, aa, cc, ca, na⟩ := HM.out k (by omega)
          have nb := na.grow hb' hbl
          have hstep := seg_at M 1 (addP i) k hk1 hlt
          have hg1 := G2.out k hlt
          generalize M[k] = P at *
          have HS := Lib.hid hstep
          clear hstep
          obtain ⟨d0, d1, d2, d3, d4, d5⟩ := (show _ ∧ _ ∧ _ ∧ _ ∧ _ ∧ _ from ⟨nb.d0, nb.d1, nb.d2, nb.d3, nb.d4, nb.d5⟩)
          have HNA := Lib.hid na
          clear nb na
          go_wp2_with (at_builtin; refine wpList_appg 22 54 6 104 _ tNodes rfl _ _ rfl w.heap.size _ _ _ rfl (own_grow hown (balloc (Below.refl _ _) _)) 1 #[.int .i64 (P.parent + i), .string P.tag, .string P.id, .slice ac P.cs.length cc, .slice aa P.ats.length ca, .string P.text] _ rfl (by simp) rfl (one_i64r _ _ _ _ _ _ _ _ _ _) (by omega) (by omega) (Nat.le_trans hbl.size (by simp)) ?_; intro v' w4 hown4 hb4)
          go_roundw
          case rel =>
            refine ⟨k + 1, by simp, by omega, hlt, ol ++ [⟨P.parent + i, P.tag, P.id, .slice ac P.cs.length cc, .slice aa P.ats.length ca, P.text⟩], ?_, ?_, ?_⟩
            · simpa [NodeV.cells] using hown4
            · rw [HS.out, ← List.append_assoc]
              exact hRO.out.snoc (HNA.out.rpn' (Below.refl _ _) (P.parent + i))
            · exact (balloc hbl _).trans hb4
          case measure => simp [intOf] <;> omega
        · obtain rfl : k = M.length := by omega
          have HRO5 := hRO
          have hown5 := hown
          clear hRO hown hol hk
          go_wp2_with fail
          go_loopw [7, 12] (fun v t wr => ∃ (k : Nat) (ol : List NodeV), t = .int .i64 k ∧ em ≤ k ∧ k ≤ L.length ∧ wr.ownsRow w.heap.size 54 6 v ol.length ((ol.map NodeV.cells).flatten) ∧ RP w ol ((seg L 0 (fun P => P) (i + 1) ++ seg M 1 (addP i) (M.length - 1)) ++ seg L em (shiftP em ((M.length : Int) - ((em : Int) - i))) (k - em)) ∧ Below w.heap.size w wr) (fun _ t _ => L.length - (intOf t).toNat)
          case atStart => exact ⟨em, ol, rfl, Nat.le_refl _, by omega, hown5, by rw [Nat.sub_self, seg_zero, List.append_nil]; exact HRO5.out, hbl⟩
          case round =>
            clear hbl hown5 HRO5
            obtain ⟨k, ol, rfl, hk1, hk, hown, hRO, hbl⟩ := hrel
            have hol : ol.length ≤ 400 := by have h1 := hRO.len; have h2 := seg_len L 0 (fun P => P) (i + 1); have h3 := seg_len M 1 (addP i) (M.length - 1); have h4 := seg_len L em (shiftP em ((M.length : Int) - ((em : Int) - i))) (k - em); rw [List.length_append, List.length_append] at h1; omega
            have hRO := Lib.hid hRO
            by_cases hlt : k < L.length
            · have e1 : decide ((k : Int) < (L.length : Int)) = true := by simp; omega
              obtain ⟨ac, aa, cc, ca, na⟩ := HN.out k (by omega)
              have nb := na.grow hb hbl
              have hstep := seg_at L em (shiftP em ((M.length : Int) - ((em : Int) - i))) k hk1 hlt
              have hg1 := G1.out k hlt
              generalize L[k] = P at *
              have HS := Lib.hid hstep
              clear hstep
              obtain ⟨d0, d1, d2, d3, d4, d5⟩ := (show _ ∧ _ ∧ _ ∧ _ ∧ _ ∧ _ from ⟨nb.d0, nb.d1, nb.d2, nb.d3, nb.d4, nb.d5⟩)
              have HNA := Lib.hid na
              clear nb na
              by_cases hp : (em : Int) ≤ P.parent
              · go_wp2_with (at_builtin; refine wpList_appg 22 54 6 104 _ tNodes rfl _ _ rfl w.heap.size _ _ _ rfl (own_grow hown (balloc (Below.refl _ _) _)) 1 #[.int .i64 (P.parent - em + i + M.length), .string P.tag, .string P.id, .slice ac P.cs.length cc, .slice aa P.ats.length ca, .string P.text] _ rfl (by simp) rfl (one_i64r _ _ _ _ _ _ _ _ _ _) (by omega) (by omega) (Nat.le_trans hbl.size (by simp)) ?_; intro v' w4 hown4 hb4)
                go_roundw
                case rel =>
                  refine ⟨k + 1, by simp, by omega, hlt, ol ++ [⟨P.parent - em + i + M.length, P.tag, P.id, .slice ac P.cs.length cc, .slice aa P.ats.length ca, P.text⟩], ?_, ?_, ?_⟩
                  · simpa [NodeV.cells] using hown4
                  · rw [HS.out, ← List.append_assoc, ← List.append_assoc]
                    have := HNA.out.rpn' (Below.refl _ _) (P.parent - em + i + M.length)
                    have e : P.parent - em + i + M.length = P.parent + ((M.length : Int) - ((em : Int) - i)) := by omega
                    refine hRO.out.snoc ?_
                    rw [shiftP, if_pos hp, ← e]
                    exact this
                  · exact (balloc hbl _).trans hb4
                case measure => simp [intOf] <;> omega
              · go_wp2_with (at_builtin; refine wpList_appg 22 54 6 104 _ tNodes rfl _ _ rfl w.heap.size _ _ _ rfl (own_grow hown (balloc (Below.refl _ _) _)) 1 #[.int .i64 P.parent, .string P.tag, .string P.id, .slice ac P.cs.length cc, .slice aa P.ats.length ca, .string P.text] _ rfl (by simp) rfl (one_i64r _ _ _ _ _ _ _ _ _ _) (by omega) (by omega) (Nat.le_trans hbl.size (by simp)) ?_; intro v' w4 hown4 hb4)
                go_roundw
                case rel =>
                  refine ⟨k + 1, by simp, by omega, hlt, ol ++ [⟨P.parent, P.tag, P.id, .slice ac P.cs.length cc, .slice aa P.ats.length ca, P.text⟩], ?_, ?_, ?_⟩
                  · simpa [NodeV.cells] using hown4
                  · rw [HS.out, ← List.append_assoc, ← List.append_assoc]
                    refine hRO.out.snoc ?_
                    rw [shiftP, if_neg (by omega)]
                    exact HNA.out.rpn' (Below.refl _ _) P.parent
                  · exact (balloc hbl _).trans hb4
                case measure => simp [intOf] <;> omega
            · obtain rfl : k = L.length := by omega
              obtain ⟨b9, c9, rfl, hr9⟩ := Rows.of_own (cells := NodeV.cells) (xs := ol) hown (fun k hk j u hu => flat_get NodeV.cells 6 ol (fun _ _ => rfl) k hk j u hu) (by omega)
              have HR9 := Lib.hid hr9
              clear hown hr9
              go_wp2_with fail
              go_ret
              exact ⟨b9, c9, ol, rfl, HR9.out, hRO.out.grow hbl, hbl⟩

end Go.Proofs.Ytckokehpdgjacaa
