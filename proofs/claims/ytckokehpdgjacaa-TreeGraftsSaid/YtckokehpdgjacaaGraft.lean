/-
  Contract of the program's Graft.
-/
import Derived.Test.YtckokehpdgjacaaGraf
namespace Go.Proofs.Ytckokehpdgjacaa
open Go.RowKit Pl
set_option linter.unusedVariables false

theorem one_i64 (p : Int) (t d x : ByteArray) (a b : Option Addr) (n c m e : Nat) : ∀ u ∈ (#[.int .i64 p, .string t, .string d, .slice a n c, .slice b m e, .string x] : Array Value), u.oneCell' = true := by
  intro u hu
  simp at hu
  rcases hu with rfl | rfl | rfl | rfl | rfl | rfl <;> rfl

set_option maxHeartbeats 2000000 in
theorem graft_ok {w : World} {a a' : Option Addr} {cap cap' : Nat} {l m : List NodeV} {L M : List PNode} (hl : RNodes w a cap l) (hm : RNodes w a' cap' m) (hL : RP w l L) (hM : RP w m M)
    (hn : l.length ≤ 100) (hn' : m.length ≤ 100) (c1 : checkP L = 0) (c2 : checkP M = 0) (i : Nat) (hi : i < l.length) (htag : (l[i].tag.toList.isEmpty) = false) :
    Calls Try.prog 39 #[.slice a l.length cap, .int .i64 i, .slice a' m.length cap'] w fun e w' =>
      ((checkP (graftP L i (E (par l) l.length i) M) = 0 ∧ ∃ b c ol, e = .returned (.tuple #[.slice b ol.length c, .int .i64 0]) ∧ RNodes w' b c ol ∧ RP w' ol (graftP L i (E (par l) l.length i) M)) ∨
       (checkP (graftP L i (E (par l) l.length i) M) ≠ 0 ∧ e = .returned (.tuple #[.slice none 0 0, .int .i64 (checkP (graftP L i (E (par l) l.length i) M))]))) ∧ Below w.heap.size w w' := by
  have HC1 := Lib.hid (fun W (h : Below w.heap.size w W) => by have := check_p (hl.grow h) (hL.nodesX.grow h); rw [hL.check, c1] at this; exact this)
  have HC2 := Lib.hid (fun W (h : Below w.heap.size w W) => by have := check_p (hm.grow h) (hM.nodesX.grow h); rw [hM.check, c2] at this; exact this)
  have F1 := tree_facts (hL.check.trans c1)
  have F2 := tree_facts (hM.check.trans c2)
  have HEnd := Lib.hid (fun (W : World) (h : Below w.heap.size w W) => by have := end_p (hl.grow h) (i : Int); rw [endI_E _ hi] at this; exact this)
  have hEb := E_bd (par l) hi
  have hlL := hL.len
  have hlM := hM.len
  have hm0 := F2.1
  have hcap := hl.le
  have hcap' := hm.le
  have hi2 : i < L.length := by omega
  have htag' : L[i].tag.toList.isEmpty = false := by rw [← (hL.at_ i hi hi2).tag]; exact htag
  have GL := Lib.hid (fun W (h : Below w.heap.size w W) => node_at (hl.grow h) (hL.grow h) (by omega))
  have GM := Lib.hid (fun W (h : Below w.heap.size w W) => node_at (hm.grow h) (hM.grow h) (by omega))
  have G1 := Lib.hid (show ∀ k (hk : k < L.length), L[k].cs.length ≤ 8 ∧ L[k].ats.length ≤ 8 ∧ -1 ≤ L[k].parent ∧ L[k].parent < k from fun k hk => by
    have := F1.2.2 k (by omega)
    rw [hL.par] at this
    simpa [csP, atP, Go.Proofs.Ytckokehpdgjacaa.par, hk, PNode.toV] using this)
  have G2 := Lib.hid (show ∀ k (hk : k < M.length), M[k].cs.length ≤ 8 ∧ M[k].ats.length ≤ 8 ∧ -1 ≤ M[k].parent ∧ M[k].parent < k from fun k hk => by
    have := F2.2.2 k (by omega)
    rw [hM.par] at this
    simpa [csP, atP, Go.Proofs.Ytckokehpdgjacaa.par, hk, PNode.toV] using this)
  clear hl hm hL hM F1 F2 c1 c2
  generalize hEm : E (par l) l.length i = em at *
  clear hEm
  clear htag hi
  generalize l.length = nl at *
  generalize m.length = nm at *
  subst hlL hlM
  obtain ⟨b, off, rfl, hb, hc⟩ := GL.out w (Below.refl _ _)
  obtain ⟨b', off', rfl, hb', hc'⟩ := GM.out w (Below.refl _ _)
  have HN := Lib.hid hc; have HM := Lib.hid hc'
  obtain ⟨ac, aa, cc, ca, na⟩ := hc i hi2
  have d1 := na.d1
  clear hc hc' na GL GM
  have hii : (decide ((0 : Int) ≤ (i : Int)) && decide ((i : Int) < (L.length : Int))) = true := by simp; omega
  generalize hty : L[i].tag = ty at *
  have hb0 : Below w.heap.size w (w.alloc (.cells #[.int .i64 (i : Int)] 3)) := balloc (Below.refl _ _) _
  have s1 : (i : Int) + 1 ≤ (cap : Int) := by omega
  go_enter Try.func39, Try.ntmps39
  go_wp2_with (first
    | (go_at_call 28; first
        | (refine (HC1.out _ hb0).mono ?_; clear HC1; rintro e w1 ⟨rfl, h1⟩; have hb1 := bseq hb0 h1)
        | (refine (HC2.out _ hb1).mono ?_; clear HC2; rintro e w2 ⟨rfl, h2⟩; have hb2 := bseq hb1 h2; have h02 := bseq h1 h2; have q0 : w2.cell? ⟨w.heap.size, 0, none⟩ = some (.int .i64 i) := (h02.cell (p := ⟨w.heap.size, 0, none⟩) (by simp)).trans (by simp); have t1 := (hb2.cell (p := ⟨b, off + i * 6 + 1, none⟩) hb).trans d1; have z2 : w.heap.size < w2.heap.size := Nat.lt_of_lt_of_le (by simp) h02.size; clear h1 h2 h02 hb1 hb0))
    | (go_at_call 72; refine (is_p _ _ _ _ _).mono ?_; rintro e w' ⟨rfl, rfl⟩)
    | (go_at_call 37; refine (HEnd.out _ hb2).mono ?_; rintro e w' ⟨rfl, rfl⟩))
  have hbS := balloc (balloc hb2 (.cells #[.int .i64 (em : Int)] 3)) (.cells #[.int .i64 ((M.length : Int) - ((em : Int) - (i : Int)))] 3)
  have qi := ((balloc (balloc (Below.refl w2.heap.size w2) (.cells #[.int .i64 (em : Int)] 3)) (.cells #[.int .i64 ((M.length : Int) - ((em : Int) - (i : Int)))] 3)).cell (p := ⟨w.heap.size, 0, none⟩) z2).trans q0
  have qe : ((w2.alloc (.cells #[.int .i64 (em : Int)] 3)).alloc (.cells #[.int .i64 ((M.length : Int) - ((em : Int) - (i : Int)))] 3)).cell? ⟨w2.heap.size, 0, none⟩ = some (.int .i64 em) := by simp
  have qs : ((w2.alloc (.cells #[.int .i64 (em : Int)] 3)).alloc (.cells #[.int .i64 ((M.length : Int) - ((em : Int) - (i : Int)))] 3)).cell? ⟨w2.heap.size + 1, 0, none⟩ = some (.int .i64 ((M.length : Int) - ((em : Int) - (i : Int)))) := by simp
  have zi : w.heap.size < ((w2.alloc (.cells #[.int .i64 (em : Int)] 3)).alloc (.cells #[.int .i64 ((M.length : Int) - ((em : Int) - (i : Int)))] 3)).heap.size := by simp; omega
  have ze : w2.heap.size + 1 < ((w2.alloc (.cells #[.int .i64 (em : Int)] 3)).alloc (.cells #[.int .i64 ((M.length : Int) - ((em : Int) - (i : Int)))] 3)).heap.size := by simp
  generalize (w2.alloc (.cells #[.int .i64 (em : Int)] 3)).alloc (.cells #[.int .i64 ((M.length : Int) - ((em : Int) - (i : Int)))] 3) = WS at *
  clear q0 t1 z2 hb2 HEnd
  generalize w2.heap.size = ge at *
  generalize hwz : w.heap.size = gi at *
  go_loopw [10, 54] (fun v t wr => ∃ (k : Nat) (ol : List NodeV), t = .int .i64 k ∧ k ≤ i + 1 ∧ wr.ownsRow WS.heap.size 54 6 v ol.length ((ol.map NodeV.cells).flatten) ∧ RO wr ol (seg L 0 (fun P => P) k) ∧ Below WS.heap.size WS wr) (fun _ t _ => i + 1 - (intOf t).toNat)
  case atStart => exact ⟨0, [], rfl, Nat.zero_le _, World.ownsRow_nil _ _ _ _, by rw [seg_zero]; exact RO.nil _, Below.refl _ _⟩
  case round =>
    obtain ⟨k, ol, rfl, hk, hown, hRO, hbl⟩ := hrel
    have hol : ol.length ≤ k := by have := hRO.len; have := seg_len L 0 (fun P => P) k; omega
    have hRO := Lib.hid hRO
    by_cases hlt : k < i + 1
    · have e1 : decide ((k : Int) < (i : Int) + 1) = true := by simp; omega
      obtain ⟨ac, aa, cc, ca, na⟩ := HN.out k (by omega)
      have nb := na.grow (by rw [hwz]; exact hb) ((bseq (by rw [hwz]; exact hbS) hbl))
      clear na
      have hstep := seg_step L 0 (fun P => P) k (by omega)
      have hg1 := G1.out k (by omega)
      simp only [Nat.zero_add] at hstep
      generalize L[k] = P at *
      have HS := Lib.hid hstep
      clear hstep
      have HCop := Lib.hid (fun W (h : Below wr.heap.size wr W) => copied_p (nb.rc.grow h) (nb.ra.grow h) (by omega) (by omega) P.parent P.tag P.id P.text)
      obtain ⟨d0, d1, d2, d3, d4, d5⟩ := (show _ ∧ _ ∧ _ ∧ _ ∧ _ ∧ _ from ⟨nb.d0, nb.d1, nb.d2, nb.d3, nb.d4, nb.d5⟩)
      have HNB := Lib.hid nb
      clear nb
      go_wp2_with (first
        | (go_at_call 74; refine (HCop.out _ (by (repeat (refine Below.setCell ?_ (by simp only; omega) _)); exact balloc (Below.refl _ _) _)).mono ?_; rintro e w3 ⟨a3, c3, a4, c4, rfl, hr1, hr2, hn1, hn2, ht1, ht2, h3⟩; have hb3 : Below wr.heap.size wr w3 := bseq (by (repeat (refine Below.setCell ?_ (by simp only; omega) _)); exact balloc (Below.refl _ _) _) h3; have hr := Lib.hid (And.intro hr1 (And.intro hr2 (And.intro ht1 ht2))); clear hr1 hr2 hn1 hn2 ht1 ht2)
        | (at_builtin; refine wpList_app2 22 54 6 104 _ tNodes rfl _ _ rfl WS.heap.size _ _ _ rfl (own_grow hown hb3) 1 #[.int .i64 P.parent, .string P.tag, .string P.id, .slice a3 P.cs.length c3, .slice a4 P.ats.length c4, .string P.text] rfl rfl (one_i64 _ _ _ _ _ _ _ _ _ _) (by omega) (by omega) (Nat.le_trans hbl.size hb3.size) ?_; intro v' w4 hown4 hg4 hb4))
      go_roundw
      case rel =>
        obtain ⟨hr1, hr2, ht1, ht2⟩ := hr.out
        have o3 := own_grow hown hb3
        refine ⟨k + 1, ol ++ [⟨P.parent, P.tag, P.id, .slice a3 P.cs.length c3, .slice a4 P.ats.length c4, P.text⟩], by simp, hlt, ?_, ?_, hbl.trans ((hb3.mono hbl.size).trans hb4)⟩
        · simpa [NodeV.cells] using hown4
        · rw [HS.out]
          exact ((hRO.out.grow hb3).grown o3 hg4).snoc ((HNB.out.rno hr1 hr2 ht1 ht2 P.parent).grown o3 hg4)
      case measure => simp [intOf] <;> omega
    · obtain rfl : k = i + 1 := by omega
      have m0 : (1 : Int) ≤ (M.length : Int) := by omega
      have HRO1 := hRO
      have hown1 := hown
      clear hRO hown hol hk
      go_wp2_with fail
      all_goals
        go_loopw [10, 67] (fun v t wr => ∃ (k : Nat) (ol : List NodeV), t = .int .i64 k ∧ k ≤ M.length - 1 ∧ wr.ownsRow WS.heap.size 54 6 v ol.length ((ol.map NodeV.cells).flatten) ∧ RO wr ol (seg L 0 (fun P => P) (i + 1) ++ seg M 1 (addP i) k) ∧ Below WS.heap.size WS wr) (fun _ t _ => M.length - 1 - (intOf t).toNat)
        case atStart => exact ⟨0, ol, rfl, Nat.zero_le _, hown1, by rw [seg_zero, List.append_nil]; exact HRO1.out, hbl⟩
        case round =>
          clear hbl hown1 HRO1
          obtain ⟨k, ol, rfl, hk, hown, hRO, hbl⟩ := hrel
          have hol : ol.length ≤ 400 := by have h1 := hRO.len; have h2 := seg_len L 0 (fun P => P) (i + 1); have h3 := seg_len M 1 (addP i) k; rw [List.length_append] at h1; omega
          have hRO := Lib.hid hRO
          by_cases hlt : k < M.length - 1
          · first
            | (exfalso; omega)
            | (have e1 : decide ((k : Int) < (M.length : Int) - 1) = true := by simp; omega
               have e2 : decide ((k : Int) < ((M.length - 1 : Nat) : Int)) = true := by simp; omega
               obtain ⟨ac, aa, cc, ca, na⟩ := HM.out (k + 1) (by omega)
               rw [show off' + (k + 1) * 6 = off' + 6 + k * 6 by omega] at na
               have nb := na.grow (by rw [hwz]; exact hb') ((bseq (by rw [hwz]; exact hbS) hbl))
               clear na
               have hstep := seg_step M 1 (addP i) k (by omega)
               have hg1 := G2.out (k + 1) (by omega)
               simp only [Nat.add_comm 1 k] at hstep
               generalize M[k + 1] = P at *
               have HS := Lib.hid hstep
               clear hstep
               have HCop := Lib.hid (fun W (h : Below wr.heap.size wr W) => moved_p (nb.rc.grow h) (nb.ra.grow h) (by omega) (by omega) P.parent P.tag P.id P.text 76 #[] #[.pointer (some ⟨gi, 0, none⟩)] (fun p => p + i) (fun args w' => rfl)
                 (fun W' h' => clo1 P.parent i gi W' ((bseq (bseq hbl h) h').cell (p := ⟨gi, 0, none⟩) zi |>.trans qi) (by omega) (by omega) (by omega)))
               obtain ⟨d0, d1, d2, d3, d4, d5⟩ := (show _ ∧ _ ∧ _ ∧ _ ∧ _ ∧ _ from ⟨nb.d0, nb.d1, nb.d2, nb.d3, nb.d4, nb.d5⟩)
               have HNB := Lib.hid nb
               clear nb
               go_wp2_with (first
                 | (go_at_call 75; refine (HCop.out _ (by (repeat (refine Below.setCell ?_ (by simp only; omega) _)); exact balloc (Below.refl _ _) _)).mono ?_; rintro e w3 ⟨a3, c3, a4, c4, rfl, hr1, hr2, ht1, ht2, h3⟩; have hb3 : Below wr.heap.size wr w3 := bseq (by (repeat (refine Below.setCell ?_ (by simp only; omega) _)); exact balloc (Below.refl _ _) _) h3; have hr := Lib.hid (And.intro hr1 (And.intro hr2 (And.intro ht1 ht2))); clear hr1 hr2 ht1 ht2)
                 | (at_builtin; refine wpList_app2 22 54 6 104 _ tNodes rfl _ _ rfl WS.heap.size _ _ _ rfl (own_grow hown hb3) 1 #[.int .i64 (P.parent + i), .string P.tag, .string P.id, .slice a3 P.cs.length c3, .slice a4 P.ats.length c4, .string P.text] rfl rfl (one_i64 _ _ _ _ _ _ _ _ _ _) (by omega) (by omega) (Nat.le_trans hbl.size hb3.size) ?_; intro v' w4 hown4 hg4 hb4))
               go_roundw
               case rel =>
                 obtain ⟨hr1, hr2, ht1, ht2⟩ := hr.out
                 have o3 := own_grow hown hb3
                 refine ⟨k + 1, ol ++ [⟨P.parent + i, P.tag, P.id, .slice a3 P.cs.length c3, .slice a4 P.ats.length c4, P.text⟩], by simp, hlt, ?_, ?_, hbl.trans ((hb3.mono hbl.size).trans hb4)⟩
                 · simpa [NodeV.cells] using hown4
                 · rw [HS.out, ← List.append_assoc]
                   exact ((hRO.out.grow hb3).grown o3 hg4).snoc ((HNB.out.rno hr1 hr2 ht1 ht2 (P.parent + i)).grown o3 hg4)
               case measure => simp [intOf] <;> omega)
          · obtain rfl : k = M.length - 1 := by omega
            have qe' : wr.cell? ⟨ge, 0, none⟩ = some (.int .i64 em) := (hbl.cell (p := ⟨ge, 0, none⟩) (show ge < WS.heap.size by omega)).trans qe
            have s2 : (em : Int) ≤ (L.length : Int) := by omega
            have s3 : (em : Int) ≤ (cap : Int) := by omega
            have HRO5 := hRO
            have hown5 := hown
            clear hRO hown hol hk
            go_wp2_with fail
            all_goals
              go_loopw [10, 82] (fun v t wr => ∃ (k : Nat) (ol : List NodeV), t = .int .i64 k ∧ k ≤ L.length - em ∧ wr.ownsRow WS.heap.size 54 6 v ol.length ((ol.map NodeV.cells).flatten) ∧ RO wr ol ((seg L 0 (fun P => P) (i + 1) ++ seg M 1 (addP i) (M.length - 1)) ++ seg L em (shiftP em ((M.length : Int) - ((em : Int) - i))) k) ∧ Below WS.heap.size WS wr) (fun _ t _ => L.length - em - (intOf t).toNat)
              case atStart => exact ⟨0, ol, rfl, Nat.zero_le _, hown5, by rw [seg_zero, List.append_nil]; exact HRO5.out, hbl⟩
              case round =>
                clear hbl hown5 HRO5
                obtain ⟨k, ol, rfl, hk, hown, hRO, hbl⟩ := hrel
                have hol : ol.length ≤ 400 := by have h1 := hRO.len; have h2 := seg_len L 0 (fun P => P) (i + 1); have h3 := seg_len M 1 (addP i) (M.length - 1); have h4 := seg_len L em (shiftP em ((M.length : Int) - ((em : Int) - i))) k; rw [List.length_append, List.length_append] at h1; omega
                have hRO := Lib.hid hRO
                by_cases hlt : k < L.length - em
                · first
                  | (exfalso; omega)
                  | (have e1 : decide ((k : Int) < (L.length : Int) - (em : Int)) = true := by simp; omega
                     have e2 : decide ((k : Int) < ((L.length - em : Nat) : Int)) = true := by simp; omega
                     obtain ⟨ac, aa, cc, ca, na⟩ := HN.out (em + k) (by omega)
                     rw [show off + (em + k) * 6 = off + em * 6 + k * 6 by omega] at na
                     have nb := na.grow (by rw [hwz]; exact hb) ((bseq (by rw [hwz]; exact hbS) hbl))
                     clear na
                     have hstep := seg_step L em (shiftP em ((M.length : Int) - ((em : Int) - i))) k (by omega)
                     have hg1 := G1.out (em + k) (by omega)
                     skip
                     generalize L[em + k] = P at *
                     have HS := Lib.hid hstep
                     clear hstep
                     have HCop := Lib.hid (fun W (h : Below wr.heap.size wr W) => moved_p (nb.rc.grow h) (nb.ra.grow h) (by omega) (by omega) P.parent P.tag P.id P.text 77 #[] #[.pointer (some ⟨ge, 0, none⟩), .pointer (some ⟨ge + 1, 0, none⟩)] (fun p => if (em : Int) ≤ p then p + ((M.length : Int) - ((em : Int) - i)) else p) (enters Try.func77 (by kernel_rfl) rfl)
                       (fun W' h' => clo2 P.parent ((M.length : Int) - ((em : Int) - i)) em ge (ge + 1) W' ((bseq (bseq hbl h) h').cell (p := ⟨ge, 0, none⟩) (show ge < WS.heap.size by omega) |>.trans qe) ((bseq (bseq hbl h) h').cell (p := ⟨ge + 1, 0, none⟩) ze |>.trans qs) (by omega) (by omega) (by omega) (by omega)))
                     obtain ⟨d0, d1, d2, d3, d4, d5⟩ := (show _ ∧ _ ∧ _ ∧ _ ∧ _ ∧ _ from ⟨nb.d0, nb.d1, nb.d2, nb.d3, nb.d4, nb.d5⟩)
                     have HNB := Lib.hid nb
                     clear nb
                     go_wp2_with (first
                       | (go_at_call 75; refine (HCop.out _ (by (repeat (refine Below.setCell ?_ (by simp only; omega) _)); exact balloc (Below.refl _ _) _)).mono ?_; rintro e w3 ⟨a3, c3, a4, c4, rfl, hr1, hr2, ht1, ht2, h3⟩; have hb3 : Below wr.heap.size wr w3 := bseq (by (repeat (refine Below.setCell ?_ (by simp only; omega) _)); exact balloc (Below.refl _ _) _) h3; have hr := Lib.hid (And.intro hr1 (And.intro hr2 (And.intro ht1 ht2))); clear hr1 hr2 ht1 ht2)
                       | (at_builtin; refine wpList_app2 22 54 6 104 _ tNodes rfl _ _ rfl WS.heap.size _ _ _ rfl (own_grow hown hb3) 1 #[.int .i64 (if (em : Int) ≤ P.parent then P.parent + ((M.length : Int) - ((em : Int) - i)) else P.parent), .string P.tag, .string P.id, .slice a3 P.cs.length c3, .slice a4 P.ats.length c4, .string P.text] rfl rfl (one_i64 _ _ _ _ _ _ _ _ _ _) (by omega) (by omega) (Nat.le_trans hbl.size hb3.size) ?_; intro v' w4 hown4 hg4 hb4))
                     go_roundw
                     case rel =>
                       obtain ⟨hr1, hr2, ht1, ht2⟩ := hr.out
                       have o3 := own_grow hown hb3
                       refine ⟨k + 1, ol ++ [⟨(if (em : Int) ≤ P.parent then P.parent + ((M.length : Int) - ((em : Int) - i)) else P.parent), P.tag, P.id, .slice a3 P.cs.length c3, .slice a4 P.ats.length c4, P.text⟩], by simp, hlt, ?_, ?_, hbl.trans ((hb3.mono hbl.size).trans hb4)⟩
                       · simpa [NodeV.cells] using hown4
                       · rw [HS.out, ← List.append_assoc]
                         exact ((hRO.out.grow hb3).grown o3 hg4).snoc ((HNB.out.rno hr1 hr2 ht1 ht2 _).grown o3 hg4)
                     case measure => simp [intOf] <;> omega)
                · obtain rfl : k = L.length - em := by omega
                  obtain ⟨b9, c9, rfl, hr9⟩ := Rows.of_own (cells := NodeV.cells) (xs := ol) hown (fun k hk j u hu => flat_get NodeV.cells 6 ol (fun _ _ => rfl) k hk j u hu) (by omega)
                  have HK := Lib.hid (by have := check_p hr9 hRO.out.rp.nodesX; rw [hRO.out.rp.check] at this; exact this)
                  have HR9 := Lib.hid hr9
                  have z9 : gi ≤ wr.heap.size := Nat.le_trans (Nat.le_of_lt zi) hbl.size
                  have hb9 : Below gi w wr := hbS.trans (hbl.mono (Nat.le_of_lt zi))
                  clear hown hr9
                  have hG : graftP L i em M = (seg L 0 (fun P => P) (i + 1) ++ seg M 1 (addP i) (M.length - 1)) ++ seg L em (shiftP em ((M.length : Int) - ((em : Int) - i))) (L.length - em) := rfl
                  rw [← hG] at HK hRO
                  clear hG
                  by_cases hz : checkP (graftP L i em M) = 0
                  · rw [hz] at HK
                    have Hz := Lib.hid hz
                    clear hz
                    go_wp2_with (go_at_call 28; refine HK.out.mono ?_; rintro e w9 ⟨rfl, h9⟩)
                    go_ret2
                    rw [hwz]
                    exact ⟨Or.inl ⟨Hz.out, b9, c9, ol, rfl, HR9.out.grow h9, hRO.out.rp.grow h9⟩, hb9.trans (h9.mono z9)⟩
                  · have Hz := Lib.hid hz
                    generalize hcv : checkP (graftP L i em M) = cv at *
                    have zc : (cv != 0) = true := by simpa using hz
                    clear hz
                    go_wp2_with (go_at_call 28; refine HK.out.mono ?_; rintro e w9 ⟨rfl, h9⟩)
                    go_ret2
                    rw [hcv, hwz]
                    exact ⟨Or.inr ⟨Hz.out, rfl⟩, hb9.trans (h9.mono z9)⟩

end Go.Proofs.Ytckokehpdgjacaa
