/-
  Contract of the program's Check: is a list a tree?
-/
import Derived.Test.YtckokehpdgjacaaTree6
namespace Go.Proofs.Ytckokehpdgjacaa
open Go.RowKit Pl
set_option linter.unusedVariables false

/-- the depths reckoned so far lie in block g -/
def DepsIn (p : Nat → Int) (n g k : Nat) (w : World) : Prop := ∃ cur : Array Value, w.heap[g]? = some (.cells cur 3 (0, 0)) ∧ cur.size = n ∧ ∀ j, j < k → cur[j]? = some (.int .i64 (dep p j))

theorem DepsIn.grow {p : Nat → Int} {n g k : Nat} {w w' : World} (h : DepsIn p n g k w) (hb : Below w.heap.size w w') : DepsIn p n g k w' := by
  obtain ⟨cur, h1, h2, h3⟩ := h
  exact ⟨cur, (hb.block g (Array.getElem?_eq_some_iff.1 h1).1).trans h1, h2, h3⟩
theorem DepsIn.lt {p : Nat → Int} {n g k : Nat} {w : World} (h : DepsIn p n g k w) : g < w.heap.size := by
  obtain ⟨cur, h1, _⟩ := h
  exact (Array.getElem?_eq_some_iff.1 h1).1
theorem DepsIn.cell {p : Nat → Int} {n g k : Nat} {w : World} (h : DepsIn p n g k w) : ∀ j, j < k → w.cell? ⟨g, j, none⟩ = some (.int .i64 (dep p j)) := by
  obtain ⟨cur, h1, _, h3⟩ := h
  intro j hj
  simp [World.cell?, h1, h3 j hj]
theorem DepsIn.any {p : Nat → Int} {n g k : Nat} {w : World} (h : DepsIn p n g k w) {j : Nat} (hj : j < n) : (∃ u, w.cell? ⟨g, j, none⟩ = some u) ∧ w.frozen? ⟨g, j, none⟩ = false := by
  obtain ⟨cur, h1, h2, _⟩ := h
  exact ⟨block_cell h1 (by omega), block_free h1 j⟩
theorem DepsIn.put {p : Nat → Int} {n g k : Nat} {w : World} (h : DepsIn p n g k w) (hk : k < n) : DepsIn p n g (k + 1) (w.setCell ⟨g, k, none⟩ (.int .i64 (dep p k))) := by
  obtain ⟨cur, h1, h2, h3⟩ := h
  refine ⟨_, setCell_block h1 k _, by simpa using h2, fun j hj => ?_⟩
  rw [Array.getElem?_setIfInBounds]
  by_cases e : k = j
  · subst e; rw [if_pos rfl, if_pos (by omega)]
  · rw [if_neg e]; exact h3 j (by omega)

set_option maxHeartbeats 2000000 in
theorem check_p {w : World} {a : Option Addr} {cap : Nat} {l : List NodeV} {C : Nat → List ByteArray} {A : Nat → List AttrV} (hl : RNodes w a cap l) (hX : NodesX w l C A) :
    Calls Try.prog 28 #[.slice a l.length cap] w fun e w' => e = .returned (.int .i64 (checkV l C A)) ∧ Below w.heap.size w w' := by
  have hsm := hl.sm
  by_cases h0 : l = []
  · subst h0
    have HV := Lib.hid (show checkV [] C A = 34 from rfl)
    clear hl hX
    go_enter Try.func28, Try.ntmps28
    go_wp2_with fail
    go_ret
    exact ⟨ret_int (by rw [HV.out]), Below.refl _ _⟩
  have hlen : l.length ≠ 0 := fun e => h0 (List.eq_nil_of_length_eq_zero e)
  by_cases hbig : 1024 < l.length
  · have HV := Lib.hid (show checkV l C A = 32 by unfold checkV checkN; rw [if_neg hlen, if_pos hbig])
    have z0 : ((l.length : Int) == 0) = false := by simp; omega
    clear hl hX
    go_enter Try.func28, Try.ntmps28
    go_wp2_with fail
    go_ret
    exact ⟨ret_int (by rw [HV.out]), Below.refl _ _⟩
  obtain ⟨b, off, rfl, hb, hc⟩ := hl.at h0
  have HC := Lib.hid hc; clear hc
  have HL := Lib.hid hl; clear hl
  have HX := Lib.hid hX; clear hX
  have HV := Lib.hid (show checkV l C A = chk (fun k => rgN l C A k && standsN (par l) (tgN l) k) (dep (par l)) (List.range' 0 l.length) by unfold checkV checkN; rw [if_neg hlen, if_neg hbig])
  have z0 : ((l.length : Int) == 0) = false := by simp; omega
  have z1 : decide ((1024 : Int) < (l.length : Int)) = false := by simp; omega
  clear hlen
  go_enter Try.func28, Try.ntmps28
  go_wp2_with (first
    | (at_make; refine wpList_mk 46 3 1 8 _ tInts rfl (.tmp 17) (.tmp 17) rfl w.heap.size .i64 .i64 l.length rfl rfl (by omega) (by unfold maxLen; omega) (Nat.le_refl _) ?_; intro w0 hown hb0; go_wp2_with fail))
  have hg0 := hown.lt w.heap.size rfl
  have hD0 : DepsIn (par l) l.length w.heap.size 0 w0 := by
    by_cases hl0 : 0 < l.length
    · obtain ⟨g, cp, cur, e1, _, e2, e3, e4, e5, e6⟩ := own_block hown hl0
      simp at e1
      obtain ⟨rfl, rfl⟩ := e1
      exact ⟨cur, e2, by simpa using e6, fun j hj => absurd hj (by omega)⟩
    · exact absurd (List.eq_nil_of_length_eq_zero (by omega)) h0
  clear hown hg0
  go_loopw [21] (fun t wr => ∃ k : Nat, t = .int .i64 k ∧ k ≤ l.length ∧ Hid (checkV l C A = chk (fun k => rgN l C A k && standsN (par l) (tgN l) k) (dep (par l)) (List.range' k (l.length - k))) ∧ Below w.heap.size w wr ∧ DepsIn (par l) l.length w.heap.size k wr) (fun t _ => l.length - (intOf t).toNat)
  case atStart => exact ⟨0, rfl, Nat.zero_le _, HV.out, hb0, hD0⟩
  case round =>
    clear HV hb0 hD0
    obtain ⟨k, rfl, hk, hx, hbl, hD⟩ := hrel
    by_cases hlt : k < l.length
    · obtain ⟨c0, c1, c2, c3, c4, c5⟩ := HC.out k hlt
      rw [par_eq hlt] at c0
      have NX := HX.out.out k hlt
      have hR := rgN_eq (C := C) (A := A) hlt
      have HS : Hid (chk (fun k => rgN l C A k && standsN (par l) (tgN l) k) (dep (par l)) (List.range' k (l.length - k)) = if (elemB l[k] (C k) (A k) || wordsB l[k] (C k) (A k)) && standsN (par l) (tgN l) k then
          (if 64 < dep (par l) k then 31 else chk (fun k => rgN l C A k && standsN (par l) (tgN l) k) (dep (par l)) (List.range' (k + 1) (l.length - (k + 1)))) else 34) := by
        have := chk_step (fun k => rgN l C A k && standsN (par l) (tgN l) k) (dep (par l)) l.length k hlt
        simp only [hR, ← right_eq] at this
        exact this
      obtain ⟨ac, cc, e1, hrc⟩ := NX.cls
      obtain ⟨aa, ca, e2, hra⟩ := NX.att
      rw [e1] at c3; rw [e2] at c4
      have HE := Lib.hid (fun W (h : Below w.heap.size w W) => element_p (n := l[k]) (hrc.grow h) (hra.grow h) NX.tag NX.id NX.csz NX.asz)
      have HW := Lib.hid (fun W => words_p (w := W) (n := l[k]) (cs := C k) (ats := A k) (a := ac) (a' := aa) (cap := cc) (cap' := ca) NX.text)
      clear e1 e2 hrc hra NX hR
      have d0 := (hbl.cell (p := ⟨b, off + k * 6, none⟩) hb).trans c0
      have d1 := (hbl.cell (p := ⟨b, off + k * 6 + 1, none⟩) hb).trans c1
      have d2 := (hbl.cell (p := ⟨b, off + k * 6 + 2, none⟩) hb).trans c2
      have d3 := (hbl.cell (p := ⟨b, off + k * 6 + 3, none⟩) hb).trans c3
      have d4 := (hbl.cell (p := ⟨b, off + k * 6 + 4, none⟩) hb).trans c4
      have d5 := (hbl.cell (p := ⟨b, off + k * 6 + 5, none⟩) hb).trans c5
      have hbw := Nat.lt_of_lt_of_le hb hbl.size
      clear c0 c1 c2 c3 c4 c5
      generalize hnd : l[k] = nd at *
      clear hnd
      have HP : Hid (∀ W, Below w.heap.size w W → DepsIn (par l) l.length w.heap.size k W → Calls Try.prog 70 #[.slice (some ⟨b, off, none⟩) l.length cap, .slice (some ⟨w.heap.size, 0, none⟩) l.length l.length, .int .i64 k] W fun e w' =>
          ∃ d : Int, e = .returned (.tuple #[.int .i64 d, .bool (standsN (par l) (tgN l) k)]) ∧ (standsN (par l) (tgN l) k = true → d = dep (par l) k) ∧ Below W.heap.size W w') :=
        fun W h hD => stands_p (HL.out.grow h) k hlt hD.lt (Nat.le_refl _) hsm hD.cell
      have hdl := dep_le (par l) k
      generalize elemB nd (C k) (A k) = eb at *
      generalize wordsB nd (C k) (A k) = wb at *
      generalize standsN (par l) (tgN l) k = sb at *
      have hbB := balloc hbl (.cells #[.int .i64 nd.parent, .string nd.tag, .string nd.id, .slice ac (C k).length cc, .slice aa (A k).length ca, .string nd.text] 54)
      have hDB := hD.grow (balloc (Below.refl wr.heap.size wr) (.cells #[.int .i64 nd.parent, .string nd.tag, .string nd.id, .slice ac (C k).length cc, .slice aa (A k).length ca, .string nd.text] 54))
      have HDB := Lib.hid hDB; clear hDB
      cases eb
      · cases wb
        · have HT := Lib.hid (HS.out.trans (if_neg (by simp)))
          go_wp2_with (first
            | (go_at_call 68; refine (HE.out _ hbB).mono ?_; rintro e w1 ⟨rfl, h1⟩; have hb1 := bseq hbB h1; have hcc := bcell h1)
            | (go_at_call 69; refine (HW.out _).mono ?_; rintro e w2 ⟨rfl, h2⟩; have hb2 := bseq hb1 h2))
          go_ret
          exact ⟨ret_int (by rw [hx.out, HT.out]), hb2⟩
        · cases sb
          · have HT := Lib.hid (HS.out.trans (if_neg (by simp)))
            go_wp2_with (first
              | (go_at_call 68; refine (HE.out _ hbB).mono ?_; rintro e w1 ⟨rfl, h1⟩; have hb1 := bseq hbB h1; have hcc := bcell h1)
              | (go_at_call 69; refine (HW.out _).mono ?_; rintro e w2 ⟨rfl, h2⟩; have hb2 := bseq hb1 h2; have h12 := bseq h1 h2)
              | (go_at_call 70; refine (HP.out _ hb2 (HDB.out.grow h12)).mono ?_; rintro e w3 ⟨d, rfl, hdd, h3⟩; have hb3 := bseq hb2 h3))
            go_ret
            exact ⟨ret_int (by rw [hx.out, HT.out]), hb3⟩
          · by_cases hd : 64 < dep (par l) k
            · have HT := Lib.hid (HS.out.trans ((if_pos (by simp)).trans (if_pos hd)))
              have hdz : decide ((64 : Int) < (dep (par l) k : Int)) = true := by simp; omega
              go_wp2_with (first
                | (go_at_call 68; refine (HE.out _ hbB).mono ?_; rintro e w1 ⟨rfl, h1⟩; have hb1 := bseq hbB h1; have hcc := bcell h1)
                | (go_at_call 69; refine (HW.out _).mono ?_; rintro e w2 ⟨rfl, h2⟩; have hb2 := bseq hb1 h2; have h12 := bseq h1 h2)
                | (go_at_call 70; refine (HP.out _ hb2 (HDB.out.grow h12)).mono ?_; rintro e w3 ⟨d, rfl, hdd, h3⟩; obtain rfl := hdd (by simp); have hb3 := bseq hb2 h3))
              go_ret
              exact ⟨ret_int (by rw [hx.out, HT.out]), hb3⟩
            · have HT := Lib.hid (HS.out.trans ((if_pos (by simp)).trans (if_neg hd)))
              have hdz : decide ((64 : Int) < (dep (par l) k : Int)) = false := by simp; omega
              go_wp2_with (first
                | (go_at_call 68; refine (HE.out _ hbB).mono ?_; rintro e w1 ⟨rfl, h1⟩; have hb1 := bseq hbB h1; have hcc := bcell h1)
                | (go_at_call 69; refine (HW.out _).mono ?_; rintro e w2 ⟨rfl, h2⟩; have hb2 := bseq hb1 h2; have h12 := bseq h1 h2)
                | (go_at_call 70; refine (HP.out _ hb2 (HDB.out.grow h12)).mono ?_; rintro e w3 ⟨d, rfl, hdd, h3⟩; obtain rfl := hdd (by simp); have hb3 := bseq hb2 h3; have hD3 := ((HDB.out.grow h12).grow h3); have hcu := hD3.any hlt; obtain ⟨⟨u, q1⟩, q2⟩ := hcu; have hg0 := hD3.lt; have hbl3 := bseq hb2 h3))
              go_roundw
              case rel => exact ⟨k + 1, by simp, hlt, Lib.hid (hx.out.trans HT.out), hb3.setCell (by show _ ≤ w.heap.size; omega) _, hD3.put hlt⟩
              case measure => simp [intOf] <;> omega
      · cases sb
        · have HT := Lib.hid (HS.out.trans (if_neg (by simp)))
          go_wp2_with (first
            | (go_at_call 68; refine (HE.out _ hbB).mono ?_; rintro e w1 ⟨rfl, h1⟩; have hb1 := bseq hbB h1; have hcc := bcell h1)
            | (go_at_call 70; refine (HP.out _ hb1 (HDB.out.grow h1)).mono ?_; rintro e w3 ⟨d, rfl, hdd, h3⟩; have hb3 := bseq hb1 h3))
          go_ret
          exact ⟨ret_int (by rw [hx.out, HT.out]), hb3⟩
        · by_cases hd : 64 < dep (par l) k
          · have HT := Lib.hid (HS.out.trans ((if_pos (by simp)).trans (if_pos hd)))
            have hdz : decide ((64 : Int) < (dep (par l) k : Int)) = true := by simp; omega
            go_wp2_with (first
              | (go_at_call 68; refine (HE.out _ hbB).mono ?_; rintro e w1 ⟨rfl, h1⟩; have hb1 := bseq hbB h1; have hcc := bcell h1)
              | (go_at_call 70; refine (HP.out _ hb1 (HDB.out.grow h1)).mono ?_; rintro e w3 ⟨d, rfl, hdd, h3⟩; obtain rfl := hdd (by simp); have hb3 := bseq hb1 h3))
            go_ret
            exact ⟨ret_int (by rw [hx.out, HT.out]), hb3⟩
          · have HT := Lib.hid (HS.out.trans ((if_pos (by simp)).trans (if_neg hd)))
            have hdz : decide ((64 : Int) < (dep (par l) k : Int)) = false := by simp; omega
            go_wp2_with (first
              | (go_at_call 68; refine (HE.out _ hbB).mono ?_; rintro e w1 ⟨rfl, h1⟩; have hb1 := bseq hbB h1; have hcc := bcell h1)
              | (go_at_call 70; refine (HP.out _ hb1 (HDB.out.grow h1)).mono ?_; rintro e w3 ⟨d, rfl, hdd, h3⟩; obtain rfl := hdd (by simp); have hb3 := bseq hb1 h3; have hD3 := ((HDB.out.grow h1).grow h3); have hcu := hD3.any hlt; obtain ⟨⟨u, q1⟩, q2⟩ := hcu; have hg0 := hD3.lt; have hbl3 := bseq hb1 h3))
            go_roundw
            case rel => exact ⟨k + 1, by simp, hlt, Lib.hid (hx.out.trans HT.out), hb3.setCell (by show _ ≤ w.heap.size; omega) _, hD3.put hlt⟩
            case measure => simp [intOf] <;> omega
    · obtain rfl : k = l.length := by omega
      go_wp2_with fail
      go_ret
      exact ⟨ret_int (by rw [hx.out, Nat.sub_self]; rfl), hbl⟩

end Go.Proofs.Ytckokehpdgjacaa
