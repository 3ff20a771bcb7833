/-
  Contracts of layer 15 (holder), the second part: the nearest holder of a name, bases.
-/
import Derived.Test.YtjljlcflmcjapaaHolder
namespace Go.Proofs.Ytjljlcflmcjapaa
open Go.RowKit Pl
set_option linter.unusedVariables false

theorem named_p {w : World} {a : Option Addr} {cap : Nat} {x : List ExtV} (hl : RExts w a cap x) (i : Int) (B1 B2 : Nat) (nm : ByteArray)
    (h1 : B1 < w.heap.size) (h2 : B2 < w.heap.size) (c1 : w.cell? ⟨B1, 0, none⟩ = some (.slice a x.length cap)) (c2 : w.cell? ⟨B2, 0, none⟩ = some (.string nm)) :
    Calls Try.prog 101 #[.int .i64 i, .pointer (some ⟨B1, 0, none⟩), .pointer (some ⟨B2, 0, none⟩)] w fun e w' =>
      e = .returned (.bool (((atV x i).type == 1 || (atV x i).type == 2) && decide ((atV x i).name = nm))) ∧ Below w.heap.size w w' := by
  have HL := Lib.hid hl; clear hl
  by_cases hh : ((atV x i).type == 1 || (atV x i).type == 2) = true
  · have Hh := Lib.hid (fun u => by have := holds_p (HL.out.wext u) i; rw [hh] at this; exact this)
    rw [hh]
    clear hh
    go_enter Try.func101, Try.ntmps101
    go_wp2_with fail
    refine wp_region_ext (by kernel_rfl) (by kernel_rfl) ?_
    repeat (go_big_quiet_step ((first | (go_at_call 98; exact ext_of (Hh.out _)) | (go_at_call 66; exact ext_of (at_p (HL.out.wext _) _)))))
    refine wpQuiet_nil ?_
    rintro _ ⟨u, rfl⟩
    go_wp2_with fail
    go_ret
    exact ⟨ret_bool (by simp [str_beq]), wext_below _ _⟩
  · have hh' : ((atV x i).type == 1 || (atV x i).type == 2) = false := by simpa using hh
    have Hh := Lib.hid (fun u => by have := holds_p (HL.out.wext u) i; rw [hh'] at this; exact this)
    rw [hh']
    clear hh hh'
    go_enter Try.func101, Try.ntmps101
    go_wp2_with fail
    refine wp_region_ext (by kernel_rfl) (by kernel_rfl) ?_
    repeat (go_big_quiet_step ((first | (go_at_call 98; exact ext_of (Hh.out _)) | (go_at_call 66; exact ext_of (at_p (HL.out.wext _) _)))))
    refine wpQuiet_nil ?_
    rintro _ ⟨u, rfl⟩
    go_wp2_with fail
    go_ret
    exact ⟨rfl, wext_below _ _⟩

/-- does it fit: a holder, of a name if one is asked for -/
def fitsP (x : List ExtV) (nm : ByteArray) (k : Nat) : Bool :=
  ((atV x k).type == 1 || (atV x k).type == 2) && (decide (nm = ⟨#[]⟩) || decide ((atV x k).name = nm))

theorem nearest_name_p {w : World} {a a' : Option Addr} {cap cap' : Nat} {l : List NodeV} {x : List ExtV} (hl : RNodes w a cap l) (hx : RExts w a' cap' x) (i : Int) (nm : ByteArray) :
    Calls Try.prog 64 #[.slice a l.length cap, .slice a' x.length cap', .int .i64 i, .string nm] w fun e w' =>
      e = .returned (.int .i64 (firstUpI (par l) l.length (fitsP x nm) i)) ∧ Below w.heap.size w w' := by
  have HL := Lib.hid hl; clear hl
  have HX := Lib.hid hx; clear hx
  by_cases hn : nm = ⟨#[]⟩
  · subst hn
    have hb : Below w.heap.size w ((w.alloc (.cells #[.string ⟨#[]⟩] 9)).alloc (.cells #[.slice a' x.length cap'] 102)) := ((Below.refl _ _).alloc (Nat.le_refl _) _).alloc (by simp) _
    go_enter Try.func64, Try.ntmps64
    go_wp2_with fail
    refine (nearest_p (HL.out.grow hb) i 98 #[.slice a' x.length cap'] #[] (fitsP x ⟨#[]⟩) (enters Try.func98 (by kernel_rfl) rfl) ?_).mono ?_
    · intro k w' h0 _ hw'
      refine (holds_p (HX.out.grow (hb.trans (hw'.mono hb.size))) k).mono ?_
      rintro e w2 ⟨rfl, h2⟩
      exact ⟨ret_bool (by rw [fitsP, Int.toNat_of_nonneg h0]; simp), h2⟩
    · rintro e w2 ⟨rfl, h2⟩
      go_wp2_with fail
      go_ret
      exact ⟨rfl, hb.trans (h2.mono (by simp; omega))⟩
  · have he : nm.toList.isEmpty = false := by rw [str_emp]; simpa using hn
    have HN := Lib.hid hn; clear hn
    have hb : Below w.heap.size w ((w.alloc (.cells #[.string nm] 9)).alloc (.cells #[.slice a' x.length cap'] 102)) := ((Below.refl _ _).alloc (Nat.le_refl _) _).alloc (by simp) _
    have hc1 : ((w.alloc (.cells #[.string nm] 9)).alloc (.cells #[.slice a' x.length cap'] 102)).cell? ⟨w.heap.size + 1, 0, none⟩ = some (.slice a' x.length cap') := by simp
    have hc2 : ((w.alloc (.cells #[.string nm] 9)).alloc (.cells #[.slice a' x.length cap'] 102)).cell? ⟨w.heap.size, 0, none⟩ = some (.string nm) := by simp
    have HC1 := Lib.hid hc1; have HC2 := Lib.hid hc2; clear hc1 hc2
    go_enter Try.func64, Try.ntmps64
    go_wp2_with fail
    refine (nearest_p (HL.out.grow hb) i 101 #[] #[.pointer (some ⟨w.heap.size + 1, 0, none⟩), .pointer (some ⟨w.heap.size, 0, none⟩)] (fitsP x nm) (enters Try.func101 (by kernel_rfl) rfl) ?_).mono ?_
    · intro k w' h0 _ hw'
      refine (named_p (HX.out.grow (hb.trans (hw'.mono hb.size))) k (w.heap.size + 1) w.heap.size nm (by have := hw'.size; simp at this; omega) (by have := hw'.size; simp at this; omega)
        ((hw'.cell (p := ⟨w.heap.size + 1, 0, none⟩) (by simp)).trans HC1.out) ((hw'.cell (p := ⟨w.heap.size, 0, none⟩) (by simp; omega)).trans HC2.out)).mono ?_
      rintro e w2 ⟨rfl, h2⟩
      exact ⟨ret_bool (by rw [fitsP, Int.toNat_of_nonneg h0]; simp [HN.out]), h2⟩
    · rintro e w2 ⟨rfl, h2⟩
      go_wp2_with fail
      go_ret
      exact ⟨rfl, hb.trans (h2.mono (by simp; omega))⟩

/-- the reference's: a type between, a name if one is asked for -/
def fitsR (x : List ExtV) (nm : ByteArray) (least : Int) (k : Nat) : Bool :=
  decide (least ≤ (atV x k).type) && decide ((atV x k).type ≤ 2) && (decide (nm = ⟨#[]⟩) || decide ((atV x k).name = nm))

def nearR (p : Nat → Int) (n : Nat) (x : List ExtV) (nm : ByteArray) (least : Int) (i : Int) : Int :=
  if 0 ≤ i ∧ i < n then downTo p (fitsR x nm least) i.toNat i.toNat else -1

set_option maxHeartbeats 1000000 in
theorem nearest_name_r {w : World} {a a' : Option Addr} {cap cap' : Nat} {l : List NodeV} {x : List ExtV} (hl : RNodes w a cap l) (hx : RExts w a' cap' x) (i : Int) (nm : ByteArray) (least : Int) :
    Calls Try.prog 67 #[.slice a l.length cap, .slice a' x.length cap', .int .i64 i, .string nm, .int .i64 least] w fun e w' =>
      e = .returned (.int .i64 (nearR (par l) l.length x nm least i)) ∧ Below w.heap.size w w' := by
  have hsm := hl.sm
  have HL := Lib.hid hl; clear hl
  have HX := Lib.hid hx; clear hx
  by_cases hin : 0 ≤ i ∧ i < l.length
  · have HN := Lib.hid (show nearR (par l) l.length x nm least i = downTo (par l) (fitsR x nm least) i.toNat i.toNat by rw [nearR, if_pos hin])
    obtain ⟨h0, h1⟩ := hin
    have hd : (decide (i < 0) || decide ((l.length : Int) ≤ i)) = false := by simp; omega
    go_enter Try.func67, Try.ntmps67
    go_wp2_with fail
    go_loopw [11] (fun t wr => ∃ m : Nat, t = .int .i64 ((m : Int) - 1) ∧ m ≤ i.toNat ∧ Hid (downTo (par l) (fitsR x nm least) i.toNat i.toNat = downTo (par l) (fitsR x nm least) i.toNat m) ∧ Below w.heap.size w wr) (fun t _ => (intOf t + 1).toNat)
    case atStart => exact ⟨i.toNat, by rw [Int.toNat_of_nonneg h0], Nat.le_refl _, rfl, Below.refl _ _⟩
    case round =>
      obtain ⟨m, rfl, hm, hx, hb⟩ := hrel
      match m, hm, hx with
      | 0, hm, hx =>
        go_wp2_with fail
        go_ret
        exact ⟨ret_int (by rw [HN.out, hx.out, downTo]), hb⟩
      | m + 1, hm, hx =>
        obtain ⟨y, hy⟩ : ∃ y, y = atV x (m : Int) := ⟨_, rfl⟩
        have hD := Lib.hid (show downTo (par l) (fitsR x nm least) i.toNat (m + 1) = if under (par l) i.toNat (m : Int) && (decide (least ≤ y.type) && decide (y.type ≤ 2) && (nm.toList.isEmpty || (y.name.toList == nm.toList))) then (m : Int) else downTo (par l) (fitsR x nm least) i.toNat m by
          rw [downTo, fitsR, ← hy, str_beq, str_emp])
        have HAt := Lib.hid (at_r (HX.out.grow hb) (m : Int))
        rw [← hy] at HAt
        clear hy
        rw [show ((m + 1 : Nat) : Int) - 1 = (m : Int) by omega]
        go_wp2_with (first
          | (go_at_call 68; refine HAt.out.mono ?_; rintro e w1 ⟨rfl, hb1⟩)
          | (go_at_call 105; refine (under_r (HL.out.grow ((hb.trans (hb1.mono hb.size)).alloc (by have := hb1.size; have := hb.size; omega) _)) _ _ h0 h1).mono ?_; rintro e w2 ⟨rfl, rfl⟩))
        all_goals
          have hs1 := hb1.size
          have hs2 := hb.size
          first
            | (go_ret
               exact ⟨ret_int (by rw [HN.out, hx.out, hD.out, if_pos (by simp_all)]), (hb.trans (hb1.mono hb.size)).alloc (by omega) _⟩)
            | (go_roundw
               case rel => exact ⟨m, rfl, by omega, by rw [Hid, hx.out, hD.out, if_neg (by simp_all <;> (intros; omega))], (hb.trans (hb1.mono hb.size)).alloc (by omega) _⟩
               case measure => simp [intOf] <;> omega)
  · have HN := Lib.hid (show nearR (par l) l.length x nm least i = -1 by rw [nearR, if_neg hin])
    have hd : (decide (i < 0) || decide ((l.length : Int) ≤ i)) = true := by simp; omega
    clear hin
    go_enter Try.func67, Try.ntmps67
    go_wp2_with fail
    all_goals
      go_ret
      exact ⟨ret_int (by rw [HN.out]), Below.refl _ _⟩

def bothV (x : List ExtV) (k : Nat) : Bool := (atV x k).type == 2
/-- what an element is measured by -/
def baseW (p : Nat → Int) (n : Nat) (x : List ExtV) (i vw : Int) : Int :=
  hold (if 0 ≤ firstUpI p n (fitsP x ⟨#[]⟩) i then (atV x (firstUpI p n (fitsP x ⟨#[]⟩) i)).w else vw)
def baseH (p : Nat → Int) (n : Nat) (x : List ExtV) (i vh : Int) : Int :=
  hold (if 0 ≤ firstUpI p n (bothV x) i then (atV x (firstUpI p n (bothV x) i)).h else vh)

theorem nearR_eq (p : Nat → Int) (n : Nat) (x : List ExtV) (nm : ByteArray) (least : Int) (i : Int) : nearR p n x nm least i = firstUpI p n (fitsR x nm least) i := by
  unfold nearR firstUpI upsI
  split
  · rw [downTo_firstUp]; rfl
  · rfl
theorem fits_one (x : List ExtV) (nm : ByteArray) : fitsR x nm 1 = fitsP x nm := by
  funext k; unfold fitsR fitsP; congr 1; rw [Bool.eq_iff_iff]; simp; omega
theorem fits_two (x : List ExtV) : fitsR x ⟨#[]⟩ 2 = bothV x := by
  funext k; unfold fitsR bothV; rw [Bool.eq_iff_iff]; simp; omega

set_option maxHeartbeats 1000000 in
theorem bases_p {w : World} {a a' : Option Addr} {cap cap' : Nat} {l : List NodeV} {x : List ExtV} (hl : RNodes w a cap l) (hx : RExts w a' cap' x) (i vw vh : Int) :
    Calls Try.prog 63 #[.slice a l.length cap, .slice a' x.length cap', .int .i64 i, .agg #[.int .i64 vw, .int .i64 vh]] w fun e w' =>
      e = .returned (.tuple #[.int .i64 (baseW (par l) l.length x i vw), .int .i64 (baseH (par l) l.length x i vh)]) ∧ Below w.heap.size w w' := by
  have HL := Lib.hid hl; clear hl
  have HX := Lib.hid hx; clear hx
  go_enter Try.func63, Try.ntmps63
  go_wp2_with fail
  refine wp_region_ext (by kernel_rfl) (by kernel_rfl) ?_
  repeat (go_big_quiet_step (fail))
  refine wpQuiet_nil ?_
  rintro _ ⟨u, rfl⟩
  go_wp2_with fail
  have hw0 : Below w.heap.size w (wext (w.alloc (.cells #[.int .i64 vw, .int .i64 vh] 97)) u) := ((Below.refl _ _).alloc (Nat.le_refl _) _).trans ((wext_below _ _).mono (by simp))
  have F1 := Lib.hid (show baseW (par l) l.length x i vw = hold (if 0 ≤ firstUpI (par l) l.length (fitsP x ⟨#[]⟩) i then (atV x (firstUpI (par l) l.length (fitsP x ⟨#[]⟩) i)).w else vw) from rfl)
  have F2 := Lib.hid (show baseH (par l) l.length x i vh = hold (if 0 ≤ firstUpI (par l) l.length (bothV x) i then (atV x (firstUpI (par l) l.length (bothV x) i)).h else vh) from rfl)
  generalize wext (w.alloc (.cells #[.int .i64 vw, .int .i64 vh] 97)) u = W at *
  refine (nearest_p (HL.out.grow hw0) i 98 #[.slice a' x.length cap'] #[] (fitsP x ⟨#[]⟩) (enters Try.func98 (by kernel_rfl) rfl) ?_).mono ?_
  · intro k w' h0 _ hw'
    refine (holds_p (HX.out.grow (hw0.trans (hw'.mono hw0.size))) k).mono ?_
    rintro e w2 ⟨rfl, h2⟩
    exact ⟨ret_bool (by rw [fitsP, Int.toNat_of_nonneg h0]; simp), h2⟩
  · rintro e w1 ⟨rfl, h1⟩
    have hw1 := hw0.trans (h1.mono hw0.size)
    clear h1 hw0
    generalize firstUpI (par l) l.length (fitsP x ⟨#[]⟩) i = k1 at *
    by_cases hk1 : 0 ≤ k1
    all_goals
      have G1 := Lib.hid (F1.out.trans (by first | rw [if_pos hk1] | rw [if_neg hk1]))
      go_wp2_with (go_at_call 66; refine (at_p (HX.out.grow hw1) _).mono ?_; rintro e w2 ⟨rfl, h2⟩)
      first | have hw2 := hw1.trans (h2.mono hw1.size) | have hw2 := hw1
      refine (nearest_p (HL.out.grow hw2) i 99 #[.slice a' x.length cap'] #[] (bothV x) (enters Try.func99 (by kernel_rfl) rfl) ?_).mono ?_
      · intro k w' h0 _ hw'
        refine (both_p (HX.out.grow (hw2.trans (hw'.mono hw2.size))) k).mono ?_
        rintro e w2 ⟨rfl, h2⟩
        exact ⟨ret_bool (by rw [bothV, Int.toNat_of_nonneg h0]), h2⟩
      · rintro e w3 ⟨rfl, h3⟩
        have hw3 := hw2.trans (h3.mono hw2.size)
        clear h3
        generalize firstUpI (par l) l.length (bothV x) i = k2 at *
        by_cases hk2 : 0 ≤ k2
        · have G2 := Lib.hid (F2.out.trans (by rw [if_pos hk2]))
          clear F1 F2
          go_wp2_with (first
            | (go_at_call 66; refine (at_p (HX.out.grow hw3) _).mono ?_; rintro e w4 ⟨rfl, h4⟩)
            | (go_at_call 100; refine (hold_p _ _).mono ?_; rintro e w' ⟨rfl, rfl⟩))
          go_ret2
          exact ⟨ret_ints G1.out.symm G2.out.symm, hw3.trans (h4.mono hw3.size)⟩
        · have G2 := Lib.hid (F2.out.trans (by rw [if_neg hk2]))
          clear F1 F2
          go_wp2_with (first
            | (go_at_call 100; refine (hold_p _ _).mono ?_; rintro e w' ⟨rfl, rfl⟩))
          go_ret2
          exact ⟨ret_ints G1.out.symm G2.out.symm, hw3⟩

end Go.Proofs.Ytjljlcflmcjapaa
