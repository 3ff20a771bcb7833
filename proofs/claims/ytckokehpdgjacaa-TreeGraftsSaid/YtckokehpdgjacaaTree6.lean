/-
  Contracts of layer 4's Check, of the program and of the reference: is a list a tree?
-/
import Derived.Test.YtckokehpdgjacaaTree5
namespace Go.Proofs.Ytckokehpdgjacaa
open Go.RowKit Pl
set_option linter.unusedVariables false

/-- what the nodes of a list owe to their memory: their classes C k and attributes A k -/
structure NodesX (w : World) (l : List NodeV) (C : Nat → List ByteArray) (A : Nat → List AttrV) : Prop where
  out : ∀ k (h : k < l.length), NodeX w l[k] (C k) (A k)
theorem NodesX.grow {w w' : World} {l : List NodeV} {C : Nat → List ByteArray} {A : Nat → List AttrV} (h : NodesX w l C A) (hb : Below w.heap.size w w') : NodesX w' l C A :=
  ⟨fun k hk => (h.out k hk).grow hb⟩

def rgN (l : List NodeV) (C : Nat → List ByteArray) (A : Nat → List AttrV) (k : Nat) : Bool := match l[k]? with | some n => rightB n (C k) (A k) | none => false
theorem rgN_eq {l : List NodeV} {C : Nat → List ByteArray} {A : Nat → List AttrV} {k : Nat} (h : k < l.length) : rgN l C A k = rightB l[k] (C k) (A k) := by simp [rgN, h]
/-- the answer of a check -/
def checkV (l : List NodeV) (C : Nat → List ByteArray) (A : Nat → List AttrV) : Int := checkN (fun k => rgN l C A k && standsN (par l) (tgN l) k) (dep (par l)) l.length

theorem depth_dep (p : Nat → Int) (n k : Nat) (h : k < n) : depthI p n k = dep p k := by
  unfold depthI dep; rw [if_pos (by omega)]; simp

set_option maxHeartbeats 1000000 in
theorem check_r {w : World} {a : Option Addr} {cap : Nat} {l : List NodeV} {C : Nat → List ByteArray} {A : Nat → List AttrV} (hl : RNodes w a cap l) (hX : NodesX w l C A) :
    Calls Try.prog 29 #[.slice a l.length cap] w fun e w' => e = .returned (.int .i64 (checkV l C A)) ∧ Below w.heap.size w w' := by
  have hsm := hl.sm
  by_cases h0 : l = []
  · subst h0
    have HV := Lib.hid (show checkV [] C A = 34 from rfl)
    clear hl hX
    go_enter Try.func29, Try.ntmps29
    go_wp2_with fail
    go_ret
    exact ⟨ret_int (by rw [HV.out]), Below.refl _ _⟩
  have hlen : l.length ≠ 0 := fun e => h0 (List.eq_nil_of_length_eq_zero e)
  by_cases hbig : 1024 < l.length
  · have HV := Lib.hid (show checkV l C A = 32 by unfold checkV checkN; rw [if_neg hlen, if_pos hbig])
    have z0 : ((l.length : Int) == 0) = false := by simp; omega
    clear hl hX
    go_enter Try.func29, Try.ntmps29
    go_wp2_with fail
    go_ret
    exact ⟨ret_int (by rw [HV.out]), Below.refl _ _⟩
  obtain ⟨b, off, rfl, hb, hc⟩ := hl.at h0
  have HC := Lib.hid hc; clear hc
  have HL := Lib.hid hl; clear hl
  have HX := Lib.hid hX; clear hX
  have HV := Lib.hid (show checkV l C A = chk (fun k => rgN l C A k && standsN (par l) (tgN l) k) (dep (par l)) (List.range' 0 l.length) by unfold checkV checkN; rw [if_neg hlen, if_neg hbig])
  have z0 : ((l.length : Int) == 0) = false := by simp; omega
  have z1 : decide ((1024 : Int) < (l.length : Int)) = false := by simp; omega
  clear hlen
  go_enter Try.func29, Try.ntmps29
  go_wp2_with fail
  go_loopw [3] (fun t wr => ∃ k : Nat, t = .int .i64 k ∧ k ≤ l.length ∧ Hid (checkV l C A = chk (fun k => rgN l C A k && standsN (par l) (tgN l) k) (dep (par l)) (List.range' k (l.length - k))) ∧ Below w.heap.size w wr) (fun t _ => l.length - (intOf t).toNat)
  case atStart => exact ⟨0, rfl, Nat.zero_le _, HV.out, Below.refl _ _⟩
  case round =>
    clear HV
    obtain ⟨k, rfl, hk, hx, hbl⟩ := hrel
    by_cases hlt : k < l.length
    · have HS := Lib.hid (chk_step (fun k => rgN l C A k && standsN (par l) (tgN l) k) (dep (par l)) l.length k hlt)
      obtain ⟨c0, c1, c2, c3, c4, c5⟩ := HC.out k hlt
      rw [par_eq hlt] at c0
      have NX := HX.out.out k hlt
      have hR := rgN_eq (C := C) (A := A) hlt
      obtain ⟨ac, cc, e1, hrc⟩ := NX.cls
      obtain ⟨aa, ca, e2, hra⟩ := NX.att
      rw [e1] at c3; rw [e2] at c4
      have HRi := Lib.hid (fun W (h : Below w.heap.size w W) => right_r (n := l[k]) (hrc.grow h) (hra.grow h) NX.tag NX.id NX.text NX.csz NX.asz)
      clear e1 e2 hrc hra NX
      have d0 := (hbl.cell (p := ⟨b, off + k * 6, none⟩) hb).trans c0
      have d1 := (hbl.cell (p := ⟨b, off + k * 6 + 1, none⟩) hb).trans c1
      have d2 := (hbl.cell (p := ⟨b, off + k * 6 + 2, none⟩) hb).trans c2
      have d3 := (hbl.cell (p := ⟨b, off + k * 6 + 3, none⟩) hb).trans c3
      have d4 := (hbl.cell (p := ⟨b, off + k * 6 + 4, none⟩) hb).trans c4
      have d5 := (hbl.cell (p := ⟨b, off + k * 6 + 5, none⟩) hb).trans c5
      clear c0 c1 c2 c3 c4 c5
      generalize hnd : l[k] = nd at *
      clear hnd
      have HS1 := Lib.hid (fun W (h : Below w.heap.size w W) => stands_r (HL.out.grow h) k hlt)
      have HD1 := Lib.hid (fun W (h : Below w.heap.size w W) => by have := depth_r (HL.out.grow h) k (k : Int) (by omega); rw [depth_dep _ _ _ hlt] at this; exact this)
      by_cases r1 : rightB nd (C k) (A k) = true
      · by_cases r2 : standsN (par l) (tgN l) k = true
        · have HT := Lib.hid (HS.out.trans (if_pos (by simp only [hR, r1, r2]; rfl)))
          have HRi' := Lib.hid (fun W (h : Below w.heap.size w W) => by have := HRi.out W h; rw [r1] at this; exact this)
          have HS1' := Lib.hid (fun W (h : Below w.heap.size w W) => by have := HS1.out W h; rw [r2] at this; exact this)
          clear HRi HS1 hR r1 r2 HS
          have hdl := dep_le (par l) k
          by_cases hd : 64 < dep (par l) k
          · have HT' := Lib.hid (HT.out.trans (if_pos hd))
            go_wp2_with (first
              | (go_at_call 47; refine (HRi'.out _ hbl).mono ?_; rintro e w1 ⟨rfl, h1⟩; have hb1 := bseq hbl h1)
              | (go_at_call 71; refine (HS1'.out _ hb1).mono ?_; rintro e w' ⟨rfl, rfl⟩)
              | (go_at_call 31; refine (HD1.out _ hb1).mono ?_; rintro e w' ⟨rfl, rfl⟩))
            go_ret
            exact ⟨ret_int (by rw [hx.out, HT'.out]), hb1⟩
          · have HT' := Lib.hid (HT.out.trans (if_neg hd))
            go_wp2_with (first
              | (go_at_call 47; refine (HRi'.out _ hbl).mono ?_; rintro e w1 ⟨rfl, h1⟩; have hb1 := bseq hbl h1)
              | (go_at_call 71; refine (HS1'.out _ hb1).mono ?_; rintro e w' ⟨rfl, rfl⟩)
              | (go_at_call 31; refine (HD1.out _ hb1).mono ?_; rintro e w' ⟨rfl, rfl⟩))
            go_roundw
            case rel => exact ⟨k + 1, by go_num, by omega, by rw [Hid, hx.out, HT'.out], hb1⟩
            case measure => simp [intOf]; omega
        · have r2' : standsN (par l) (tgN l) k = false := by simpa using r2
          have HT := Lib.hid (HS.out.trans (if_neg (by simp [r2'])))
          have HRi' := Lib.hid (fun W (h : Below w.heap.size w W) => by have := HRi.out W h; rw [r1] at this; exact this)
          have HS1' := Lib.hid (fun W (h : Below w.heap.size w W) => by have := HS1.out W h; rw [r2'] at this; exact this)
          clear HRi HS1 hR r1 r2 r2' HS
          go_wp2_with (first
            | (go_at_call 47; refine (HRi'.out _ hbl).mono ?_; rintro e w1 ⟨rfl, h1⟩; have hb1 := bseq hbl h1)
            | (go_at_call 71; refine (HS1'.out _ hb1).mono ?_; rintro e w' ⟨rfl, rfl⟩))
          go_ret
          exact ⟨ret_int (by rw [hx.out, HT.out]), hb1⟩
      · have r1' : rightB nd (C k) (A k) = false := by simpa using r1
        have HT := Lib.hid (HS.out.trans (if_neg (by simp only [hR, r1']; simp)))
        have HRi' := Lib.hid (fun W (h : Below w.heap.size w W) => by have := HRi.out W h; rw [r1'] at this; exact this)
        clear HRi HS1 hR r1 r1' HS
        go_wp2_with (first
          | (go_at_call 47; refine (HRi'.out _ hbl).mono ?_; rintro e w1 ⟨rfl, h1⟩; have hb1 := bseq hbl h1))
        go_ret
        exact ⟨ret_int (by rw [hx.out, HT.out]), hb1⟩
    · obtain rfl : k = l.length := by omega
      go_wp2_with fail
      go_ret
      exact ⟨ret_int (by rw [hx.out, Nat.sub_self]; rfl), hbl⟩

end Go.Proofs.Ytckokehpdgjacaa
