/-
  Layer 4's law TreeLies, walked.
-/
import Derived.Test.YtckokehpdgjacaaLaw04
import Derived.Test.YtckokehpdgjacaaLiesPlain
namespace Go.Proofs.Ytckokehpdgjacaa
open Go.RowKit Pl
set_option linter.unusedVariables false

set_option maxHeartbeats 2000000 in
theorem lies_walk {w : World} {a : Option Addr} {cap : Nat} {l : List NodeV} {C : Nat → List ByteArray} {A : Nat → List AttrV} (hl : RNodes w a cap l) (hX : NodesX w l C A) (i : Int) :
    Calls Try.prog 10 #[.slice a l.length cap, .int .i64 i] w fun e w' => e = .returned (.bool true) ∧ Below w.heap.size w w' := by
  have hsm := hl.sm
  have HC := Lib.hid (check_p hl hX)
  have HL := Lib.hid hl; clear hl hX
  by_cases hf : 100 < l.length
  · have hd : decide ((100 : Int) < (l.length : Int)) = true := by simp; omega
    go_enter Try.func10, Try.ntmps10
    go_wp2_with (first
      | (go_at_call 26; refine (known04 _).mono ?_; rintro e w3 ⟨rfl, h3⟩))
    go_ret
    exact ⟨rfl, h3⟩
  have hd : decide ((100 : Int) < (l.length : Int)) = false := by simp; omega
  by_cases hV : checkV l C A = 0
  · have ht : Treeish (par l) l.length := treeish_of (show checkN (fun k => rgN l C A k && standsN (par l) (tgN l) k) (dep (par l)) l.length = 0 from hV)
    rw [hV] at HC; clear hV
    by_cases hneg : i < 0
    · have d1 : decide (i < 0) = true := by simpa using hneg
      go_enter Try.func10, Try.ntmps10
      go_wp2_with (first
        | (go_at_call 28; refine HC.out.mono ?_; rintro e w1 ⟨rfl, h1⟩)
        | (go_at_call 26; refine (known04 _).mono ?_; rintro e w3 ⟨rfl, h3⟩))
      go_ret
      exact ⟨rfl, bseq h1 h3⟩
    have d1 : decide (i < 0) = false := by simpa using hneg
    by_cases hbig : (l.length : Int) ≤ i
    · have d2 : decide ((l.length : Int) ≤ i) = true := by simpa using hbig
      go_enter Try.func10, Try.ntmps10
      go_wp2_with (first
        | (go_at_call 28; refine HC.out.mono ?_; rintro e w1 ⟨rfl, h1⟩)
        | (go_at_call 26; refine (known04 _).mono ?_; rintro e w3 ⟨rfl, h3⟩))
      go_ret
      exact ⟨rfl, bseq h1 h3⟩
    have d2 : decide ((l.length : Int) ≤ i) = false := by simpa using hbig
    obtain ⟨m, rfl⟩ := Int.eq_ofNat_of_zero_le (show 0 ≤ i by omega)
    have hm : m < l.length := by omega
    have HEnd := Lib.hid (fun (W : World) (x : Nat) (h : Below w.heap.size w W) (hx : x < l.length) => by have := end_p (HL.out.grow h) (x : Int); rw [endI_E _ hx] at this; exact this)
    have HU := Lib.hid (fun (W : World) (k : Nat) (h : Below w.heap.size w W) (hk : k < l.length) => by
      have := under_r (HL.out.grow h) (k : Int) (m : Int) (by omega) (by omega)
      rw [show ((k : Int)).toNat = k from rfl, lies_b ht hm hk] at this; exact this)
    have HCh := Lib.hid (chain_kids ht hm)
    have HKl := Lib.hid (show ∀ c ∈ kidsI (par l) l.length (m : Int), c < l.length from fun c hc => by
      unfold kidsI at hc; rw [if_pos (by omega)] at hc; unfold kidsTo at hc
      exact List.mem_range.1 (List.mem_filter.1 hc).1)
    have HK := Lib.hid (fun (W : World) (h : Below w.heap.size w W) => kids_p (HL.out.grow h) (m : Int))
    have hkl : (kidsI (par l) l.length (m : Int)).length ≤ l.length := by unfold kidsI; split; exact kids_len _ _ _; simp
    have hEb := E_bd (par l) hm
    clear hneg hbig hd d1 d2 ht
    generalize hKs : kidsI (par l) l.length (m : Int) = Ks at *
    clear hKs
    generalize hEm : E (par l) l.length m = em at *
    have hd : decide ((100 : Int) < (l.length : Int)) = false := by simp; omega
    have d1 : decide ((m : Int) < 0) = false := by simp
    have d2 : decide ((l.length : Int) ≤ (m : Int)) = false := by simp; omega
    go_enter Try.func10, Try.ntmps10
    go_wp2_with (first
      | (go_at_call 28; refine HC.out.mono ?_; rintro e w1 ⟨rfl, h1⟩)
      | (go_at_call 37; refine (HEnd.out _ _ h1 hm).mono ?_; rintro e w' ⟨rfl, rfl⟩))
    go_loopw [6] (fun t wr => ∃ k : Nat, t = .int .i64 k ∧ k ≤ l.length ∧ Below w.heap.size w wr) (fun t _ => l.length - (intOf t).toNat)
    case atStart => exact ⟨0, rfl, Nat.zero_le _, h1⟩
    case round =>
      clear h1
      obtain ⟨k, rfl, hk, hbl⟩ := hrel
      by_cases hlt : k < l.length
      · clear HC HEnd HCh HKl HK
        rcases (show (m < k ∧ k < em) ∨ ¬ m < k ∨ (m < k ∧ ¬ k < em) by omega) with ⟨c1, c2⟩ | c1 | ⟨c1, c2⟩
        · have e1 : decide ((m : Int) < (k : Int)) = true := (by simp <;> omega); have e2 : decide ((k : Int) < (em : Int)) = true := (by simp <;> omega)
          have HU1 := Lib.hid (fun (W : World) (h : Below w.heap.size w W) => by have := HU.out W k h hlt; rw [show (decide (m < k) && decide (k < em)) = true from by simp <;> omega] at this; exact this)
          go_wp2_with (first
            | (go_at_call 20; refine (HU1.out _ hbl).mono ?_; rintro e w' ⟨rfl, rfl⟩))
          go_roundw
          case rel => exact ⟨k + 1, by simp, by omega, hbl⟩
          case measure => simp [intOf] <;> omega
        · have e1 : decide ((m : Int) < (k : Int)) = false := (by simp <;> omega)
          have HU1 := Lib.hid (fun (W : World) (h : Below w.heap.size w W) => by have := HU.out W k h hlt; rw [show (decide (m < k) && decide (k < em)) = false from by simp <;> omega] at this; exact this)
          go_wp2_with (first
            | (go_at_call 20; refine (HU1.out _ hbl).mono ?_; rintro e w' ⟨rfl, rfl⟩))
          go_roundw
          case rel => exact ⟨k + 1, by simp, by omega, hbl⟩
          case measure => simp [intOf] <;> omega
        · have e1 : decide ((m : Int) < (k : Int)) = true := (by simp <;> omega); have e2 : decide ((k : Int) < (em : Int)) = false := (by simp <;> omega)
          have HU1 := Lib.hid (fun (W : World) (h : Below w.heap.size w W) => by have := HU.out W k h hlt; rw [show (decide (m < k) && decide (k < em)) = false from by simp <;> omega] at this; exact this)
          go_wp2_with (first
            | (go_at_call 20; refine (HU1.out _ hbl).mono ?_; rintro e w' ⟨rfl, rfl⟩))
          go_roundw
          case rel => exact ⟨k + 1, by simp, by omega, hbl⟩
          case measure => simp [intOf] <;> omega
      · obtain rfl : k = l.length := by omega
        go_wp2_with (first
          | (go_at_call 35; refine (HK.out _ hbl).mono ?_; rintro e w2 ⟨b2, c2, rfl, hr2, h2⟩; have hb2 := bseq hbl h2; have HR2 := Lib.hid hr2; clear hr2))
        clear HK HU HC
        go_loopw [8, 9] (fun t8 t9 wr => ∃ k x : Nat, t8 = .int .i64 x ∧ t9 = .int .i64 k ∧ k ≤ Ks.length ∧ Hid (chain (par l) l.length em (Ks.drop k) x) ∧ wr = w2) (fun _ t9 _ => Ks.length - (intOf t9).toNat)
        case atStart => exact ⟨0, m + 1, by simp, rfl, Nat.zero_le _, HCh.out, rfl⟩
        case round =>
          obtain ⟨k, x, rfl, rfl, hk2, hch, rfl⟩ := hrel
          by_cases hlt2 : k < Ks.length
          · have hne : Ks.map Int.ofNat ≠ [] := fun e => by rw [List.map_eq_nil_iff.1 e] at hlt2; simp at hlt2
            obtain ⟨b, off, rfl, hb, hc⟩ := RInts.at HR2.out hne
            have c0 := hc k (by simpa using hlt2)
            rw [List.getElem_map] at c0
            have hdr := hch.out
            rw [List.drop_eq_getElem_cons hlt2] at hdr
            obtain ⟨hx0, hdr⟩ := hdr
            have hxn := HKl.out _ (List.getElem_mem hlt2)
            rw [hx0] at c0 hdr hxn
            have c1 : wr.cell? ⟨b, off + k, none⟩ = some (.int .i64 (x : Int)) := c0
            have HD := Lib.hid hdr
            clear hdr hx0 c0 hc hne hch HCh
            go_wp2_with (first
              | (go_at_call 37; refine (HEnd.out _ _ hb2 hxn).mono ?_; rintro e w' ⟨rfl, rfl⟩))
            go_roundw
            case rel => exact ⟨k + 1, _, rfl, by simp, by omega, HD, by simp⟩
            case measure => simp [intOf] <;> omega
          · obtain rfl : k = Ks.length := by omega
            have hx : x = em := by have := hch.out; rw [List.drop_length] at this; exact this
            subst hx
            go_wp2_with (first
              | (go_at_call 26; refine (known04 _).mono ?_; rintro e w3 ⟨rfl, h3⟩; have hb3 := bseq hb2 h3))
            go_ret
            exact ⟨rfl, hb3⟩
  · have hz : (checkV l C A != 0) = true := by simpa using hV
    generalize checkV l C A = cv at *
    go_enter Try.func10, Try.ntmps10
    go_wp2_with (first
      | (go_at_call 28; refine HC.out.mono ?_; rintro e w1 ⟨rfl, h1⟩)
      | (go_at_call 26; refine (known04 _).mono ?_; rintro e w3 ⟨rfl, h3⟩))
    go_ret
    exact ⟨rfl, bseq h1 h3⟩

end Go.Proofs.Ytckokehpdgjacaa
