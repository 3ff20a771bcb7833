/-
  Layer 6: the program's list of declarations, walked.
-/
import Derived.Test.YtjljlcflmcjapaaDeclW4
namespace Go.Proofs.Ytjljlcflmcjapaa
open Go.RowKit Pl
set_option linter.unusedVariables false
set_option linter.unusedSimpArgs false
set_option maxRecDepth 4000 in
set_option maxHeartbeats 4000000 in
theorem decls_p {w : World} {a : Option Addr} {cap : Nat} {l : List TokV} (h : RToks w a cap l) (hl : limC l) :
    Calls Try.prog 31 #[.slice a l.length cap] w fun e w' => ∃ b c rs, e = .returned (.slice b rs.length c) ∧ RDecls w' b c rs ∧ ReadsD w' rs (declsT l) ∧ Below w.heap.size w w' := by
  have HS := Lib.hid (pieces_p h hl)
  have HN := pieces_n semiB _ l (Nat.le_refl _)
  have hlen : l.length ≤ 100000 := hl
  have HPL := Lib.hid (show ∀ p ∈ pieces semiB l, limC p from pieces_lim _ l (Nat.le_refl _) hl)
  have HD := Lib.hid (show declsT l = (pieces semiB l).filterMap declT from rfl)
  generalize pieces semiB l = PS at *
  clear h hl
  go_enter Try.func31, Try.ntmps31
  go_wp2_with (go_at_call 56; refine HS.out.mono ?_; rintro e w1 ⟨b1, c1, rs1, rfl, hr1, hd1, h1⟩; have HR1 := Lib.hid hr1; have HD1 := Lib.hid hd1; clear hr1 hd1)
  have HN1 : Hid (rs1.length = PS.length) := HD1.out.len
  have hs1 : rs1.length ≤ 200000 := by have := HN1.out; omega
  go_loopw [3, 13] (fun v t wr => ∃ (k : Nat) (rs : List DRow), t = .int .i64 k ∧ k ≤ rs1.length ∧ rs.length ≤ k ∧ wr.ownsRow w1.heap.size 78 3 v rs.length ((rs.map DRow.cells).flatten) ∧ Decled wr v rs ((PS.take k).filterMap declT) ∧ Below w1.heap.size w1 wr) (fun _ t _ => rs1.length - (intOf t).toNat)
  case atStart => exact ⟨0, [], rfl, Nat.zero_le _, Nat.le_refl _, World.ownsRow_nil _ _ _ _, Decled.nil _ _, Below.refl _ _⟩
  case round =>
    obtain ⟨k, rs, rfl, hk, hrs, hown, hdc, hbl⟩ := hrel
    have HDC := Lib.hid hdc
    clear hdc
    by_cases hlt : k < rs1.length
    · have e1 : decide ((k : Int) < (rs1.length : Int)) = true := by simp; omega
      obtain ⟨b, off, rfl, hb, hc⟩ := HR1.out.base (fun e => by rw [e] at hlt; simp at hlt)
      have hck := hc k hlt 0 _ rfl
      have hbw := Nat.lt_of_lt_of_le hb hbl.size
      have hcw := (hbl.cell (p := ⟨b, off + k * 1 + 0, none⟩) hb).trans hck
      have HRow := Lib.hid (HD1.out.2 rs1[k] (List.getElem_mem _))
      have hpk : rs1[k].l = PS[k]'(by have := HN1.out; omega) := by
        have := HD1.out.1
        have h2 := congrArg (fun l => l[k]?) this
        simp only [List.getElem?_map, List.getElem?_eq_getElem hlt, List.getElem?_eq_getElem (show k < PS.length by have := HN1.out; omega), Option.map_some, Option.some.injEq] at h2
        exact h2
      have HPk := Lib.hid (HPL.out (PS[k]'(by have := HN1.out; omega)) (List.getElem_mem _))
      have HF := Lib.hid (filterMap_at declT PS k (by have := HN1.out; omega))
      rw [← hpk] at HF HPk
      clear hpk hck hc
      generalize rs1[k] = R at *
      have HDR := Lib.hid (fun (W : World) (hb' : Below w1.heap.size w1 W) => decl_p (w := W) HRow.out HPk.out hb')
      simp only [Nat.mul_one, Nat.add_zero] at hcw
      cases hdt : declT R.l with
      | none =>
        rw [hdt] at HDR HF
        clear hdt
        go_wp2_with (first
          | (go_at_call 58; refine (HDR.out _ hbl).mono ?_; rintro e w2 ⟨hg2, h2⟩; obtain rfl : e = _ := hg2))
        go_roundw
        case rel =>
          have hq : ∀ o, Decled (w2.alloc o) u3 rs ((PS.take (k + 1)).filterMap declT) := fun o => by
            rw [HF.out, List.append_nil]
            exact HDC.out.grow (balloc h2 _)
          exact ⟨k + 1, rs, rfl, by omega, by omega, own_grow hown (balloc h2 _), hq _, bseq hbl (balloc h2 _)⟩
        case measure => simp [intOf] <;> omega
      | some d =>
        rw [hdt] at HDR HF
        clear hdt
        go_wp2_with (first
          | (go_at_call 58; refine (HDR.out _ hbl).mono ?_; rintro e w2 ⟨⟨a2, c2, rfl, hv2, hno2⟩, h2⟩)
          | (at_builtin; refine wpList_app1 49 78 3 48 _ tDecls rfl _ _ rfl w1.heap.size _ _ _ rfl (own_grow (own_grow hown h2) (balloc (Below.refl _ _) _)) #[.string d.name, .slice a2 d.value.length c2, .bool d.imp] (w2.heap.size + 1) rfl (by simp) rfl (one_decl d a2 c2) (by omega) (by omega) (Nat.le_trans hbl.size (Nat.le_trans h2.size (by simp))) ?_; intro g9 c9 w4 hown4 hb4 hg4 hat4))
        go_roundw
        case rel =>
          refine ⟨k + 1, rs ++ [⟨d, a2, c2⟩], rfl, by omega, ?_, ?_, ?_, ?_⟩
          · simp; omega
          · simpa [DRow.cells] using hown4
          · rw [HF.out]
            exact HDC.out.more hown h2 _ d a2 c2 hv2 hno2 hg4 hat4
          · exact (bseq hbl (balloc h2 _)).trans hb4
        case measure => simp [intOf] <;> omega
    · obtain rfl : k = rs1.length := by omega
      have e1 : decide ((rs1.length : Int) < (rs1.length : Int)) = false := by simp
      obtain ⟨b9, c9, rfl, hr9⟩ := Rows.of_own (cells := DRow.cells) (xs := rs) hown (fun k hk j u hu => flat_get DRow.cells 3 rs (fun _ _ => rfl) k hk j u hu) (by omega)
      have HR9 := Lib.hid hr9
      have HE : Hid ((PS.take rs1.length).filterMap declT = declsT l) := by
        rw [Hid, HD.out, HN1.out, List.take_length]
      clear hown hr9
      go_wp2_with fail
      go_ret
      refine ⟨b9, c9, rs, rfl, HR9.out, ?_, bseq h1 hbl⟩
      rw [← HE.out]
      exact HDC.out.reads
end Go.Proofs.Ytjljlcflmcjapaa
