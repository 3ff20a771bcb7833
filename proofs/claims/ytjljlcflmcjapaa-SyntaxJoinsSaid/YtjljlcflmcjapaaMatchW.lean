/-
  Contracts of closing, and of what closes an opening: the program's and the reference's.
-/
import Derived.Test.YtjljlcflmcjapaaToks
import Derived.Test.YtjljlcflmcjapaaMatchPlain
namespace Go.Proofs.Ytjljlcflmcjapaa
open Go.RowKit Pl
set_option linter.unusedVariables false

theorem iInts : SliceT Try.prog 79 3 1 8 (.int .i64 0) :=
  ⟨Try.underlying79, by obtain ⟨i0, hi, hz0, hz1, hz2⟩ := info_parts (show (Try.prog.info? 3).map (fun i => (i.zero, i.size, i.bytes)) = some (some (.int .i64 0), 1, 8) by kernel_rfl); exact ⟨i0, hi, hz0, hz1, hz2⟩, rfl, by decide⟩

theorem closing_p (k : Int) (w : World) : Calls Try.prog 54 #[.int .i64 k] w fun e w' => e = .returned (.int .i64 (clo k)) ∧ w = w' := by
  have HC := Lib.hid (show clo k = if k = 13 ∨ k = 2 then 14 else if k = 15 then 16 else if k = 17 then 18 else 0 from rfl)
  generalize clo k = c at *
  go_enter Try.func54, Try.ntmps54
  go_wp2
  all_goals
    go_ret
    exact ⟨ret_int (by rw [HC.out]; simp_all), rfl⟩
theorem closing_r (k : Int) (w : World) : Calls Try.prog 29 #[.int .i64 k] w fun e w' => e = .returned (.int .i64 (clo k)) ∧ w = w' := by
  have HC := Lib.hid (show clo k = if k = 13 ∨ k = 2 then 14 else if k = 15 then 16 else if k = 17 then 18 else 0 from rfl)
  generalize clo k = c at *
  go_enter Try.func29, Try.ntmps29
  go_wp2
  all_goals
    go_ret
    exact ⟨ret_int (by rw [HC.out]; simp_all), rfl⟩

theorem kindsT_get {l : List TokV} {k : Nat} (h : k < l.length) : (kindsT l)[k]'(by simpa [kindsT] using h) = l[k].kind := by simp [kindsT]
theorem kindsT_len (l : List TokV) : (kindsT l).length = l.length := by simp [kindsT]

theorem mt_out {l : List TokV} {i : Int} (h : i < 0 ∨ (l.length : Int) ≤ i) : mtc (kindsT l) i = i := by
  unfold mtc
  rw [dif_neg (by rw [kindsT_len]; omega)]
theorem mt_none {l : List TokV} {i : Nat} (h : i < l.length) (h0 : clo l[i].kind = 0) : mtc (kindsT l) i = i := by
  unfold mtc
  rw [dif_pos ⟨by omega, by rw [kindsT_len]; omega⟩]
  simp only [Int.toNat_natCast, kindsT_get h, h0, if_true]
theorem mt_some {l : List TokV} {i : Nat} (h : i < l.length) (h0 : clo l[i].kind ≠ 0) : mtc (kindsT l) i = runs (kindsT l) (i + 1) [clo l[i].kind] := by
  unfold mtc
  rw [dif_pos ⟨by omega, by rw [kindsT_len]; omega⟩]
  simp only [Int.toNat_natCast, kindsT_get h, h0, if_false]

/-- a slice of the call's own, cut short -/
theorem own_cut {w : World} {base : Nat} {e : TypeId} {g cap n k : Nat} {xs : List Value} (h : w.ownsRow base e 1 (.slice (some ⟨g, 0, none⟩) n cap) n xs) (hk : k ≤ n) : w.ownsRow base e 1 (.slice (some ⟨g, 0, none⟩) k cap) k (xs.take k) := by
  obtain ⟨h1, h2⟩ := h
  refine ⟨by simp; omega, ?_⟩
  rcases h2 with ⟨h2, _⟩ | ⟨g', cap', cur, e1, hb, hg, hn, hm, hs, ht⟩
  · cases h2
  · simp at e1
    obtain ⟨rfl, rfl⟩ := e1
    refine .inr ⟨g, cap, cur, rfl, hb, hg, by omega, hm, hs, ?_⟩
    rw [← ht, List.take_take]
    congr 1; omega

/-- a slice of the call's own, after only growth -/
theorem own_grow {w w' : World} {base : Nat} {e : TypeId} {s n : Nat} {v : Value} {xs : List Value} (h : w.ownsRow base e s v n xs) (hb : Below w.heap.size w w') : w'.ownsRow base e s v n xs := by
  obtain ⟨h1, h2⟩ := h
  refine ⟨h1, ?_⟩
  rcases h2 with h2 | ⟨g, cap, cur, rfl, hg, hc, r⟩
  · exact Or.inl h2
  · exact Or.inr ⟨g, cap, cur, rfl, hg, (hb.block g (Array.getElem?_eq_some_iff.1 hc).1).trans hc, r⟩

/-- how far the search is: the closers that are open, the first one first -/
def Open (K : List Int) (i : Nat) (r : Nat) (k : Nat) (os : List Int) : Prop := (k = i ∧ os = []) ∨ (os ≠ [] ∧ i < k ∧ runs K k os.reverse = r ∧ os.length ≤ k - i)

set_option maxHeartbeats 2000000 in
theorem match_p {w : World} {a : Option Addr} {cap : Nat} {l : List TokV} (hl : RToks w a cap l) (i : Int) :
    Calls Try.prog 27 #[.slice a l.length cap, .int .i64 i] w fun e w' => e = .returned (.int .i64 (mtc (kindsT l) i)) ∧ Below w.heap.size w w' := by
  have hsm := hl.sm
  by_cases hneg : i < 0
  · have HV := Lib.hid (mt_out (l := l) (.inl hneg))
    have d1 : decide (i < 0) = true := by simpa using hneg
    clear hl hneg
    go_enter Try.func27, Try.ntmps27
    go_wp2_with fail
    go_ret
    exact ⟨ret_int HV.out.symm, Below.refl _ _⟩
  have d1 : decide (i < 0) = false := by simpa using hneg
  by_cases hbig : (l.length : Int) ≤ i
  · have HV := Lib.hid (mt_out (l := l) (.inr hbig))
    have d2 : decide ((l.length : Int) ≤ i) = true := by simpa using hbig
    clear hl hneg hbig
    go_enter Try.func27, Try.ntmps27
    go_wp2_with fail
    go_ret
    exact ⟨ret_int HV.out.symm, Below.refl _ _⟩
  obtain ⟨m, rfl⟩ := Int.eq_ofNat_of_zero_le (show 0 ≤ i by omega)
  have hm : m < l.length := by omega
  have d1 : decide ((m : Int) < 0) = false := by simp
  have d2 : decide ((l.length : Int) ≤ (m : Int)) = false := by simp; omega
  have d3 : decide (l.length ≤ m) = false := by simp; omega
  clear hneg hbig
  obtain ⟨b, off, rfl, hb, hc⟩ := hl.at (fun e => by rw [e] at hm; simp at hm)
  have HCl := Lib.hid hc
  obtain ⟨c0, _, _⟩ := hc m hm
  clear hc hl
  by_cases h0 : clo l[m].kind = 0
  · have HV := Lib.hid (mt_none hm h0)
    have HC := Lib.hid (fun w => by have := closing_p l[m].kind w; rw [h0] at this; exact this)
    clear h0
    generalize l[m].kind = kd at *
    go_enter Try.func27, Try.ntmps27
    go_wp2_with (go_at_call 54; refine (HC.out _).mono ?_; rintro e w' ⟨rfl, rfl⟩)
    go_ret
    exact ⟨ret_int HV.out.symm, Below.refl _ _⟩
  have HV := Lib.hid (mt_some hm h0)
  have HC := Lib.hid (fun w => closing_p l[m].kind w)
  have z0 : (clo l[m].kind == 0) = false := by simpa using h0
  have hKl := kindsT_len l
  have hstart : Hid (Open (kindsT l) m (runs (kindsT l) (m + 1) [clo l[m].kind]) m []) := Or.inl ⟨rfl, rfl⟩
  generalize hR : runs (kindsT l) (m + 1) [clo l[m].kind] = R at *
  have HR := Lib.hid hR
  have HKL := Lib.hid hKl
  have h0' := Lib.hid h0
  clear hR hKl h0
  generalize hkd : l[m].kind = kd at *
  have HKD := Lib.hid hkd
  clear hkd
  go_enter Try.func27, Try.ntmps27
  go_wp2_with (go_at_call 54; refine (HC.out _).mono ?_; rintro e w' ⟨rfl, rfl⟩)
  go_loopw [5, 6] (fun v t wr => ∃ (k : Nat) (os : List Int), t = .int .i64 k ∧ k ≤ l.length ∧ wr.ownsRow w.heap.size 3 1 v os.length (os.map (.int .i64)) ∧ Hid (Open (kindsT l) m R k os) ∧ Below w.heap.size w wr) (fun _ t _ => l.length - (intOf t).toNat)
  case atStart => exact ⟨m, [], rfl, by omega, World.ownsRow_nil _ _ _ _, hstart, Below.refl _ _⟩
  case round =>
    clear hstart HC z0 c0
    obtain ⟨k, os, rfl, hk, hown, hO, hbl⟩ := hrel
    have hol : os.length ≤ k := by 
      rcases hO.out with ⟨_, h4⟩ | ⟨_, _, _, h4⟩
      · rw [h4]; exact Nat.zero_le _
      · omega
    by_cases hlt : k < l.length
    · have e1 : decide ((k : Int) < (l.length : Int)) = true := by simp; omega
      obtain ⟨q0, _, _⟩ := HCl.out k hlt
      have q1 := (hbl.cell (p := ⟨b, off + k * 3, none⟩) hb).trans q0
      have hbw := Nat.lt_of_lt_of_le hb hbl.size
      have HC := Lib.hid (fun w => closing_p l[k].kind w)
      have hkK : k < (kindsT l).length := by rw [kindsT_len]; exact hlt
      have HK : Hid ((kindsT l)[k]'hkK = l[k].kind) := kindsT_get hlt
      have HS := Lib.hid (fun st => runs_step (K := kindsT l) (k := k) st hkK)
      have hcn := clo_nonneg l[k].kind
      by_cases h1 : clo l[k].kind = 0
      · -- no opening
        have z1 : decide (0 < clo l[k].kind) = false := by rw [h1]; rfl
        have hne : os ≠ [] := by
          rcases hO.out with ⟨rfl, rfl⟩ | ⟨o1, _⟩
          · exact absurd (by rw [← HKD.out]; exact h1) h0'.out
          · exact o1
        obtain ⟨os', top, rfl⟩ : ∃ os' top, os = os' ++ [top] := ⟨os.dropLast, os.getLast hne, (List.dropLast_concat_getLast hne).symm⟩
        have hO1 : m < k ∧ runs (kindsT l) k (top :: os'.reverse) = R ∧ os'.length + 1 ≤ k - m := by
          rcases hO.out with ⟨_, h⟩ | ⟨_, o2, o3, o4⟩
          · exact absurd h hne
          · simp at o3 o4; exact ⟨o2, o3, o4⟩
        have HO1 := Lib.hid hO1
        obtain ⟨g, cp, cur, rfl, hg0, hgc, htk, hncap, _, hsz⟩ := own_block hown (by simp)
        have q2 : wr.cell? ⟨g, os'.length, none⟩ = some (.int .i64 top) := by
          have h2 : (cur.toList.take ((os' ++ [top]).length * 1))[os'.length]? = some (.int .i64 top) := by rw [htk]; simp
          rw [List.getElem?_take] at h2
          split at h2
          · simpa [World.cell?, hgc] using h2
          · cases h2
        have hgw : g < wr.heap.size := (Array.getElem?_eq_some_iff.1 hgc).1
        have hol2 : os'.length + 1 ≤ k := by simpa using hol
        have hlen1 : (os' ++ [top]).length = os'.length + 1 := by simp
        have hcut := own_cut (k := os'.length) hown (by simp)
        rw [hlen1] at hncap hown
        have hncap' : os'.length + 1 ≤ cp := hncap
        rw [hlen1]
        have HOw := Lib.hid hown
        have hcut' : wr.ownsRow w.heap.size 3 1 (.slice (some ⟨g, 0, none⟩) os'.length cp) os'.length (os'.map (.int .i64)) := by simpa using hcut
        have HCut := Lib.hid hcut'
        clear hcut'
        have HE := Lib.hid h1
        clear hne hO hO1 hgc htk hsz hncap hcut hown hol q0 h1 hlen1
        have p1 : (0 : Int) ≤ (k : Int) := by omega
        have p2 : (k : Int) < (l.length : Int) := by omega
        have p3 : (0 : Int) ≤ (os'.length : Int) := by omega
        have p4 : (os'.length : Int) < (os'.length : Int) + 1 := by omega
        generalize hkk : l[k].kind = kk at *
        by_cases heq : kk = top
        · subst heq
          have HT : Hid ((os' = [] → (mtc (kindsT l) m = (k : Int))) ∧ (os' ≠ [] → Open (kindsT l) m R (k + 1) os')) := by
            have hr := HO1.out.2.1
            rw [HS.out, HK.out, HE.out, if_neg (by simp)] at hr
            simp only [if_true] at hr
            have h9 := HO1.out
            refine ⟨fun e => ?_, fun e => Or.inr ⟨e, by omega, ?_, by omega⟩⟩
            · subst e
              rw [HV.out, ← hr]; rfl
            · cases hrev : os'.reverse with
              | nil => simp at hrev; exact absurd hrev e
              | cons x xs => rw [hrev] at hr; exact hr
          clear HS HK hkK
          go_wp2_with (go_at_call 54; refine (HC.out _).mono ?_; rintro e w' ⟨rfl, rfl⟩)
          refine wp_region_ext (by kernel_rfl) (by kernel_rfl) ?_
          repeat (go_big_quiet_step (fail))
          refine wpQuiet_nil ?_
          rintro _ ⟨u, rfl⟩
          have hbx := wext_below wr u
          by_cases hos : os' = []
          · have hF := Lib.hid (HT.out.1 hos)
            subst hos
            go_wp2_with fail
            go_ret
            exact ⟨ret_int hF.out.symm, hbl.trans (hbx.mono hbl.size)⟩
          · have hO3 := Lib.hid (HT.out.2 hos)
            have z3 : ((os'.length : Int) == 0) = false := by simp; exact hos
            have hpos : 0 < os'.length := List.length_pos_iff.2 hos
            go_wp2_with fail
            go_roundw
            case rel => exact ⟨k + 1, os', by simp, hlt, own_grow HCut.out hbx, hO3, hbl.trans (hbx.mono hbl.size)⟩
            case measure => simp [intOf] <;> omega
        · have z4 : (kk == top) = false := by simpa using heq
          have hO3 : Hid (Open (kindsT l) m R (k + 1) (os' ++ [top])) := by
            have hr := HO1.out.2.1
            rw [HS.out, HK.out, HE.out, if_neg (by simp)] at hr
            simp only [if_neg heq] at hr
            have h9 := HO1.out
            exact Or.inr ⟨by simp, by omega, by simpa using hr, by simp; omega⟩
          clear HS HK hkK
          go_wp2_with (go_at_call 54; refine (HC.out _).mono ?_; rintro e w' ⟨rfl, rfl⟩)
          refine wp_region_ext (by kernel_rfl) (by kernel_rfl) ?_
          repeat (go_big_quiet_step (fail))
          refine wpQuiet_nil ?_
          rintro _ ⟨u, rfl⟩
          have hbx := wext_below wr u
          go_wp2_with fail
          go_roundw
          case rel => exact ⟨k + 1, os' ++ [top], by simp, hlt, by simpa using own_grow HOw.out hbx, hO3, hbl.trans (hbx.mono hbl.size)⟩
          case measure => simp [intOf] <;> omega
      · have z1 : decide (0 < clo l[k].kind) = true := by simp; omega
        have HO2 : Hid (Open (kindsT l) m R (k + 1) (os ++ [clo l[k].kind])) := by
          rcases hO.out with ⟨rfl, rfl⟩ | ⟨o1, o2, o3, o4⟩
          · refine Or.inr ⟨by simp, by omega, ?_, by simp⟩
            rw [← HR.out, ← HKD.out]; rfl
          · refine Or.inr ⟨by simp, by omega, ?_, by simp; omega⟩
            rw [← o3, HS.out, List.reverse_append, HK.out, if_pos h1]; rfl
        have h1' := Lib.hid h1
        clear HS HK
        clear q0 h1 hkK
        generalize l[k].kind = kk at *
        generalize clo kk = ck at *
        go_wp2_with (first
          | (go_at_call 54; refine (HC.out _).mono ?_; rintro e w' ⟨rfl, rfl⟩)
          | (at_builtin; refine wpList_app 79 3 1 8 _ iInts rfl _ _ rfl w.heap.size _ _ _ rfl hown 1 #[.int .i64 ck] rfl rfl (by simp; rfl) (by omega) (by omega) hbl.size ?_; intro v' w1 hown1 hb1; clear hown))
        go_roundw
        case rel => exact ⟨k + 1, os ++ [ck], by simp, hlt, by simpa using hown1, HO2, hbl.trans hb1⟩
        case measure => simp [intOf] <;> omega
    · obtain rfl : k = l.length := by omega
      have HF : Hid (mtc (kindsT l) m = (l.length : Int)) := by
        rw [Hid, HV.out]
        rcases hO.out with ⟨h1, rfl⟩ | ⟨o1, o2, o3, o4⟩
        · omega
        · rw [← o3, runs_end _ (by rw [kindsT_len]; omega), kindsT_len]
      go_wp2_with fail
      go_ret
      exact ⟨ret_int HF.out.symm, hbl⟩

end Go.Proofs.Ytjljlcflmcjapaa
