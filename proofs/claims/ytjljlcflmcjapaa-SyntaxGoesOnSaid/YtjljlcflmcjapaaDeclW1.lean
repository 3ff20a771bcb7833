/-
  Layer 6: pieces and Split, walked.
-/
import Derived.Test.YtjljlcflmcjapaaDeclRef2
namespace Go.Proofs.Ytjljlcflmcjapaa
open Go Go.RowKit Pl
set_option linter.unusedVariables false
set_option linter.unusedSimpArgs false
theorem rel_kv {W : World} {a : Option Addr} {cap : Nat} {xs : List TokV} (h : RToks W a cap xs) : Sy.rel (Sy.rho0 W) (Sy.kv xs) (.slice a xs.length cap) := by
  simp only [Sy.kv, Sy.viewOf, Sy.rel]
  refine ⟨a, cap, rfl, h.le, h.max, h.nil, fun hn => ?_⟩
  obtain ⟨b, off, rfl, hb, hcell⟩ := h.base (fun e => by rw [e] at hn; simp at hn)
  refine ⟨b, off, rfl, fun i j hi hj => ?_⟩
  have hg : xs.getD i tok0 = xs[i] := by rw [List.getD_eq_getElem?_getD, List.getElem?_eq_getElem hi]; rfl
  have hj' : j < (TokV.cells xs[i]).length := hj
  have hu : (TokV.cells xs[i])[j]? = some (TokV.cells xs[i])[j] := List.getElem?_eq_getElem hj'
  refine ⟨(TokV.cells xs[i])[j], ?_, ?_, Sy.tok_one _ _ (List.getElem_mem _)⟩
  · simp only [Sy.rho0, if_pos hb]
    exact hcell i hi j _ hu
  · rw [hg, List.getD_eq_getElem?_getD, hu]
    simp only [Option.getD_some]
theorem first_w {w : World} {a : Option Addr} {cap : Nat} {m : List TokV} (h : RToks w a cap m) (hm : Sy.lim m) :
    Calls Try.prog 83 #[.slice a m.length cap, .int .i64 0, .func (.func 57) #[] #[]] w fun e w' => e = .returned (.int .i64 (tops semiB m 0 : Nat)) ∧ Below w.heap.size w w' := by
  refine (((Sy.first_t m hm 0 (by omega) (by omega)).mono fun v _ e => (⟨_, e, rfl⟩ : ∃ u, v = .lit u ∧ u = .int .i64 (tops semiB m (0 : Int).toNat : Nat))).calls (us := [.slice a m.length cap, .int .i64 0, .func (.func 57) #[] #[]]) ?_).mono ?_
  · simp only [Sy.rels]
    exact ⟨_, _, rfl, rel_kv h, _, _, rfl, by simp only [Sy.rel], _, _, rfl, by simp only [Sy.rel, Sy.rels]; exact ⟨[], [], rfl, rfl, rfl⟩, rfl⟩
  · rintro e w' ⟨⟨u, rfl, rfl⟩, hb⟩
    exact ⟨rfl, hb⟩
/-- a slice of tokens, in a slice -/
structure TRow where
  a : Option Addr
  cap : Nat
  l : List TokV
def TRow.cells (r : TRow) : List Value := [.slice r.a r.l.length r.cap]
theorem TRow.len (y : TRow) : y.cells.length = 1 := rfl
theorem TRow.one (y : TRow) : ∀ u ∈ y.cells, u.oneCell' = true := by
  intro u hu
  simp only [TRow.cells, List.mem_cons, List.not_mem_nil, or_false] at hu
  subst hu; rfl
abbrev RRows := Rows TRow.cells 1
/-- they read as those pieces -/
def Reads (w : World) (rs : List TRow) (ps : List (List TokV)) : Prop := rs.map TRow.l = ps ∧ ∀ r ∈ rs, RToks w r.a r.cap r.l
theorem Reads.grow {w w' : World} {rs : List TRow} {ps : List (List TokV)} (h : Reads w rs ps) (hb : Below w.heap.size w w') : Reads w' rs ps := ⟨h.1, fun r hr => (h.2 r hr).grow hb⟩
theorem Reads.nil (w : World) : Reads w [] [] := ⟨rfl, fun r h => absurd h (by simp)⟩
theorem Reads.snoc {w : World} {rs : List TRow} {ps : List (List TokV)} (h : Reads w rs ps) (r : TRow) (hr : RToks w r.a r.cap r.l) : Reads w (rs ++ [r]) (ps ++ [r.l]) :=
  ⟨by rw [List.map_append, h.1]; rfl, fun x hx => by
    rcases List.mem_append.1 hx with hx | hx
    · exact h.2 x hx
    · simp at hx; subst hx; exact hr⟩
theorem Reads.len {w : World} {rs : List TRow} {ps : List (List TokV)} (h : Reads w rs ps) : rs.length = ps.length := by rw [← h.1]; simp
/-- the first of them -/
theorem RToks.take {w : World} {a : Option Addr} {cap : Nat} {l : List TokV} (h : RToks w a cap l) (k c : Nat) (hk : k ≤ l.length) (hc : k ≤ c) (hc' : c ≤ cap) : RToks w a c (l.take k) :=
  ⟨by rw [List.length_take]; omega, by have := h.max; omega, by have := h.sm; rw [List.length_take]; omega, fun e => by have := h.nil e; omega, fun hne => by
    have hl : l ≠ [] := fun e => by rw [e] at hne; simp at hne
    obtain ⟨b, off, ha, hb, hcell⟩ := h.base hl
    refine ⟨b, off, ha, hb, fun i hi j u hu => ?_⟩
    have hi' : i < l.length := by rw [List.length_take] at hi; omega
    rw [List.getElem_take] at hu
    exact hcell i hi' j u hu⟩
/-- those behind -/
theorem RToks.drop {w : World} {b off cap : Nat} {l : List TokV} (h : RToks w (some ⟨b, off, none⟩) cap l) (k : Nat) (hk : k ≤ l.length) (a : Option Addr) (ha : k < l.length → a = some ⟨b, off + k * 3, none⟩) (ha' : a = none → cap - k = 0) : RToks w a (cap - k) (l.drop k) :=
  ⟨by have := h.le; rw [List.length_drop]; omega, by have := h.max; omega, by have := h.sm; rw [List.length_drop]; omega, ha', fun hne => by
    have hkl : k < l.length := by
      rcases Nat.lt_or_ge k l.length with h' | h'
      · exact h'
      · exact absurd (List.drop_eq_nil_of_le h') hne
    obtain ⟨b', off', e, hb, hcell⟩ := h.base (fun e => by rw [e] at hkl; simp at hkl)
    simp at e
    obtain ⟨rfl, rfl⟩ := e
    refine ⟨b, off + k * 3, ha hkl, hb, fun i hi j u hu => ?_⟩
    rw [List.getElem_drop] at hu
    have := hcell (k + i) (by rw [List.length_drop] at hi; omega) j u hu
    rw [← this]
    congr 2
    rw [Nat.add_mul]; omega⟩
theorem tPieces : SliceT Try.prog 80 41 1 24 (.slice none 0 0) :=
  ⟨Try.underlying80, by obtain ⟨i0, hi, hz0, hz1, hz2⟩ := info_parts (show (Try.prog.info? 41).map (fun i => (i.zero, i.size, i.bytes)) = some (some (.slice none 0 0), 1, 24) by kernel_rfl); exact ⟨i0, hi, hz0, hz1, hz2⟩, rfl, by decide⟩
theorem pieces_ne (p : TokV → Bool) (l : List TokV) : 1 ≤ (pieces p l).length := by rw [pieces_step]; simp
theorem pieces_n (p : TokV → Bool) : ∀ (n : Nat) (l : List TokV), l.length ≤ n → (pieces p l).length ≤ l.length + 1 := by
  intro n
  induction n with
  | zero =>
    intro l h
    rw [pieces_step]
    have := tops_le p l 0 (Nat.zero_le _)
    rw [if_pos (by omega)]; simp
  | succ n ih =>
    intro l h
    rw [pieces_step]
    have := tops_le p l 0 (Nat.zero_le _)
    split
    · simp
    · have := ih (l.drop (tops p l 0 + 1)) (by rw [List.length_drop]; omega)
      rw [List.length_drop] at this
      simp only [List.length_cons]
      omega
set_option maxRecDepth 4000 in
set_option maxHeartbeats 4000000 in
theorem pieces_p {w : World} {a : Option Addr} {cap : Nat} {l : List TokV} (h : RToks w a cap l) (hl : limC l) :
    Calls Try.prog 56 #[.slice a l.length cap, .func (.func 57) #[] #[]] w fun e w' => ∃ b c rs, e = .returned (.slice b rs.length c) ∧ RRows w' b c rs ∧ Reads w' rs (pieces semiB l) ∧ Below w.heap.size w w' := by
  have HR := Lib.hid h; clear h
  have hlen : l.length ≤ 100000 := hl
  go_enter Try.func56, Try.ntmps56
  go_wp2_with fail
  go_loopw [0, 5] (fun s v wr => ∃ (a' : Option Addr) (cap' : Nat) (m : List TokV) (rs : List TRow) (ps : List (List TokV)), s = .slice a' m.length cap' ∧ m.length ≤ l.length ∧ RToks w a' cap' m ∧ rs.length + m.length ≤ l.length ∧ wr.ownsRow w.heap.size 41 1 v rs.length ((rs.map TRow.cells).flatten) ∧ Reads w rs ps ∧ Hid (pieces semiB l = ps ++ pieces semiB m) ∧ Below w.heap.size w wr) (fun s _ _ => match s with | .slice _ n _ => n | _ => 0)
  case atStart => exact ⟨a, cap, l, [], [], rfl, Nat.le_refl _, HR.out, by simp, World.ownsRow_nil _ _ _ _, Reads.nil _, rfl, Below.refl _ _⟩
  case round =>
    obtain ⟨a', cap', m, rs, ps, rfl, hml, hm, hrs, hown, hrd, hpc, hbl⟩ := hrel
    have HM := Lib.hid hm
    have HRD := Lib.hid hrd
    have HF := Lib.hid (fun (W : World) (hb : Below w.heap.size w W) => first_w (hm.grow hb) (show Sy.lim m by unfold Sy.lim; omega))
    have HPS := Lib.hid (pieces_step semiB m)
    have hk := tops_le semiB m 0 (Nat.zero_le _)
    have htk := Lib.hid (hm.take (tops semiB m 0) (tops semiB m 0) hk.2 (Nat.le_refl _) (by have := hm.le; omega))
    have hle := hm.le
    generalize hkk : tops semiB m 0 = k at *
    clear hkk
    by_cases hend : k = m.length
    · subst hend
      have e1 : ((m.length : Int) == (m.length : Int)) = true := by simp
      clear hm hrd
      go_wp2_with (first
        | (go_at_call 83; refine (HF.out _ hbl).mono ?_; rintro e w1 ⟨rfl, h1⟩)
        | (at_builtin; refine wpList_app 80 41 1 24 _ tPieces rfl _ _ rfl w.heap.size _ _ _ rfl (own_grow hown h1) 1 #[.slice a' m.length m.length] rfl rfl (by intro u hu; simp at hu; subst hu; rfl) (by omega) (by omega) (Nat.le_trans hbl.size h1.size) ?_; intro v' w4 hown4 hb4))
      obtain ⟨b9, c9, rfl, hr9⟩ := Rows.of_own (cells := TRow.cells) (xs := rs ++ [⟨a', m.length, m.take m.length⟩]) (by simpa [TRow.cells] using hown4) (fun k hk j u hu => by
        have := flat_get TRow.cells 1 (rs ++ [⟨a', m.length, m.take m.length⟩]) (fun _ _ => rfl) k hk j u hu
        simpa [TRow.cells] using this) (by simp; omega)
      have HR9 := Lib.hid hr9
      clear hown4 hr9
      go_ret
      refine ⟨b9, c9, _, rfl, HR9.out, ?_, (bseq hbl h1).trans hb4⟩
      have hB : Below w.heap.size w w4 := (bseq hbl h1).trans hb4
      have hs := HRD.out.snoc ⟨a', m.length, m.take m.length⟩ htk.out
      have e2 := HPS.out
      rw [if_pos trivial] at e2
      rw [hpc.out, e2]
      exact hs.grow hB
    · have hlt : k < m.length := by omega
      have e1 : ((k : Int) == (m.length : Int)) = false := by simp; omega
      obtain ⟨b, off, rfl, hb, _⟩ := hm.at (fun e => by rw [e] at hlt; simp at hlt)
      clear hm hrd
      go_wp2_with (first
        | (go_at_call 83; refine (HF.out _ hbl).mono ?_; rintro e w1 ⟨rfl, h1⟩)
        | (at_builtin; refine wpList_app 80 41 1 24 _ tPieces rfl _ _ rfl w.heap.size _ _ _ rfl (own_grow hown h1) 1 #[.slice (some ⟨b, off, none⟩) k k] rfl rfl (by intro u hu; simp at hu; subst hu; rfl) (by omega) (by omega) (Nat.le_trans hbl.size h1.size) ?_; intro v' w4 hown4 hb4))
      have hld : (m.drop (k + 1)).length = m.length - (k + 1) := by rw [List.length_drop]
      refine ⟨⟨if cap' = k + 1 then some ⟨b, off, none⟩ else some ⟨b, off + (k + 1) * 3, none⟩, cap' - (k + 1), m.drop (k + 1), rs ++ [⟨some ⟨b, off, none⟩, k, m.take k⟩], ps ++ [m.take k], ?_, ?_, ?_, ?_, ?_, ?_, ?_, ?_⟩, ?_⟩
      · rw [hld]
      · omega
      · refine HM.out.drop (k + 1) (by omega) _ (fun h => ?_) (fun h => ?_)
        · rw [if_neg (by omega)]
        · split at h <;> cases h
      · rw [hld, List.length_append]; simp; omega
      · have hlk : (m.take k).length = k := by rw [List.length_take]; omega
        simpa [TRow.cells, hlk] using hown4
      · exact HRD.out.snoc ⟨some ⟨b, off, none⟩, k, m.take k⟩ htk.out
      · have e2 := HPS.out
        rw [if_neg hend] at e2
        rw [Hid, hpc.out, e2, List.append_assoc]
        rfl
      · exact (bseq hbl h1).trans hb4
      · show m.length - (k + 1) < m.length
        omega
end Go.Proofs.Ytjljlcflmcjapaa
