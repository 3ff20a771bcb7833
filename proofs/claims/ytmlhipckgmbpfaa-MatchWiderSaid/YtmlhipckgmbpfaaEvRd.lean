/-
  The small interpreter: lists in its memory, read; a contract for match's picks.
-/
import Derived.Test.YtmlhipckgmbpfaaEvT
import Derived.Test.YtmlhipckgmbpfaaMtPicks
namespace Go.Proofs.Ytmlhipckgmbpfaa.Ev
open Go Go.RowKit
set_option linter.unusedVariables false
/-- rows of a block -/
noncomputable def rowsAt {α : Type} (rd : List AV → Option α) (cells : List AV) (s : Nat) : Nat → Nat → Option (List α)
  | 0, _ => some []
  | n + 1, off => obind (rd ((cells.drop off).take s)) fun x => obind (rowsAt rd cells s n (off + s)) fun r => some (x :: r)
noncomputable def readRows {α : Type} (M : Mem) (rd : List AV → Option α) (s : Nat) : AV → Option (List α)
  | .lit (.slice none 0 0) => some []
  | .esl => some []
  | .sl b o n c s' => match Nat.beq s' s && Nat.ble n 1000, M.get b with
    | true, some B => rowsAt rd B.cells s n o
    | _, _ => none
  | _ => none
theorem seg {w0 : Base} {ρ : Rho} {M : Mem} {w : World} (hW : WR w0 ρ M w) {b : Nat} {B : Blk} (hb : M.get b = some B) {g tot : Nat} (hg : ρ b = some (g, tot)) (k s : Nat) :
    ∃ us, rels ρ ((B.cells.drop k).take s) us ∧ ∀ j u, us[j]? = some u → w.cell? ⟨g, k + j, none⟩ = some u := by
  obtain ⟨g', tot', q1, _, cur, q3, q4, q5⟩ := hW.blk b B hb
  rw [hg] at q1
  simp at q1
  obtain ⟨rfl, rfl⟩ := q1
  have hlen : B.cells.length ≤ cur.size := by
    rcases Nat.lt_or_ge cur.size B.cells.length with h | h
    · obtain ⟨u, hu, _⟩ := q5 cur.size _ (List.getElem?_eq_getElem h)
      simp at hu
    · exact h
  refine ⟨(cur.toList.drop k).take ((B.cells.drop k).take s).length, rels.of ?_ ?_, ?_⟩
  · simp only [List.length_take, List.length_drop, Array.length_toList]; omega
  · intro i x y hx hy
    simp only [List.getElem?_take, List.getElem?_drop] at hx hy
    split at hx
    · split at hy
      · obtain ⟨u, hu, hr⟩ := q5 (k + i) x hx
        rw [Array.getElem?_toList, hu] at hy
        simp at hy
        rw [← hy]; exact hr
      · cases hy
    · cases hx
  · intro j u hu
    simp only [List.getElem?_take, List.getElem?_drop] at hu
    split at hu
    · rw [Array.getElem?_toList] at hu
      simp only [World.cell?, q3]
      exact hu
    · cases hu
section
variable {α β : Type} {cells : β → List Value} {f : β → α} {Pr : β → Prop} {s : Nat}
theorem rowsAt_sound {w0 : Base} {ρ : Rho} {M : Mem} {w : World} (hW : WR w0 ρ M w) {b : Nat} {B : Blk} (hb : M.get b = some B) {g tot : Nat} (hg : ρ b = some (g, tot)) {rd : List AV → Option α}
    (hrd : ∀ cs x us, rd cs = some x → rels ρ cs us → ∃ r : β, f r = x ∧ us = cells r ∧ Pr r) : ∀ (n off : Nat) (xs : List α), rowsAt rd B.cells s n off = some xs →
    ∃ rs : List β, rs.length = n ∧ rs.map f = xs ∧ (∀ r ∈ rs, Pr r) ∧ ∀ k (h : k < rs.length) j u, (cells rs[k])[j]? = some u → w.cell? ⟨g, off + k * s + j, none⟩ = some u := by
  intro n
  induction n with
  | zero => intro off xs h; simp [rowsAt] at h; subst h; exact ⟨[], rfl, rfl, fun r hr => by simp at hr, fun k h => absurd h (by simp)⟩
  | succ n ih =>
    intro off xs h
    simp only [rowsAt] at h
    obtain ⟨x, hx, h⟩ := obind_some h
    obtain ⟨r, hr, h⟩ := obind_some h
    simp at h
    subst h
    obtain ⟨us, h1, h2⟩ := seg hW hb hg off s
    obtain ⟨y, rfl, rfl, hy⟩ := hrd _ _ _ hx h1
    obtain ⟨rs, q1, q2, q3, q4⟩ := ih _ _ hr
    refine ⟨y :: rs, by simp [q1], by simp [q2], fun z hz => ?_, fun k hk j u hu => ?_⟩
    · rcases List.mem_cons.1 hz with rfl | hz
      · exact hy
      · exact q3 z hz
    · cases k with
      | zero => simpa using h2 j u hu
      | succ k =>
        have := q4 k (by simpa using hk) j u (by simpa using hu)
        rw [show off + (k + 1) * s + j = off + s + k * s + j by rw [Nat.succ_mul]; omega]
        exact this
theorem readRows_sound {w0 : Base} {ρ : Rho} {M : Mem} {w : World} (hW : WR w0 ρ M w) {v : AV} {u : Value} (hv : rel ρ v u) {rd : List AV → Option α}
    (hrd : ∀ cs x us, rd cs = some x → rels ρ cs us → ∃ r : β, f r = x ∧ us = cells r ∧ Pr r) {xs : List α} (h : readRows M rd s v = some xs) :
    ∃ (a : Option Addr) (cap : Nat) (rs : List β), u = .slice a rs.length cap ∧ rs.map f = xs ∧ Rows cells s w a cap rs ∧ ∀ r ∈ rs, Pr r := by
  unfold readRows at h
  split at h
  · simp at h; subst h
    simp only [rel] at hv
    exact ⟨none, 0, [], hv, rfl, ⟨Nat.le_refl _, Nat.zero_le _, Nat.zero_le _, fun _ => rfl, fun h => absurd rfl h⟩, fun r hr => by simp at hr⟩
  · simp at h; subst h
    simp only [rel] at hv
    obtain ⟨ad, cap, rfl, hc⟩ := hv
    exact ⟨some ad, cap, [], rfl, rfl, ⟨Nat.zero_le _, by simpa [maxLen] using hc, Nat.zero_le _, fun h => (by cases h), fun h => absurd rfl h⟩, fun r hr => by simp at hr⟩
  · rename_i b o n c s'
    split at h
    · rename_i B hc hb
      simp only [rel] at hv
      obtain ⟨g, tot, cap, hg, rfl, h1, h2, _, h3⟩ := hv
      have hlt : g < w.heap.size := by
        obtain ⟨g', tot', q1, _, cur, q3, _⟩ := hW.blk b B hb
        rw [hg] at q1
        simp at q1
        obtain ⟨rfl, rfl⟩ := q1
        exact (Array.getElem?_eq_some_iff.1 q3).1
      rw [Bool.and_eq_true] at hc
      have hn := Nat.le_of_ble_eq_true hc.2
      obtain ⟨rs, q1, q2, q3, q4⟩ := rowsAt_sound hW hb hg hrd n o xs h
      exact ⟨_, cap, rs, by rw [q1], q2, ⟨by rw [q1]; exact h1, by simpa [maxLen] using h2, by rw [q1]; omega, fun h => (by cases h), fun _ => ⟨g, o, rfl, hlt, q4⟩⟩, q3⟩
    · cases h
  · cases h
end
def okS (s : ByteArray) : Bool := Nat.ble s.data.toList.length 1000
theorem okS_sz {s : ByteArray} (h : okS s = true) : s.size ≤ maxLen := by
  have := Nat.le_of_ble_eq_true h
  have e : s.size = s.data.toList.length := by rw [Array.length_toList]; rfl
  rw [e]; exact Nat.le_trans this (by decide)
noncomputable def rdS : List AV → Option ByteArray
  | [.lit (.string x)] => match okS x with | true => some x | false => none
  | _ => none
noncomputable def rdA : List AV → Option AttrV
  | [.lit (.string x), .lit (.string y)] => match okS x && okS y with | true => some ⟨x, y⟩ | false => none
  | _ => none
noncomputable def rdT : List AV → Option TestV
  | [.lit (.string x), .lit (.bool b), .lit (.string y)] => match okS x && okS y with | true => some ⟨x, b, y⟩ | false => none
  | _ => none
noncomputable def rdN (M : Mem) : List AV → Option NodeW
  | [.lit (.int .i64 p), .lit (.string t), .lit (.string i), c, a, .lit (.string x)] => match okS t && (okS i && okS x), readRows M rdS 1 c, readRows M rdA 2 a with
    | true, some cs, some as_ => some ⟨p, t, i, cs, as_, x⟩
    | _, _, _ => none
  | _ => none
noncomputable def rdP (M : Mem) : List AV → Option PartV
  | [.lit (.int .i64 p), .lit (.string t), .lit (.string i), c, a, .lit (.int .i64 x)] => match (okS t && okS i) && Sy.leI x 1000, readRows M rdS 1 c, readRows M rdT 3 a with
    | true, some cs, some as_ => some ⟨p, t, i, cs, as_, x⟩
    | _, _, _ => none
  | _ => none
theorem rdS_ok {ρ : Rho} : ∀ (cs : List AV) (x : ByteArray) (us : List Value), rdS cs = some x → rels ρ cs us → ∃ r : ByteArray, r = x ∧ us = strCells r ∧ r.size ≤ maxLen := by
  intro cs x us h hr
  unfold rdS at h
  split at h
  · split at h
    · rename_i ho
      simp at h; subst h
      simp only [rels, rel] at hr
      obtain ⟨u, us', rfl, rfl, rfl⟩ := hr
      exact ⟨_, rfl, rfl, okS_sz ho⟩
    · cases h
  · cases h
theorem rdA_ok {ρ : Rho} : ∀ (cs : List AV) (x : AttrV) (us : List Value), rdA cs = some x → rels ρ cs us → ∃ r : AttrV, r = x ∧ us = AttrV.cells r ∧ (r.name.size ≤ maxLen ∧ r.value.size ≤ maxLen) := by
  intro cs x us h hr
  unfold rdA at h
  split at h
  · split at h
    · rename_i ho
      rw [Bool.and_eq_true] at ho
      simp at h; subst h
      simp only [rels, rel] at hr
      obtain ⟨u, us', rfl, rfl, v, vs, rfl, rfl, rfl⟩ := hr
      exact ⟨_, rfl, rfl, okS_sz ho.1, okS_sz ho.2⟩
    · cases h
  · cases h
theorem rdT_ok {ρ : Rho} : ∀ (cs : List AV) (x : TestV) (us : List Value), rdT cs = some x → rels ρ cs us → ∃ r : TestV, r = x ∧ us = TestV.cells r ∧ (r.name.size ≤ maxLen ∧ r.value.size ≤ maxLen) := by
  intro cs x us h hr
  unfold rdT at h
  split at h
  · split at h
    · rename_i ho
      rw [Bool.and_eq_true] at ho
      simp at h; subst h
      simp only [rels, rel] at hr
      obtain ⟨u, us', rfl, rfl, v, vs, rfl, rfl, y, ys, rfl, rfl, rfl⟩ := hr
      exact ⟨_, rfl, rfl, okS_sz ho.1, okS_sz ho.2⟩
    · cases h
  · cases h
theorem rdN_ok {w0 : Base} {ρ : Rho} {M : Mem} {w : World} (hW : WR w0 ρ M w) : ∀ (cs : List AV) (x : NodeW) (us : List Value), rdN M cs = some x → rels ρ cs us → ∃ r : NRow, NRow.n r = x ∧ us = NRow.cells r ∧ NRowIn w r := by
  intro cs x us h hr
  unfold rdN at h
  split at h
  · split at h
    · rename_i ho hc ha
      simp only [Bool.and_eq_true] at ho
      simp at h; subst h
      simp only [rels] at hr
      obtain ⟨u0, us', rfl, r0, u1, us', rfl, r1, u2, us', rfl, r2, u3, us', rfl, r3, u4, us', rfl, r4, u5, us', rfl, r5, rfl⟩ := hr
      simp only [rel] at r0 r1 r2 r5
      subst r0 r1 r2 r5
      obtain ⟨a3, c3, l3, rfl, m3, R3, Q3⟩ := readRows_sound (cells := strCells) (f := fun r => r) (Pr := fun r => r.size ≤ maxLen) hW r3 rdS_ok hc
      obtain ⟨a4, c4, l4, rfl, m4, R4, Q4⟩ := readRows_sound (cells := AttrV.cells) (f := fun r => r) (Pr := fun r => r.name.size ≤ maxLen ∧ r.value.size ≤ maxLen) hW r4 rdA_ok ha
      rw [List.map_id'] at m3 m4
      subst m3 m4
      exact ⟨⟨⟨_, _, _, _, _, _⟩, a3, c3, a4, c4⟩, rfl, rfl, R3, R4, okS_sz ho.1, okS_sz ho.2.1, okS_sz ho.2.2, ⟨R3.sm, Q3⟩, ⟨R4.sm, Q4⟩⟩
    · cases h
  · cases h
theorem rdP_ok {w0 : Base} {ρ : Rho} {M : Mem} {w : World} (hW : WR w0 ρ M w) : ∀ (cs : List AV) (x : PartV) (us : List Value), rdP M cs = some x → rels ρ cs us → ∃ r : PRow, PRow.p r = x ∧ us = PRow.cells r ∧ RowIn w r := by
  intro cs x us h hr
  unfold rdP at h
  split at h
  · split at h
    · rename_i ho hc ha
      simp only [Bool.and_eq_true, Sy.leI_t] at ho
      simp at h; subst h
      simp only [rels] at hr
      obtain ⟨u0, us', rfl, r0, u1, us', rfl, r1, u2, us', rfl, r2, u3, us', rfl, r3, u4, us', rfl, r4, u5, us', rfl, r5, rfl⟩ := hr
      simp only [rel] at r0 r1 r2 r5
      subst r0 r1 r2 r5
      obtain ⟨a3, c3, l3, rfl, m3, R3, Q3⟩ := readRows_sound (cells := strCells) (f := fun r => r) (Pr := fun r => r.size ≤ maxLen) hW r3 rdS_ok hc
      obtain ⟨a4, c4, l4, rfl, m4, R4, Q4⟩ := readRows_sound (cells := TestV.cells) (f := fun r => r) (Pr := fun r => r.name.size ≤ maxLen ∧ r.value.size ≤ maxLen) hW r4 rdT_ok ha
      rw [List.map_id'] at m3 m4
      subst m3 m4
      exact ⟨⟨⟨_, _, _, _, _, _⟩, a3, c3, a4, c4⟩, rfl, rfl, R3, R4, okS_sz ho.1.1, okS_sz ho.1.2, Q3, Q4, by have := ho.2; simp only; omega⟩
    · cases h
  · cases h
/-- match's picks, at lists in memory -/
noncomputable def picksT : CallF := fun f args M => match Nat.beq f 13 with
  | true => match args with
    | [d, .lit (.int .i64 i), l] => match readRows M (rdN M) 6 d, readRows M (rdP M) 6 l with
      | some ns, some ps => some (.lit (.bool (picksI ns ps.reverse i)), M)
      | _, _ => none
    | _ => none
  | false => none
theorem picksT_ok : CallOk Try.prog picksT := fun f args M v M' h w0 ρ us w hr hW => by
  unfold picksT at h
  split at h
  · rename_i hf
    have hf := Nat.eq_of_beq_eq_true hf
    subst hf
    split at h
    · rename_i d i l
      split at h
      · rename_i ns ps hn hp
        simp at h
        obtain ⟨rfl, rfl⟩ := h
        simp only [rels] at hr
        obtain ⟨u0, us', rfl, r0, u1, us', rfl, r1, u2, us', rfl, r2, rfl⟩ := hr
        simp only [rel] at r1
        subst r1
        obtain ⟨a, cap, rs, rfl, hm, hR, hQ⟩ := readRows_sound (cells := NRow.cells) (f := NRow.n) (Pr := NRowIn w) hW r0 (rdN_ok hW) hn
        obtain ⟨pa, pcap, qs, rfl, hm2, hR2, hQ2⟩ := readRows_sound (cells := PRow.cells) (f := PRow.p) (Pr := RowIn w) hW r2 (rdP_ok hW) hp
        refine (mpicks qs.length qs rfl w a cap rs ⟨hR, hQ⟩ pa pcap hR2 hQ2 i).mono ?_
        rintro e w' ⟨rfl, hb⟩
        rw [hm, hm2]
        exact ⟨ρ, _, rfl, Ext.refl ρ, rfl, hW.more hb⟩
      · cases h
    · cases h
  · cases h
end Go.Proofs.Ytmlhipckgmbpfaa.Ev
