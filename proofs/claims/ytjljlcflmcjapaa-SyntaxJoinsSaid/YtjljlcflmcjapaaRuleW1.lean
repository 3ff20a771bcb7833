/-
  Layer 6: skip and rule as the walks want them.
-/
import Derived.Test.YtjljlcflmcjapaaRuleSy2
namespace Go.Proofs.Ytjljlcflmcjapaa
open Go Go.RowKit Pl
set_option linter.unusedVariables false
set_option linter.unusedSimpArgs false
/-- tokens that read so, in no block that is asked for -/
def TOk (w : World) (a : Option Addr) (cap : Nat) (l : List TokV) (no : Nat → Prop) : Prop := RToks w a cap l ∧ (l ≠ [] → ∃ b off, a = some ⟨b, off, none⟩ ∧ b < w.heap.size ∧ ¬ no b)
theorem TOk.grown {w w' : World} {a : Option Addr} {cap : Nat} {l : List TokV} {no no' : Nat → Prop} (h : TOk w a cap l no) (hs : w.heap.size ≤ w'.heap.size) (hb : ∀ b, b < w.heap.size → ¬ no b → w'.heap[b]? = w.heap[b]?) (hn : ∀ b, b < w.heap.size → ¬ no b → ¬ no' b) : TOk w' a cap l no' := by
  obtain ⟨h1, h2⟩ := h
  refine ⟨⟨h1.le, h1.max, h1.sm, h1.nil, fun hne => ?_⟩, fun hne => ?_⟩
  · obtain ⟨b, off, ha, hlt, hc⟩ := h1.base hne
    obtain ⟨b', off', ha', _, hno⟩ := h2 hne
    rw [ha] at ha'
    simp at ha'
    refine ⟨b, off, ha, Nat.lt_of_lt_of_le hlt hs, fun k hk j u hu => ?_⟩
    rw [World.cell?_of_block (w := w) (hb b hlt (by rw [ha'.1]; exact hno))]
    exact hc k hk j u hu
  · obtain ⟨b', off', ha', hlt, hno⟩ := h2 hne
    exact ⟨b', off', ha', Nat.lt_of_lt_of_le hlt hs, hn b' hlt hno⟩
namespace Sy
open Classical in
noncomputable def rhoN (g : Nat) (no : Nat → Prop) (w : World) : Rho :=
  ⟨fun b => if b = 0 then some (g, 2) else none, fun _ => false, fun x o => if x < w.heap.size ∧ ¬ no x then w.cell? ⟨x, o, none⟩ else none, fun x o => if x < w.heap.size ∧ ¬ no x then w.cell? ⟨x, o, none⟩ else none, fun x => decide (x = g)⟩
theorem WR.startN {g : Nat} {no : Nat → Prop} {w : World} {V : AV} {v : Value} {k : Int} {el : TypeId} (hng : no g) (hg : w.heap[g]? = some (.cells #[v, .int .i64 k] el (0, 0))) (hv : rel (rhoN g no w) V v) :
    WR w (rhoN g no w) ⟨1, 0, [some ⟨[V, int k], el, none⟩]⟩ w := by
  have get0 : ∀ b B, Mem.get ⟨1, 0, [some ⟨[V, int k], el, none⟩]⟩ b = some B → b = 0 ∧ B = ⟨[V, int k], el, none⟩ := fun b B h => by
    have hb : b = 0 := by have : b < 1 := Mem.get_lt h; omega
    subst hb
    have e : Mem.get ⟨1, 0, [some ⟨[V, int k], el, none⟩]⟩ 0 = some ⟨[V, int k], el, none⟩ := rfl
    rw [e] at h
    simp at h
    exact ⟨rfl, h.symm⟩
  refine ⟨Keep.refl _ _, fun b x h => ?_, fun b h => by simp [rhoN] at h, fun b B g' tot h1 h2 => ?_, fun b B h => ?_, fun b b' B B' g' t t' h1 h2 _ _ => ?_, fun x o u h => ?_, fun x o u hx hm h => h, fun b B x t h1 h2 o => ?_⟩
  · simp only [rhoN] at h
    split at h
    · show b < 1; omega
    · cases h
  · obtain ⟨rfl, rfl⟩ := get0 b B h1
    simp [rhoN] at h2
    obtain ⟨rfl, rfl⟩ := h2
    refine ⟨.inr (by simp [rhoN]), #[v, .int .i64 k], hg, rfl, fun i u hu => ?_, fun R hR => by cases hR⟩
    match i, hu with
    | 0, hu => simp at hu; subst hu; exact ⟨v, rfl, hv⟩
    | 1, hu => simp at hu; subst hu; exact ⟨.int .i64 k, rfl, by simp only [rel]⟩
    | i + 2, hu => simp at hu
  · obtain ⟨rfl, rfl⟩ := get0 b B h
    exact .inl ⟨g, 2, by simp [rhoN]⟩
  · obtain ⟨rfl, _⟩ := get0 b B h1
    obtain ⟨rfl, _⟩ := get0 b' B' h2
    rfl
  · simp only [rhoN] at h
    split at h
    · exact h
    · cases h
  · obtain ⟨rfl, rfl⟩ := get0 b B h1
    simp [rhoN] at h2
    obtain ⟨rfl, rfl⟩ := h2
    simp only [rhoN]
    rw [if_neg (fun h => h.2 hng)]
/-- a callee that is given a block that stood, and writes it -/
theorem CallTo.backN {P : Program} {f : FuncId} {g : Nat} {no : Nat → Prop} {w : World} {V : AV} {v : Value} {k : Int} {el : TypeId} {G : AV → Mem → Prop} (h : CallTo P f [.ptr 0 0] ⟨1, 0, [some ⟨[V, int k], el, none⟩]⟩ G) (hG0 : ∀ x M', G x M' → ∃ B, M'.get 0 = some B) (hng : no g) (hg : w.heap[g]? = some (.cells #[v, .int .i64 k] el (0, 0))) (hv : rel (rhoN g no w) V v) :
    Calls P f #[.pointer (some ⟨g, 0, none⟩)] w fun e w' => ∃ u ρ' x M', e = .returned u ∧ rel ρ' x u ∧ G x M' ∧ (∀ b o y, ρ'.still b o = some y → w'.cell? ⟨b, o, none⟩ = some y ∧ ¬ (b < w.heap.size ∧ no b)) ∧ w.grownBy w' (some g) ∧
      (∀ V' k', M'.get 0 = some ⟨[V', int k'], el, none⟩ → ∃ v', w'.heap[g]? = some (.cells #[v', .int .i64 k'] el (0, 0)) ∧ rel ρ' V' v') := by
  refine (h w (rhoN g no w) [.pointer (some ⟨g, 0, none⟩)] w ?_ (WR.startN hng hg hv)).mono ?_
  · simp only [rels, rel]
    exact ⟨_, _, rfl, ⟨g, 2, by simp [rhoN], rfl⟩, rfl⟩
  · rintro e w' ⟨ρ', u, x, M', rfl, hE, hx, hW', hG⟩
    have hk := hW'.keep
    refine ⟨u, ρ', x, M', rfl, hx, hG, fun b o y hy => ⟨hW'.still b o y hy, fun hb => ?_⟩, ⟨hk.os, hk.tape, hk.output, hk.size, fun b hb hne => hk.block b hb ?_⟩, fun V' k' hM => ?_⟩
    · by_cases hbg : b = g
      · subst hbg
        -- the block that was given is not read alone
        have h0 := hE.blk 0 (b, 2) (by simp [rhoN])
        rcases Nat.lt_or_ge b w.heap.size with h1 | h1
        · cases hM0 : M'.get 0 with
          | some B => have := hW'.apart 0 B b 2 hM0 h0 o; rw [this] at hy; cases hy
          | none => obtain ⟨B, hB⟩ := hG0 _ _ hG; rw [hB] at hM0; cases hM0
        · omega
      · have := hW'.first b o y hb.1 (by rw [hE.mine]; simp [rhoN, hbg]) hy
        rw [hE.base] at this
        simp only [rhoN] at this
        rw [if_neg (fun h => h.2 hb.2)] at this
        cases this
    · rw [hE.mine]
      simp only [rhoN]
      rw [decide_eq_false_iff_not]
      exact fun e => hne (by rw [e])
    · obtain ⟨_, cur, q3, q4, q5, _⟩ := hW'.blk 0 _ g 2 hM (hE.blk 0 (g, 2) (by simp [rhoN]))
      obtain ⟨v', r1, r2⟩ := q5 0 V' rfl
      obtain ⟨z, r3, r4⟩ := q5 1 (int k') rfl
      simp only [rel] at r4
      subst r4
      refine ⟨v', ?_, r2⟩
      rw [q3]
      congr 2
      apply Array.ext_getElem?
      intro i
      match i with
      | 0 => rw [r1]; rfl
      | 1 => rw [r3]; rfl
      | i + 2 => rw [Array.getElem?_eq_none (by omega), Array.getElem?_eq_none (by simp)]
end Sy
theorem rel_kvN {W : World} {g : Nat} {no : Nat → Prop} {a : Option Addr} {cap : Nat} {xs : List TokV} (h : TOk W a cap xs no) : Sy.rel (Sy.rhoN g no W) (Sy.kv xs) (.slice a xs.length cap) := by
  obtain ⟨h1, h2⟩ := h
  simp only [Sy.kv, Sy.viewOf, Sy.rel]
  refine ⟨a, cap, rfl, h1.le, h1.max, h1.nil, fun hn => ?_⟩
  have hne : xs ≠ [] := fun e => by rw [e] at hn; simp at hn
  obtain ⟨b, off, rfl, hb, hcell⟩ := h1.base hne
  obtain ⟨b', off', e, hlt, hno⟩ := h2 hne
  simp at e
  obtain ⟨rfl, rfl⟩ := e
  refine ⟨b, off, rfl, fun i j hi hj => ?_⟩
  have hg : xs.getD i tok0 = xs[i] := by rw [List.getD_eq_getElem?_getD, List.getElem?_eq_getElem hi]; rfl
  have hj' : j < (TokV.cells xs[i]).length := hj
  have hu : (TokV.cells xs[i])[j]? = some (TokV.cells xs[i])[j] := List.getElem?_eq_getElem hj'
  refine ⟨(TokV.cells xs[i])[j], ?_, ?_, Sy.tok_one _ _ (List.getElem_mem _)⟩
  · simp only [Sy.rhoN]
    rw [if_pos ⟨hb, hno⟩]
    exact hcell i hi j _ hu
  · rw [hg, List.getD_eq_getElem?_getD, hu]
    simp only [Option.getD_some]
/-- tokens that are given back -/
theorem tok_back {w w' : World} {ρ : Sy.Rho} {no : Nat → Prop} {L : List TokV} {u : Value} (hr : Sy.rel ρ (Sy.kv L) u) (hst : ∀ b o y, ρ.still b o = some y → w'.cell? ⟨b, o, none⟩ = some y ∧ ¬ (b < w.heap.size ∧ no b)) (hl : Sy.lim L) :
    ∃ a c, u = .slice a L.length c ∧ TOk w' a c L (fun b => b < w.heap.size ∧ no b) := by
  obtain ⟨a, c, rfl, hR⟩ := Sy.rows_of (fun g o x h => (hst g o x h).1) hr (fun x => x.len) (by decide) hl
  refine ⟨a, c, rfl, hR, fun hne => ?_⟩
  obtain ⟨b, off, rfl, hb, _⟩ := hR.base hne
  refine ⟨b, off, rfl, hb, ?_⟩
  simp only [Sy.viewOf, Sy.rel] at hr
  obtain ⟨a', cap', e, _, _, _, h5⟩ := hr
  obtain ⟨g, o, h6, h7⟩ := h5 (List.length_pos_iff.2 hne)
  simp at e
  obtain ⟨e1, _⟩ := e
  rw [h6] at e1
  simp at e1
  obtain ⟨x, h8, _⟩ := h7 0 0 (List.length_pos_iff.2 hne) (by decide)
  rw [e1.1]
  exact (hst _ _ _ h8).2
/-- the scanner's block -/
def Scans (w : World) (g : Nat) (l : List TokV) (k : Nat) (no : Nat → Prop) : Prop := ∃ a cap, w.heap[g]? = some (.cells #[.slice a l.length cap, .int .i64 k] 85 (0, 0)) ∧ TOk w a cap l no
theorem skip_w {w : World} {g : Nat} {l : List TokV} {k : Nat} {no : Nat → Prop} (h : Scans w g l k no) (hng : no g) (hk : k ≤ l.length) :
    Calls Try.prog 61 #[.pointer (some ⟨g, 0, none⟩)] w fun e w' => e = .returned (.bool (decide (skp l k < l.length))) ∧ w.grownBy w' (some g) ∧ Scans w' g l (skp l k) (fun b => b < w.heap.size ∧ no b) := by
  obtain ⟨a, cap, hg, ht⟩ := h
  refine ((Sy.skg_t l ht.1.sm k hk).backN (fun x M' hG => by obtain ⟨_, rfl⟩ := hG; exact ⟨_, rfl⟩) hng hg (rel_kvN ht)).mono ?_
  rintro e w' ⟨u, ρ', x, M', rfl, hx, ⟨rfl, rfl⟩, hst, hgr, hM⟩
  simp only [Sy.rel] at hx
  subst hx
  obtain ⟨v', h1, h2⟩ := hM _ _ rfl
  obtain ⟨a', c', rfl, h3⟩ := tok_back h2 hst ht.1.sm
  refine ⟨?_, hgr, a', c', h1, h3⟩
  rw [Sy.leI_eq]
  exact ret_bool (by rw [Bool.eq_iff_iff]; simp)
/-- a rule in a block -/
structure XRow where
  r : RawV
  ah : Option Addr
  ch : Nat
  ab : Option Addr
  cb : Nat
def XRow.cells (x : XRow) : List Value := [.string x.r.at_, .slice x.ah x.r.head.length x.ch, .slice x.ab x.r.body.length x.cb, .bool x.r.block]
theorem XRow.len (y : XRow) : y.cells.length = 4 := rfl
theorem XRow.one (y : XRow) : ∀ u ∈ y.cells, u.oneCell' = true := by
  intro u hu
  simp only [XRow.cells, List.mem_cons, List.not_mem_nil, or_false] at hu
  rcases hu with rfl | rfl | rfl | rfl <;> rfl
abbrev RRaws := Rows XRow.cells 4
def XOk (w : World) (x : XRow) (no : Nat → Prop) : Prop := TOk w x.ah x.ch x.r.head no ∧ TOk w x.ab x.cb x.r.body no
theorem rule_lims {l : List TokV} (hl : limC l) {k : Nat} (h : k < l.length) : Sy.lim (ruleT l k).1.head ∧ Sy.lim (ruleT l k).1.body := by
  have hlen : l.length ≤ 100000 := hl
  have hh : (headOf l k).length ≤ l.length := by
    unfold headOf
    refine Nat.le_trans (trim_len _) ?_
    rw [List.length_take, List.length_drop]; omega
  have hb : (bodyOf l (endAt l k)).length ≤ l.length := by
    unfold bodyOf
    rw [List.length_take, List.length_drop]; omega
  unfold ruleT Sy.lim
  split
  · exact ⟨by simp only; omega, by simp⟩
  · split
    · exact ⟨by simp only; omega, by simp⟩
    · exact ⟨by simp only; omega, by simp only; omega⟩
theorem rule_w {w : World} {g : Nat} {l : List TokV} {k : Nat} {no : Nat → Prop} (h : Scans w g l k no) (hng : no g) (hk : k < l.length) (hl : limC l) :
    Calls Try.prog 62 #[.pointer (some ⟨g, 0, none⟩)] w fun e w' => ∃ x : XRow, x.r = (ruleT l k).1 ∧ e = .returned (.agg #[.string x.r.at_, .slice x.ah x.r.head.length x.ch, .slice x.ab x.r.body.length x.cb, .bool x.r.block]) ∧ XOk w' x (fun b => b < w.heap.size ∧ no b) ∧ w.grownBy w' (some g) ∧ Scans w' g l (ruleT l k).2 (fun b => b < w.heap.size ∧ no b) := by
  obtain ⟨a, cap, hg, ht⟩ := h
  refine ((Sy.rule_t l hl k hk).backN (fun x M' hG => ⟨_, hG.2⟩) hng hg (rel_kvN ht)).mono ?_
  rintro e w' ⟨u, ρ', x, M', rfl, hx, ⟨hsub, hM0⟩, hst, hgr, hM⟩
  obtain ⟨v', h1, h2⟩ := hM _ _ hM0
  obtain ⟨a', c', rfl, h3⟩ := tok_back h2 hst ht.1.sm
  have hr := hsub ρ' u hx
  simp only [Sy.rawA, Sy.rel, Sy.rels] at hr
  obtain ⟨l1, rfl, y1, l2, rfl, rfl, y2, l3, rfl, hy2, y3, l4, rfl, hy3, y4, l5, rfl, rfl, rfl⟩ := hr
  obtain ⟨q1, q2⟩ := rule_lims hl hk
  obtain ⟨ah, ch, rfl, t1⟩ := tok_back hy2 hst q1
  obtain ⟨ab, cb, rfl, t2⟩ := tok_back hy3 hst q2
  exact ⟨⟨(ruleT l k).1, ah, ch, ab, cb⟩, rfl, rfl, ⟨t1, t2⟩, hgr, a', c', h1, h3⟩
end Go.Proofs.Ytjljlcflmcjapaa
