/-
  Layer 6: declarations' contracts as the walks want them.
-/
import Derived.Test.YtjljlcflmcjapaaDeclW2
namespace Go.Proofs.Ytjljlcflmcjapaa
open Go Go.RowKit Pl
set_option linter.unusedVariables false
set_option linter.unusedSimpArgs false
namespace Sy
/-- at the start, but only what lies below B is looked at -/
def rhoB (B : Nat) (w : World) : Rho := ⟨fun _ => none, fun _ => false, fun g o => if g < B then w.cell? ⟨g, o, none⟩ else none, fun g o => if g < B then w.cell? ⟨g, o, none⟩ else none, fun _ => false⟩
theorem WR.startB (B : Nat) (w : World) : WR w (rhoB B w) ⟨0, 0, []⟩ w :=
  ⟨Keep.refl _ _, fun _ _ h => by simp [rhoB] at h, fun _ h => by simp [rhoB] at h, fun b B _ _ h => by simp [Mem.get_def] at h, fun b B h => by simp [Mem.get_def] at h, fun b b' B B' g t t' h => by simp [Mem.get_def] at h,
    fun g o v h => by
      by_cases hg : g < B
      · simpa [rhoB, hg] using h
      · simp [rhoB, hg] at h,
    fun g o v _ _ h => h, fun b B g t h => by simp [Mem.get_def] at h⟩
theorem still_B {B : Nat} {w w' : World} {ρ' : Rho} {M' : Mem} (hB : B ≤ w.heap.size) (hW : WR w ρ' M' w') (hb : ρ'.base = (rhoB B w).base) (hm : ρ'.mine = (rhoB B w).mine) : ∀ g o x, ρ'.still g o = some x → w'.cell? ⟨g, o, none⟩ = some x ∧ (g < B ∨ w.heap.size ≤ g) := fun g o x hx => by
  refine ⟨hW.still g o x hx, ?_⟩
  rcases Nat.lt_or_ge g w.heap.size with hg | hg
  · have := hW.first g o x hg (by rw [hm]; rfl) hx
    rw [hb] at this
    left
    rcases Nat.lt_or_ge g B with h | h
    · exact h
    · simp only [rhoB] at this
      rw [if_neg (by omega)] at this
      cases this
  · exact .inr hg
theorem CallTo.backB {P : Program} {f : FuncId} {args : List AV} {v0 : AV} (h : CallTo P f args ⟨0, 0, []⟩ fun v _ => v = v0) {w : World} {B : Nat} (hB : B ≤ w.heap.size) {us : List Value} (hr : rels (rhoB B w) args us) :
    Calls P f us.toArray w fun e w' => ∃ u ρ', e = .returned u ∧ rel ρ' v0 u ∧ (∀ g o x, ρ'.still g o = some x → w'.cell? ⟨g, o, none⟩ = some x ∧ (g < B ∨ w.heap.size ≤ g)) ∧ Below w.heap.size w w' := by
  refine (h w (rhoB B w) us w hr (WR.startB B w)).mono ?_
  rintro e w' ⟨ρ', u, v, M', rfl, hE, hv, hW', rfl⟩
  refine ⟨u, ρ', rfl, hv, still_B hB hW' hE.base hE.mine, ?_⟩
  have := hW'.keep
  rw [hE.mine] at this
  exact Keep.below this
/-- a callee that is given a new block -/
theorem CallTo.backP {P : Program} {f : FuncId} {cs : List AV} {el : TypeId} {v0 : AV} (h : CallTo P f [.ptr 0 0] ⟨1, 0, [some ⟨cs, el, none⟩]⟩ fun v _ => v = v0) {w : World} {B : Nat} (hB : B ≤ w.heap.size) {us : Array Value}
    (hx : ∀ (i : Nat) (v : AV), cs[i]? = some v → ∃ u, us[i]? = some u ∧ rel (rhoB B w) v u) :
    Calls P f #[.pointer (some ⟨w.heap.size, 0, none⟩)] (w.alloc (.cells us el)) fun e w' => ∃ u ρ', e = .returned u ∧ rel ρ' v0 u ∧ (∀ g o x, ρ'.still g o = some x → w'.cell? ⟨g, o, none⟩ = some x ∧ (g < B ∨ w.heap.size ≤ g)) ∧ Below w.heap.size w w' := by
  have hW := (WR.startB B w).new el hx
  refine (h w _ [.pointer (some ⟨w.heap.size, 0, none⟩)] (w.alloc (.cells us el)) ?_ hW).mono ?_
  · simp only [rels, rel]
    exact ⟨_, _, rfl, ⟨w.heap.size, us.size, upd_same _ _ _, rfl⟩, rfl⟩
  · rintro e w' ⟨ρ', u, v, M', rfl, hE, hv, hW', rfl⟩
    refine ⟨u, ρ', rfl, hv, still_B hB hW' hE.base hE.mine, ?_⟩
    have := hW'.keep
    rw [hE.mine] at this
    exact Keep.below this
end Sy
theorem rel_kvB {W W0 : World} {B : Nat} {a : Option Addr} {cap : Nat} {xs : List TokV} (h : RToks W0 a cap xs) (hB : W0.heap.size ≤ B) (hb : Below W0.heap.size W0 W) : Sy.rel (Sy.rhoB B W) (Sy.kv xs) (.slice a xs.length cap) := by
  have h2 := h.grow hb
  simp only [Sy.kv, Sy.viewOf, Sy.rel]
  refine ⟨a, cap, rfl, h.le, h.max, h.nil, fun hn => ?_⟩
  obtain ⟨b, off, rfl, hb0, _⟩ := h.base (fun e => by rw [e] at hn; simp at hn)
  obtain ⟨b', off', e, _, hcell⟩ := h2.base (fun e => by rw [e] at hn; simp at hn)
  simp at e
  obtain ⟨rfl, rfl⟩ := e
  refine ⟨b, off, rfl, fun i j hi hj => ?_⟩
  have hg : xs.getD i tok0 = xs[i] := by rw [List.getD_eq_getElem?_getD, List.getElem?_eq_getElem hi]; rfl
  have hj' : j < (TokV.cells xs[i]).length := hj
  have hu : (TokV.cells xs[i])[j]? = some (TokV.cells xs[i])[j] := List.getElem?_eq_getElem hj'
  refine ⟨(TokV.cells xs[i])[j], ?_, ?_, Sy.tok_one _ _ (List.getElem_mem _)⟩
  · simp only [Sy.rhoB, if_pos (Nat.lt_of_lt_of_le hb0 hB)]
    exact hcell i hi j _ hu
  · rw [hg, List.getD_eq_getElem?_getD, hu]
    simp only [Option.getD_some]
/-- a declaration in a block -/
structure DRow where
  d : DeclV
  a : Option Addr
  cap : Nat
def DRow.cells (r : DRow) : List Value := [.string r.d.name, .slice r.a r.d.value.length r.cap, .bool r.d.imp]
theorem DRow.len (y : DRow) : y.cells.length = 3 := rfl
theorem DRow.one (y : DRow) : ∀ u ∈ y.cells, u.oneCell' = true := by
  intro u hu
  simp only [DRow.cells, List.mem_cons, List.not_mem_nil, or_false] at hu
  rcases hu with rfl | rfl | rfl <;> rfl
abbrev RDecls := Rows DRow.cells 3
/-- its value reads so, and lies in no block that is asked for -/
def DOk (w : World) (r : DRow) (no : Nat → Prop) : Prop := RToks w r.a r.cap r.d.value ∧ (r.d.value ≠ [] → ∃ b off, r.a = some ⟨b, off, none⟩ ∧ b < w.heap.size ∧ ¬ no b)
/-- what a reading of one piece gives back -/
def Given (w w' : World) (B : Nat) (e : Ending) (d : Option DeclV) : Prop := match d with
  | none => e = .returned (.tuple #[.agg #[.string ⟨#[]⟩, .slice none 0 0, .bool false], .bool false])
  | some d => ∃ a c, e = .returned (.tuple #[.agg #[.string d.name, .slice a d.value.length c, .bool d.imp], .bool true]) ∧ RToks w' a c d.value ∧ (d.value ≠ [] → ∃ b off, a = some ⟨b, off, none⟩ ∧ b < w'.heap.size ∧ (b < B ∨ w.heap.size ≤ b))
theorem given_of {w w' : World} {B : Nat} {ρ : Sy.Rho} {u : Value} {d : Option DeclV} (hr : Sy.rel ρ (Sy.declA d) u) (hst : ∀ g o x, ρ.still g o = some x → w'.cell? ⟨g, o, none⟩ = some x ∧ (g < B ∨ w.heap.size ≤ g)) (hl : ∀ x, d = some x → Sy.lim x.value) : Given w w' B (.returned u) d := by
  cases d with
  | none =>
    simp only [Sy.declA, Sy.rel, Sy.rels] at hr
    obtain ⟨l, rfl, x, l2, rfl, ⟨m, rfl, y, l3, rfl, rfl, z, l4, rfl, rfl, q, l5, rfl, rfl, rfl⟩, r, l6, rfl, rfl, rfl⟩ := hr
    rfl
  | some d =>
    simp only [Sy.declA, Sy.rel, Sy.rels] at hr
    obtain ⟨l, rfl, x, l2, rfl, ⟨m, rfl, y, l3, rfl, rfl, z, l4, rfl, hz, q, l5, rfl, rfl, rfl⟩, r, l6, rfl, rfl, rfl⟩ := hr
    obtain ⟨a, c, rfl, hR⟩ := Sy.rows_of (fun g o x h => (hst g o x h).1) hz (fun x => x.len) (by decide) (hl d rfl)
    refine ⟨a, c, rfl, hR, fun hne => ?_⟩
    obtain ⟨b, off, rfl, hb, _⟩ := hR.base hne
    refine ⟨b, off, rfl, hb, ?_⟩
    simp only [Sy.viewOf, Sy.rel] at hz
    obtain ⟨a', cap', e, _, _, _, h5⟩ := hz
    obtain ⟨g, o, h6, h7⟩ := h5 (List.length_pos_iff.2 hne)
    simp at e
    obtain ⟨e1, _⟩ := e
    rw [h6] at e1
    simp at e1
    obtain ⟨x, h8, _⟩ := h7 0 0 (List.length_pos_iff.2 hne) (by decide)
    rw [e1.1]
    exact (hst _ _ _ h8).2
theorem declT_lim {p : List TokV} (hp : limC p) : ∀ x, declT p = some x → Sy.lim x.value := fun x hx => by
  unfold declT declL at hx
  split at hx
  · cases hx
  · split at hx
    · cases hx
    · split at hx
      · cases hx
      · simp at hx
        subst hx
        have h1 := impT_len (trim ((trim p).drop (behind (trim p) + 1)))
        have h2 := trim_len ((trim p).drop (behind (trim p) + 1))
        have h3 := trim_len p
        rw [List.length_drop] at h2
        have h4 : p.length ≤ 100000 := hp
        show (valueT (trim p)).1.length ≤ _
        unfold valueT
        omega
theorem decl_r {w w0 : World} {a : Option Addr} {cap : Nat} {p : List TokV} (h : RToks w0 a cap p) (hp : limC p) (hb : Below w0.heap.size w0 w) :
    Calls Try.prog 60 #[.slice a p.length cap] w fun e w' => Given w w' w0.heap.size e (declT p) ∧ Below w.heap.size w w' := by
  refine ((Sy.declr_t p hp).backB (B := w0.heap.size) hb.size (us := [.slice a p.length cap]) ?_).mono ?_
  · simp only [Sy.rels]
    exact ⟨_, _, rfl, rel_kvB h (Nat.le_refl _) hb, rfl⟩
  · rintro e w' ⟨u, ρ', rfl, h1, h2, h3⟩
    exact ⟨given_of h1 h2 (declT_lim hp), h3⟩
theorem decl_p {w w0 : World} {a : Option Addr} {cap : Nat} {p : List TokV} (h : RToks w0 a cap p) (hp : limC p) (hb : Below w0.heap.size w0 w) :
    Calls Try.prog 58 #[.pointer (some ⟨w.heap.size, 0, none⟩)] (w.alloc (.cells #[.slice a p.length cap, .int .i64 0] 85)) fun e w' => Given w w' w0.heap.size e (declT p) ∧ Below w.heap.size w w' := by
  refine ((Sy.decl_t p hp).backP (B := w0.heap.size) hb.size (us := #[.slice a p.length cap, .int .i64 0]) ?_).mono ?_
  · intro i v hv
    match i, hv with
    | 0, hv => simp at hv; subst hv; exact ⟨_, rfl, rel_kvB h (Nat.le_refl _) hb⟩
    | 1, hv => simp at hv; subst hv; exact ⟨.int .i64 0, rfl, by simp only [Sy.rel]⟩
    | i + 2, hv => simp at hv
  · rintro e w' ⟨u, ρ', rfl, h1, h2, h3⟩
    exact ⟨given_of h1 h2 (declT_lim hp), h3⟩
end Go.Proofs.Ytjljlcflmcjapaa
