/-
  Layer 6: the program's Rules, walked.
-/
import Derived.Test.YtjljlcflmcjapaaRuleW1
import Derived.IntWalk
import Derived.Deep.AppendLies
namespace Go.Proofs.Ytjljlcflmcjapaa
open Go Go.RowKit Pl
set_option linter.unusedVariables false
set_option linter.unusedSimpArgs false
/-- append of one element that a new block holds: where the list lies behind -/
theorem wpList_app1 {P : Program} {w : World} {ops : Array Oper} {rest : List Oper} {o : Oper} {a : Act} {Q : Exit → Act → World → Prop}
    (t e : TypeId) (size bytes : Nat) (z : Value) (hT : SliceT P t e size bytes z) (hgd : o.guard = none) (s x : Operand)
    (ho : o.op = .call { callee := .builtin .append, args := #[s, x], argTypes := #[t, t] })
    (base : Nat) (v : Value) (n : Nat) (xs : List Value) (hs : a.eval s = v) (hown : w.ownsRow base e size v n xs)
    (news : Array Value) (g0 : Nat) (hx : a.eval x = .slice (some ⟨g0, 0, none⟩) 1 1) (hgz : g0 = w.heap.size) (hl : news.size = size) (h1 : ∀ u ∈ news, u.oneCell' = true)
    (hbytes : (n + 1) * bytes ≤ 140737488355328) (hn : n + 1 ≤ 17592186044416) (hbase : base ≤ w.heap.size)
    (h : ∀ g cap w', w'.ownsRow base e size (.slice (some ⟨g, 0, none⟩) (n + 1) cap) (n + 1) (xs ++ news.toList) → Below base w w' → w.grownBy w' v.ownBlock → (v.ownBlock = some g ∨ w.heap.size ≤ g) → wpList P ops Q rest (a.put o.dst (.slice (some ⟨g, 0, none⟩) (n + 1) cap)) w') :
    wpList P ops Q (o :: rest) a (w.alloc (.cells news e)) := by
  subst hgz
  obtain ⟨i, hi, hz, hsz, hby⟩ := hT.info
  have hown' := hown.alloc (.cells news e)
  refine wpList_append_lies (w := w.alloc (.cells news e)) hgd s x t ho base e i z size bytes hT.under hi hz hsz hby hT.zs hT.pos v n xs hs hown' ⟨w.heap.size, 0, none⟩ 1 1 news.toList hx (by simpa using hl) ?_ (by simpa using h1) (by omega) (by simp only [maxLen]; omega) hbytes (by simp; omega) (w.heap.size + 1) (by simp) ?_
  · intro j u hu
    have : (⟨w.heap.size, 0, none⟩ : Addr).add j = ⟨w.heap.size, j, none⟩ := by unfold Addr.add; split <;> simp_all
    rw [this, World.cell?_alloc_new]
    simpa using hu
  · intro g cap w' ho' hg hat hlt
    refine h g cap w' ho' (((Below.refl _ _).alloc hbase _).trans (Below.of_grown hg hown' (by simp; omega))) ⟨hg.os, hg.tape, hg.output, Nat.le_trans (by simp) hg.size, fun k hk hne => ?_⟩ (hat.imp id fun e => by omega)
    rw [hg.block k (by simp; omega) hne, heap_alloc_old w _ hk]
theorem own_lt {w : World} {B : Nat} {e : TypeId} {s n : Nat} {v : Value} {xs : List Value} (h : w.ownsRow B e s v n xs) : ∀ b, v.ownBlock = some b → B ≤ b ∧ b < w.heap.size := fun b hb => by
  rcases h.2 with ⟨rfl, _⟩ | ⟨g, cap, cur, rfl, hB, hg, _⟩
  · cases hb
  · have e : some g = some b := hb
    simp at e; subst e
    exact ⟨hB, (Array.getElem?_eq_some_iff.1 hg).1⟩
theorem tRaws : SliceT Try.prog 52 76 4 72 (.agg #[.string ⟨#[]⟩, .slice none 0 0, .slice none 0 0, .bool false]) :=
  ⟨Try.underlying52, by obtain ⟨i0, hi, hz0, hz1, hz2⟩ := info_parts (show (Try.prog.info? 76).map (fun i => (i.zero, i.size, i.bytes)) = some (some (.agg #[.string ⟨#[]⟩, .slice none 0 0, .slice none 0 0, .bool false]), 4, 72) by kernel_rfl); exact ⟨i0, hi, hz0, hz1, hz2⟩, rfl, by decide⟩
def NOX (g : Nat) (v : Value) (b : Nat) : Prop := b = g ∨ v.ownBlock = some b
def Rawed (w : World) (g : Nat) (v : Value) (rs : List XRow) (qs : List RawV) : Prop := rs.map XRow.r = qs ∧ ∀ x ∈ rs, XOk w x (NOX g v)
theorem Rawed.nil (w : World) (g : Nat) (v : Value) : Rawed w g v [] [] := ⟨rfl, fun r h => absurd h (by simp)⟩
theorem XOk.grown {w w' : World} {x : XRow} {no no' : Nat → Prop} (h : XOk w x no) (hs : w.heap.size ≤ w'.heap.size) (hb : ∀ b, b < w.heap.size → ¬ no b → w'.heap[b]? = w.heap[b]?) (hn : ∀ b, b < w.heap.size → ¬ no b → ¬ no' b) : XOk w' x no' := ⟨h.1.grown hs hb hn, h.2.grown hs hb hn⟩
/-- the scanner's block has been written -/
theorem Rawed.wrote {w w' : World} {g : Nat} {v : Value} {rs : List XRow} {qs : List RawV} (h : Rawed w g v rs qs) (hg : w.grownBy w' (some g)) : Rawed w' g v rs qs :=
  ⟨h.1, fun x hx => (h.2 x hx).grown hg.size (fun b hlt hno => hg.block b hlt (fun e => hno (.inl (by simpa using e)))) (fun _ _ h => h)⟩
theorem Rawed.grow {w w' : World} {g : Nat} {v : Value} {rs : List XRow} {qs : List RawV} (h : Rawed w g v rs qs) (hb : Below w.heap.size w w') : Rawed w' g v rs qs :=
  ⟨h.1, fun x hx => (h.2 x hx).grown hb.size (fun b hlt _ => hb.block b hlt) (fun _ _ h => h)⟩
theorem Scans.grow {w w' : World} {g : Nat} {l : List TokV} {k : Nat} {no : Nat → Prop} (h : Scans w g l k no) (hb : Below w.heap.size w w') : Scans w' g l k no := by
  obtain ⟨a, c, h1, h2⟩ := h
  exact ⟨a, c, by rw [hb.block g (Array.getElem?_eq_some_iff.1 h1).1]; exact h1, h2.grown hb.size (fun b hlt _ => hb.block b hlt) (fun _ _ h => h)⟩
theorem Scans.app {w w' : World} {g g9 n cap : Nat} {v : Value} {l : List TokV} {k : Nat} (h : Scans w g l k (NOX g v)) (hv : v.ownBlock ≠ some g) (hg : w.grownBy w' v.ownBlock) (hat : v.ownBlock = some g9 ∨ w.heap.size ≤ g9) : Scans w' g l k (NOX g (.slice (some ⟨g9, 0, none⟩) n cap)) := by
  obtain ⟨a, c, h1, h2⟩ := h
  refine ⟨a, c, by rw [hg.block g (Array.getElem?_eq_some_iff.1 h1).1 (fun e => hv e.symm)]; exact h1, h2.grown hg.size (fun b hlt hno => hg.block b hlt (fun e => hno (.inr e.symm))) (fun b hlt hno e => ?_)⟩
  rcases e with e | e
  · exact hno (.inl e)
  · have e' : some g9 = some b := e
    simp at e'
    subst e'
    rcases hat with hat | hat
    · exact hno (.inr hat)
    · omega
theorem Rawed.app {w w' : World} {g g9 n cap : Nat} {v : Value} {rs : List XRow} {qs : List RawV} (h : Rawed w g v rs qs) (hg : w.grownBy w' v.ownBlock) (hat : v.ownBlock = some g9 ∨ w.heap.size ≤ g9) : Rawed w' g (.slice (some ⟨g9, 0, none⟩) n cap) rs qs :=
  ⟨h.1, fun x hx => (h.2 x hx).grown hg.size (fun b hlt hno => hg.block b hlt (fun e => hno (.inr e.symm))) (fun b hlt hno e => by
    rcases e with e | e
    · exact hno (.inl e)
    · have e' : some g9 = some b := e
      simp at e'
      subst e'
      rcases hat with hat | hat
      · exact hno (.inr hat)
      · omega)⟩
theorem Rawed.snoc {w : World} {g : Nat} {v : Value} {rs : List XRow} {qs : List RawV} (h : Rawed w g v rs qs) (x : XRow) (hx : XOk w x (NOX g v)) : Rawed w g v (rs ++ [x]) (qs ++ [x.r]) :=
  ⟨by rw [List.map_append, h.1]; rfl, fun y hy => by
    rcases List.mem_append.1 hy with hy | hy
    · exact h.2 y hy
    · simp at hy; subst hy; exact hx⟩
def ReadsX (w : World) (rs : List XRow) (qs : List RawV) : Prop := rs.map XRow.r = qs ∧ ∀ x ∈ rs, RToks w x.ah x.ch x.r.head ∧ RToks w x.ab x.cb x.r.body
theorem Rawed.reads {w : World} {g : Nat} {v : Value} {rs : List XRow} {qs : List RawV} (h : Rawed w g v rs qs) : ReadsX w rs qs := ⟨h.1, fun x hx => ⟨(h.2 x hx).1.1, (h.2 x hx).2.1⟩⟩
theorem ReadsX.grow {w w' : World} {rs : List XRow} {qs : List RawV} (h : ReadsX w rs qs) (hb : Below w.heap.size w w') : ReadsX w' rs qs := ⟨h.1, fun x hx => ⟨(h.2 x hx).1.grow hb, (h.2 x hx).2.grow hb⟩⟩
theorem Scans.drew {w : World} {g : Nat} {l : List TokV} {k : Nat} {no : Nat → Prop} (h : Scans w g l k no) : Scans w.drew g l k no := h.grow (Below.refl _ _).drew
theorem Rawed.drew {w : World} {g : Nat} {v : Value} {rs : List XRow} {qs : List RawV} (h : Rawed w g v rs qs) : Rawed w.drew g v rs qs := h.grow (Below.refl _ _).drew
/-- behind a call that wrote the scanner's block alone -/
theorem nox_weak {w : World} {B g : Nat} {v : Value} {e : TypeId} {s n : Nat} {xs : List Value} (hown : w.ownsRow B e s v n xs) (hg : g < w.heap.size) : ∀ b, ¬ (b < w.heap.size ∧ NOX g v b) → ¬ NOX g v b := fun b h h' => by
  refine h ⟨?_, h'⟩
  rcases h' with rfl | h'
  · exact hg
  · exact (own_lt hown b h').2
theorem own_wrote {w w' : World} {B g : Nat} {v : Value} {e : TypeId} {s n : Nat} {xs : List Value} (h : w.ownsRow B e s v n xs) (hB : g < B) (hg : w.grownBy w' (some g)) : w'.ownsRow B e s v n xs := by
  obtain ⟨h1, h2⟩ := h
  refine ⟨h1, ?_⟩
  rcases h2 with h2 | ⟨b, cap, cur, rfl, hb, hc, r⟩
  · exact .inl h2
  · exact .inr ⟨b, cap, cur, rfl, hb, by rw [hg.block b (Array.getElem?_eq_some_iff.1 hc).1 (fun e => by simp at e; omega)]; exact hc, r⟩
theorem Scans.cells {w : World} {g : Nat} {l : List TokV} {k : Nat} {no : Nat → Prop} (h : Scans w g l k no) (hk : k < l.length) : ∃ b off cap, w.cell? ⟨g, 0, none⟩ = some (.slice (some ⟨b, off, none⟩) l.length cap) ∧ w.cell? ⟨g, 1, none⟩ = some (.int .i64 k) ∧ w.cell? ⟨b, off + k * 3, none⟩ = some (.int .i64 (tokAt l k).kind) := by
  obtain ⟨a, c, h1, h2⟩ := h
  obtain ⟨b, off, rfl, hb, hc⟩ := h2.1.at (fun e => by rw [e] at hk; simp at hk)
  refine ⟨b, off, c, by simp [World.cell?, h1], by simp [World.cell?, h1], ?_⟩
  rw [tokAt_eq hk]
  exact (hc k hk).1
theorem Scans.pos {w : World} {g : Nat} {l : List TokV} {k : Nat} {no : Nat → Prop} (h : Scans w g l k no) : w.cell? ⟨g, 1, none⟩ = some (.int .i64 k) := by
  obtain ⟨a, c, h1, h2⟩ := h
  simp [World.cell?, h1]
theorem Scans.lt {w : World} {g : Nat} {l : List TokV} {k : Nat} {no : Nat → Prop} (h : Scans w g l k no) : g < w.heap.size := by
  obtain ⟨a, c, h1, h2⟩ := h
  exact (Array.getElem?_eq_some_iff.1 h1).1
theorem Scans.weak {w : World} {g : Nat} {l : List TokV} {k : Nat} {no no' : Nat → Prop} (h : Scans w g l k no) (hn : ∀ b, ¬ no b → ¬ no' b) : Scans w g l k no' := by
  obtain ⟨a, c, h1, h2⟩ := h
  exact ⟨a, c, h1, h2.grown (Nat.le_refl _) (fun _ _ _ => rfl) (fun b _ h => hn b h)⟩
theorem XOk.weak {w : World} {x : XRow} {no no' : Nat → Prop} (h : XOk w x no) (hn : ∀ b, ¬ no b → ¬ no' b) : XOk w x no' := h.grown (Nat.le_refl _) (fun _ _ _ => rfl) (fun b _ h => hn b h)
theorem own_drew {w : World} {B : Nat} {e : TypeId} {s n : Nat} {v : Value} {xs : List Value} (h : w.ownsRow B e s v n xs) : w.drew.ownsRow B e s v n xs := h
section
variable {wr w2 w3 w4 : World} {g k2 m s : Nat} {u : Value} {l : List TokV} {rs : List XRow} {qs : List RawV} {e : TypeId} {xs : List Value}
theorem nox_lt (hown : wr.ownsRow (g + 1) e s u m xs) (hgl : g < wr.heap.size) (b : Nat) (h : NOX g u b) : b < wr.heap.size := by
  rcases h with rfl | h
  · exact hgl
  · exact (own_lt hown b h).2
/-- behind both calls -/
theorem rules_same (hown : wr.ownsRow (g + 1) e s u m xs) (hgl : g < wr.heap.size) (hra : Rawed wr g u rs qs) (hg2 : wr.grownBy w2 (some g)) (hg3 : w2.drew.grownBy w3 (some g)) (hsc3 : Scans w3 g l k2 (fun b => b < w2.drew.heap.size ∧ (b < wr.heap.size ∧ NOX g u b))) (o : Obj) :
    Rawed (w3.alloc o) g u rs qs ∧ Scans (w3.alloc o) g l k2 (NOX g u) ∧ (w3.alloc o).ownsRow (g + 1) e s u m xs := by
  have hal : Below w3.heap.size w3 (w3.alloc o) := balloc (Below.refl _ _) _
  refine ⟨(((hra.wrote hg2).drew).wrote hg3).grow hal, (hsc3.weak fun b h h' => ?_).grow hal, own_grow (own_wrote (own_drew (own_wrote hown (Nat.lt_succ_self _) hg2)) (Nat.lt_succ_self _) hg3) hal⟩
  have := nox_lt hown hgl b h'
  exact h ⟨Nat.lt_of_lt_of_le this hg2.size, this, h'⟩
theorem rules_below {w : World} (hbl : Below w.heap.size w wr) (hg : g = w.heap.size) (hg2 : wr.grownBy w2 (some g)) (hg3 : w2.drew.grownBy w3 (some g)) (o : Obj) : Below w.heap.size w (w3.alloc o) := by
  subst hg
  have h2 : Below w.heap.size w w2 := hbl.grown hg2 hbl.size (fun b hb => by simp at hb; omega)
  have h3 : Below w.heap.size w w3 := h2.drew.grown hg3 h2.size (fun b hb => by simp at hb; omega)
  exact balloc h3 _
theorem rules_more {n cap g9 : Nat} {x : XRow} (hown : wr.ownsRow (g + 1) e s u m xs) (hgl : g < wr.heap.size) (hra : Rawed wr g u rs qs) (hg2 : wr.grownBy w2 (some g)) (hg3 : w2.drew.grownBy w3 (some g)) (hsc3 : Scans w3 g l k2 (fun b => b < w2.drew.heap.size ∧ (b < wr.heap.size ∧ NOX g u b)))
    (hx : XOk w3 x (fun b => b < w2.drew.heap.size ∧ (b < wr.heap.size ∧ NOX g u b))) (o : Obj) (hg4 : (w3.alloc o).grownBy w4 u.ownBlock) (hat : u.ownBlock = some g9 ∨ (w3.alloc o).heap.size ≤ g9) :
    Rawed w4 g (.slice (some ⟨g9, 0, none⟩) n cap) (rs ++ [x]) (qs ++ [x.r]) ∧ Scans w4 g l k2 (NOX g (.slice (some ⟨g9, 0, none⟩) n cap)) := by
  obtain ⟨h1, h2, _⟩ := rules_same hown hgl hra hg2 hg3 hsc3 o
  have hal : Below w3.heap.size w3 (w3.alloc o) := balloc (Below.refl _ _) _
  have hx' : XOk (w3.alloc o) x (NOX g u) := (hx.weak fun b h h' => by
    have := nox_lt hown hgl b h'
    exact h ⟨Nat.lt_of_lt_of_le this hg2.size, this, h'⟩).grown hal.size (fun b hb _ => hal.block b hb) (fun _ _ h => h)
  exact ⟨(h1.snoc x hx').app hg4 hat, h2.app (fun e => by have := own_lt hown g e; omega) hg4 hat⟩
end
theorem rule_w' {w : World} {g : Nat} {l : List TokV} {k : Nat} {no : Nat → Prop} (h : Scans w g l k no) (hng : no g) (hk : k < l.length) (hl : limC l) :
    Calls Try.prog 62 #[.pointer (some ⟨g, 0, none⟩)] w fun e w' => ∃ ah ch ab cb, e = .returned (.agg #[.string (ruleT l k).1.at_, .slice ah (ruleT l k).1.head.length ch, .slice ab (ruleT l k).1.body.length cb, .bool (ruleT l k).1.block]) ∧ XOk w' ⟨(ruleT l k).1, ah, ch, ab, cb⟩ (fun b => b < w.heap.size ∧ no b) ∧ w.grownBy w' (some g) ∧ Scans w' g l (ruleT l k).2 (fun b => b < w.heap.size ∧ no b) :=
  (rule_w h hng hk hl).mono fun e w' ⟨⟨r, ah, ch, ab, cb⟩, hr, he, h1, h2, h3⟩ => by
    simp only at hr
    subst hr
    exact ⟨ah, ch, ab, cb, he, h1, h2, h3⟩
theorem rules_unfold {l : List TokV} {k : Nat} (hk : k ≤ l.length) (h : skp l k < l.length) : rulesF l (l.length - k + 1) k = (if kept l (skp l k) = true then [(ruleT l (skp l k)).1] else []) ++ rulesF l (l.length - (ruleT l (skp l k)).2 + 1) (ruleT l (skp l k)).2 := by
  have h1 := skp_le l k hk
  have h2 := rule_gt h
  rw [rulesF_succ, if_pos h, rulesF_more l (l.length - k) (l.length - (ruleT l (skp l k)).2 + 1) _ (by omega) (by omega)]
  split <;> rfl
theorem rules_none {l : List TokV} {k : Nat} (h : ¬ skp l k < l.length) : rulesF l (l.length - k + 1) k = [] := by rw [rulesF_succ, if_neg h]
theorem one_raw (x : XRow) : ∀ u ∈ (#[.string x.r.at_, .slice x.ah x.r.head.length x.ch, .slice x.ab x.r.body.length x.cb, .bool x.r.block] : Array Value), u.oneCell' = true := fun u hu => XRow.one x u (by simpa [XRow.cells] using hu)
set_option maxRecDepth 4000 in
set_option maxHeartbeats 2000000 in
theorem rules_p {w : World} {a : Option Addr} {cap : Nat} {l : List TokV} (h : RToks w a cap l) (hl : limC l) :
    Calls Try.prog 34 #[.slice a l.length cap] w fun e w' => ∃ b c rs, e = .returned (.slice b rs.length c) ∧ RRaws w' b c rs ∧ ReadsX w' rs (rulesT l) ∧ Below w.heap.size w w' := by
  have hlen : l.length ≤ 100000 := hl
  have HL := Lib.hid hl
  have H0 : Hid (∀ o, Below w.heap.size w (w.alloc o)) := fun o => balloc (Below.refl _ _) o
  have HS0 : Hid (Scans (w.alloc (.cells #[.slice a l.length cap, .int .i64 0] 85)) w.heap.size l 0 (NOX w.heap.size (.slice none 0 0))) :=
    ⟨a, cap, heap_alloc_new w _, h.later _, fun hne => by
      obtain ⟨b, off, ha, hb, _⟩ := h.base hne
      exact ⟨b, off, ha, by simp; omega, fun e => by
        rcases e with e | e
        · omega
        · cases e⟩⟩
  clear h hl
  go_enter Try.func34, Try.ntmps34
  go_wp2_with fail
  go_loopw [4] (fun v wr => ∃ (k : Nat) (rs : List XRow) (qs : List RawV), k ≤ l.length ∧ rs.length ≤ k ∧ Scans wr w.heap.size l k (NOX w.heap.size v) ∧ wr.ownsRow (w.heap.size + 1) 76 4 v rs.length ((rs.map XRow.cells).flatten) ∧ Rawed wr w.heap.size v rs qs ∧ Hid (rulesT l = qs ++ rulesF l (l.length - k + 1) k) ∧ Below w.heap.size w wr) (fun _ wr => match wr.cell? ⟨w.heap.size, 1, none⟩ with | some (.int _ n) => l.length + 1 - n.toNat | _ => 0)
  case atStart => exact ⟨0, [], [], Nat.zero_le _, Nat.le_refl _, HS0.out, World.ownsRow_nil _ _ _ _, Rawed.nil _ _ _, rfl, H0.out _⟩
  case round =>
    obtain ⟨k, rs, qs, hk, hrs, hsc, hown, hra, hru, hbl⟩ := hrel
    have HRA := Lib.hid hra
    have hgl := hsc.lt
    have HP0 := Lib.hid hsc.pos
    have HSk := Lib.hid (skip_w hsc (.inl rfl) hk)
    have hsk := skp_le l k hk
    have HOwn := Lib.hid (fun (w' : World) (hg : wr.grownBy w' (some w.heap.size)) => own_wrote hown (Nat.lt_succ_self _) hg)
    clear hra hsc
    by_cases hlt : skp l k < l.length
    · have HU := Lib.hid (rules_unfold hk hlt)
      have hgt := rule_gt hlt
      have d1 : decide (skp l k < l.length) = true := by simpa using hlt
      have HKT : Hid (kept l (skp l k) = (isAt l (skp l k) || (ruleT l (skp l k)).1.block)) := rfl
      have HAT : Hid (((tokAt l (skp l k)).kind == 3) = isAt l (skp l k)) := by
        unfold isAt
        rw [Hid, Sy.eqI_eq]
      have HRW := Lib.hid (fun (W : World) (no : Nat → Prop) (hs : Scans W w.heap.size l (skp l k) no) (hn : no w.heap.size) => rule_w' hs hn hlt HL.out)
      rw [d1] at HSk
      clear d1
      generalize hR : (ruleT l (skp l k)).1 = R at *
      generalize hk2 : (ruleT l (skp l k)).2 = k2 at *
      clear hR hk2
      obtain ⟨s, hd, bd, blk⟩ := R
      generalize hK : (tokAt l (skp l k)).kind = K at *
      have HK := Lib.hid hK
      have b1 : (0 : Int) ≤ (skp l k : Int) := by omega
      have b2 : (skp l k : Int) < (l.length : Int) := by omega
      clear hK
      cases e3 : (K == 3) with
      | true =>
        cases blk with
        | true =>
          go_wp2_with (first
            | (go_at_call 61; refine HSk.out.mono ?_; rintro e w2 ⟨rfl, hg2, hsc2⟩; have HSC2 := Lib.hid hsc2; obtain ⟨bb, off, c2, q0, q1, q2⟩ := hsc2.cells hlt; rw [HK.out] at q2; have HG2 := Lib.hid hg2; clear hsc2 hg2 HSk))
          go_region
          go_wp2_with (first
            | (go_at_call 62; refine (HRW.out _ _ HSC2.out.drew ⟨hgl, .inl rfl⟩).mono ?_; rintro e w3 ⟨ah, ch, ab, cb, rfl, hxo, hg3, hsc3⟩; have HXO := Lib.hid hxo; have HG3 := Lib.hid hg3; have HSC3 := Lib.hid hsc3; clear hxo hg3 hsc3 q0 q1 q2; have hs3 : wr.heap.size ≤ w3.heap.size := Nat.le_trans HG2.out.size HG3.out.size; have HOW := Lib.hid (fun o => (rules_same hown hgl HRA.out HG2.out HG3.out HSC3.out o).2.2))
            | (at_builtin; refine wpList_app1 52 76 4 72 _ tRaws rfl _ _ rfl (w.heap.size + 1) _ _ _ rfl (HOW.out _) #[.string s, .slice ah hd.length ch, .slice ab bd.length cb, .bool true] (w3.heap.size + 1) rfl (by simp) rfl (one_raw ⟨⟨s, hd, bd, true⟩, ah, ch, ab, cb⟩) (by omega) (by omega) (by simp; omega) ?_; intro g9 c9 w4 hown4 hb4 hg4 hat4))
          go_roundw
          case rel =>
            obtain ⟨z1, z2⟩ := rules_more (n := rs.length + 1) (cap := c9) hown hgl HRA.out HG2.out HG3.out HSC3.out HXO.out _ hg4 hat4
            refine ⟨k2, rs ++ [⟨⟨s, hd, bd, true⟩, ah, ch, ab, cb⟩], qs ++ [⟨s, hd, bd, true⟩], hgt.2, by simp; omega, z2, ?_, z1, ?_, ?_⟩
            · simpa [XRow.cells] using hown4
            · rw [Hid, hru.out, HU.out, if_pos (by rw [HKT.out, ← HAT.out, e3]; rfl), List.append_assoc]
            · exact (rules_below hbl rfl HG2.out HG3.out _).trans (hb4.mono (by omega))
          case measure =>
            obtain ⟨z1, z2⟩ := rules_more (n := rs.length + 1) (cap := c9) hown hgl HRA.out HG2.out HG3.out HSC3.out HXO.out _ hg4 hat4
            rw [z2.pos, HP0.out]
            simp only [Int.toNat_natCast]
            omega
        | false =>
          go_wp2_with (first
            | (go_at_call 61; refine HSk.out.mono ?_; rintro e w2 ⟨rfl, hg2, hsc2⟩; have HSC2 := Lib.hid hsc2; obtain ⟨bb, off, c2, q0, q1, q2⟩ := hsc2.cells hlt; rw [HK.out] at q2; have HG2 := Lib.hid hg2; clear hsc2 hg2 HSk))
          go_region
          go_wp2_with (first
            | (go_at_call 62; refine (HRW.out _ _ HSC2.out.drew ⟨hgl, .inl rfl⟩).mono ?_; rintro e w3 ⟨ah, ch, ab, cb, rfl, hxo, hg3, hsc3⟩; have HXO := Lib.hid hxo; have HG3 := Lib.hid hg3; have HSC3 := Lib.hid hsc3; clear hxo hg3 hsc3 q0 q1 q2; have hs3 : wr.heap.size ≤ w3.heap.size := Nat.le_trans HG2.out.size HG3.out.size; have HOW := Lib.hid (fun o => (rules_same hown hgl HRA.out HG2.out HG3.out HSC3.out o).2.2))
            | (at_builtin; refine wpList_app1 52 76 4 72 _ tRaws rfl _ _ rfl (w.heap.size + 1) _ _ _ rfl (HOW.out _) #[.string s, .slice ah hd.length ch, .slice ab bd.length cb, .bool false] (w3.heap.size + 1) rfl (by simp) rfl (one_raw ⟨⟨s, hd, bd, false⟩, ah, ch, ab, cb⟩) (by omega) (by omega) (by simp; omega) ?_; intro g9 c9 w4 hown4 hb4 hg4 hat4))
          go_roundw
          case rel =>
            obtain ⟨z1, z2⟩ := rules_more (n := rs.length + 1) (cap := c9) hown hgl HRA.out HG2.out HG3.out HSC3.out HXO.out _ hg4 hat4
            refine ⟨k2, rs ++ [⟨⟨s, hd, bd, false⟩, ah, ch, ab, cb⟩], qs ++ [⟨s, hd, bd, false⟩], hgt.2, by simp; omega, z2, ?_, z1, ?_, ?_⟩
            · simpa [XRow.cells] using hown4
            · rw [Hid, hru.out, HU.out, if_pos (by rw [HKT.out, ← HAT.out, e3]; rfl), List.append_assoc]
            · exact (rules_below hbl rfl HG2.out HG3.out _).trans (hb4.mono (by omega))
          case measure =>
            obtain ⟨z1, z2⟩ := rules_more (n := rs.length + 1) (cap := c9) hown hgl HRA.out HG2.out HG3.out HSC3.out HXO.out _ hg4 hat4
            rw [z2.pos, HP0.out]
            simp only [Int.toNat_natCast]
            omega
      | false =>
        cases blk with
        | true =>
          go_wp2_with (first
            | (go_at_call 61; refine HSk.out.mono ?_; rintro e w2 ⟨rfl, hg2, hsc2⟩; have HSC2 := Lib.hid hsc2; obtain ⟨bb, off, c2, q0, q1, q2⟩ := hsc2.cells hlt; rw [HK.out] at q2; have HG2 := Lib.hid hg2; clear hsc2 hg2 HSk))
          go_region
          go_wp2_with (first
            | (go_at_call 62; refine (HRW.out _ _ HSC2.out.drew ⟨hgl, .inl rfl⟩).mono ?_; rintro e w3 ⟨ah, ch, ab, cb, rfl, hxo, hg3, hsc3⟩; have HXO := Lib.hid hxo; have HG3 := Lib.hid hg3; have HSC3 := Lib.hid hsc3; clear hxo hg3 hsc3 q0 q1 q2; have hs3 : wr.heap.size ≤ w3.heap.size := Nat.le_trans HG2.out.size HG3.out.size; have HOW := Lib.hid (fun o => (rules_same hown hgl HRA.out HG2.out HG3.out HSC3.out o).2.2))
            | (at_builtin; refine wpList_app1 52 76 4 72 _ tRaws rfl _ _ rfl (w.heap.size + 1) _ _ _ rfl (HOW.out _) #[.string s, .slice ah hd.length ch, .slice ab bd.length cb, .bool true] (w3.heap.size + 1) rfl (by simp) rfl (one_raw ⟨⟨s, hd, bd, true⟩, ah, ch, ab, cb⟩) (by omega) (by omega) (by simp; omega) ?_; intro g9 c9 w4 hown4 hb4 hg4 hat4))
          go_roundw
          case rel =>
            obtain ⟨z1, z2⟩ := rules_more (n := rs.length + 1) (cap := c9) hown hgl HRA.out HG2.out HG3.out HSC3.out HXO.out _ hg4 hat4
            refine ⟨k2, rs ++ [⟨⟨s, hd, bd, true⟩, ah, ch, ab, cb⟩], qs ++ [⟨s, hd, bd, true⟩], hgt.2, by simp; omega, z2, ?_, z1, ?_, ?_⟩
            · simpa [XRow.cells] using hown4
            · rw [Hid, hru.out, HU.out, if_pos (by rw [HKT.out, ← HAT.out, e3]; rfl), List.append_assoc]
            · exact (rules_below hbl rfl HG2.out HG3.out _).trans (hb4.mono (by omega))
          case measure =>
            obtain ⟨z1, z2⟩ := rules_more (n := rs.length + 1) (cap := c9) hown hgl HRA.out HG2.out HG3.out HSC3.out HXO.out _ hg4 hat4
            rw [z2.pos, HP0.out]
            simp only [Int.toNat_natCast]
            omega
        | false =>
          go_wp2_with (first
            | (go_at_call 61; refine HSk.out.mono ?_; rintro e w2 ⟨rfl, hg2, hsc2⟩; have HSC2 := Lib.hid hsc2; obtain ⟨bb, off, c2, q0, q1, q2⟩ := hsc2.cells hlt; rw [HK.out] at q2; have HG2 := Lib.hid hg2; clear hsc2 hg2 HSk))
          go_region
          go_wp2_with (first
            | (go_at_call 62; refine (HRW.out _ _ HSC2.out.drew ⟨hgl, .inl rfl⟩).mono ?_; rintro e w3 ⟨ah, ch, ab, cb, rfl, hxo, hg3, hsc3⟩; have HXO := Lib.hid hxo; have HG3 := Lib.hid hg3; have HSC3 := Lib.hid hsc3; clear hxo hg3 hsc3 q0 q1 q2; have hs3 : wr.heap.size ≤ w3.heap.size := Nat.le_trans HG2.out.size HG3.out.size) )
          go_roundw
          case rel =>
            have z : ∀ o, Rawed (w3.alloc o) w.heap.size u4 rs qs ∧ Scans (w3.alloc o) w.heap.size l k2 (NOX w.heap.size u4) ∧ (w3.alloc o).ownsRow (w.heap.size + 1) 76 4 u4 rs.length ((rs.map XRow.cells).flatten) := fun o => rules_same hown hgl HRA.out HG2.out HG3.out HSC3.out o
            have hq : Hid (rulesT l = qs ++ rulesF l (l.length - k2 + 1) k2) := by
              rw [Hid, hru.out, HU.out, if_neg (by rw [HKT.out, ← HAT.out, e3]; simp), List.nil_append]
            exact ⟨k2, rs, qs, hgt.2, by omega, (z _).2.1, (z _).2.2, (z _).1, hq, rules_below hbl rfl HG2.out HG3.out _⟩
          case measure =>
            rw [(rules_same hown hgl HRA.out HG2.out HG3.out HSC3.out _).2.1.pos, HP0.out]
            simp only [Int.toNat_natCast]
            omega
    · have hse : skp l k = l.length := by omega
      have HU := Lib.hid (rules_none hlt)
      have d1 : decide (skp l k < l.length) = false := by simpa using hlt
      rw [d1] at HSk
      clear d1
      go_wp2_with (first
        | (go_at_call 61; refine HSk.out.mono ?_; rintro e w2 ⟨rfl, hg2, hsc2⟩; have HG2 := Lib.hid hg2; clear hsc2 hg2 HSk))
      obtain ⟨b9, c9, rfl, hr9⟩ := Rows.of_own (cells := XRow.cells) (xs := rs) (HOwn.out _ HG2.out) (fun k hk j u hu => flat_get XRow.cells 4 rs (fun _ _ => rfl) k hk j u hu) (by omega)
      have HR9 := Lib.hid hr9
      clear hr9
      go_ret
      refine ⟨b9, c9, rs, rfl, HR9.out, ?_, ?_⟩
      · rw [hru.out, HU.out, List.append_nil]
        exact (HRA.out.wrote HG2.out).reads
      · exact hbl.grown HG2.out hbl.size (fun b hb => by simp at hb; omega)
end Go.Proofs.Ytjljlcflmcjapaa
