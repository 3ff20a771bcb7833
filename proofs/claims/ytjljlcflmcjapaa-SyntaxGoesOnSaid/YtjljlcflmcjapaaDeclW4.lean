/-
  Layer 6: lists of declarations, walked.
-/
import Derived.Test.YtjljlcflmcjapaaDeclW3
namespace Go.Proofs.Ytjljlcflmcjapaa
open Go.RowKit Pl
set_option linter.unusedVariables false
set_option linter.unusedSimpArgs false
/-- append of one element that a new block holds: where the list lies behind -/
theorem wpList_app1 {P : Program} {w : World} {ops : Array Oper} {rest : List Oper} {o : Oper} {a : Act} {Q : Exit → Act → World → Prop}
    (t e : TypeId) (size bytes : Nat) (z : Value) (hT : SliceT P t e size bytes z) (hgd : o.guard = none) (s x : Operand)
    (ho : o.op = .call { callee := .builtin .append, args := #[s, x], argTypes := #[t, t] })
    (base : Nat) (v : Value) (n : Nat) (xs : List Value) (hs : a.eval s = v) (hown : w.ownsRow base e size v n xs)
    (news : Array Value) (g0 : Nat) (hx : a.eval x = .slice (some ⟨g0, 0, none⟩) 1 1) (hgz : g0 = w.heap.size) (hl : news.size = size) (h1 : ∀ u ∈ news, u.oneCell' = true)
    (hbytes : (n + 1) * bytes ≤ 140737488355328) (hn : n + 1 ≤ 17592186044416) (hbase : base ≤ w.heap.size)
    (h : ∀ g cap w', w'.ownsRow base e size (.slice (some ⟨g, 0, none⟩) (n + 1) cap) (n + 1) (xs ++ news.toList) → Below base w w' → w.grownBy w' v.ownBlock → (v.ownBlock = some g ∨ w.heap.size ≤ g) → wpList P ops Q rest (a.put o.dst (.slice (some ⟨g, 0, none⟩) (n + 1) cap)) w') :
    wpList P ops Q (o :: rest) a (w.alloc (.cells news e)) := by
  subst hgz
  obtain ⟨i, hi, hz, hsz, hby⟩ := hT.info
  have hown' := hown.alloc (.cells news e)
  refine wpList_append_lies (w := w.alloc (.cells news e)) hgd s x t ho base e i z size bytes hT.under hi hz hsz hby hT.zs hT.pos v n xs hs hown' ⟨w.heap.size, 0, none⟩ 1 1 news.toList hx (by simpa using hl) ?_ (by simpa using h1) (by omega) (by simp only [maxLen]; omega) hbytes (by simp; omega) (w.heap.size + 1) (by simp) ?_
  · intro j u hu
    have : (⟨w.heap.size, 0, none⟩ : Addr).add j = ⟨w.heap.size, j, none⟩ := by unfold Addr.add; split <;> simp_all
    rw [this, World.cell?_alloc_new]
    simpa using hu
  · intro g cap w' ho' hg hat hlt
    refine h g cap w' ho' (((Below.refl _ _).alloc hbase _).trans (Below.of_grown hg hown' (by simp; omega))) ⟨hg.os, hg.tape, hg.output, Nat.le_trans (by simp) hg.size, fun k hk hne => ?_⟩ (hat.imp id fun e => by omega)
    rw [hg.block k (by simp; omega) hne, heap_alloc_old w _ hk]
theorem tDecls : SliceT Try.prog 49 78 3 48 (.agg #[.string ⟨#[]⟩, .slice none 0 0, .bool false]) :=
  ⟨Try.underlying49, by obtain ⟨i0, hi, hz0, hz1, hz2⟩ := info_parts (show (Try.prog.info? 78).map (fun i => (i.zero, i.size, i.bytes)) = some (some (.agg #[.string ⟨#[]⟩, .slice none 0 0, .bool false]), 3, 48) by kernel_rfl); exact ⟨i0, hi, hz0, hz1, hz2⟩, rfl, by decide⟩
/-- rows whose values lie outside of the list's own block -/
def Decled (w : World) (v : Value) (rs : List DRow) (ds : List DeclV) : Prop := rs.map DRow.d = ds ∧ ∀ r ∈ rs, DOk w r fun b => v.ownBlock = some b
theorem Decled.nil (w : World) (v : Value) : Decled w v [] [] := ⟨rfl, fun r h => absurd h (by simp)⟩
theorem DOk.grown {w w' : World} {r : DRow} {no no' : Nat → Prop} (h : DOk w r no) (hs : w.heap.size ≤ w'.heap.size) (hb : ∀ b, b < w.heap.size → ¬ no b → w'.heap[b]? = w.heap[b]?) (hn : ∀ b, b < w.heap.size → ¬ no b → ¬ no' b) : DOk w' r no' := by
  obtain ⟨h1, h2⟩ := h
  refine ⟨⟨h1.le, h1.max, h1.sm, h1.nil, fun hne => ?_⟩, fun hne => ?_⟩
  · obtain ⟨b, off, ha, hlt, hc⟩ := h1.base hne
    obtain ⟨b', off', ha', _, hno⟩ := h2 hne
    rw [ha] at ha'
    simp at ha'
    refine ⟨b, off, ha, Nat.lt_of_lt_of_le hlt hs, fun k hk j u hu => ?_⟩
    rw [World.cell?_of_block (w := w) (hb b hlt (by rw [ha'.1]; exact hno))]
    exact hc k hk j u hu
  · obtain ⟨b', off', ha', hlt, hno⟩ := h2 hne
    exact ⟨b', off', ha', Nat.lt_of_lt_of_le hlt hs, hn b' hlt hno⟩
theorem Decled.grow {w w' : World} {v : Value} {rs : List DRow} {ds : List DeclV} (h : Decled w v rs ds) (hb : Below w.heap.size w w') : Decled w' v rs ds :=
  ⟨h.1, fun r hr => (h.2 r hr).grown hb.size (fun b hlt _ => hb.block b hlt) (fun _ _ h => h)⟩
theorem Decled.app {w w' : World} {v : Value} {g n cap : Nat} {rs : List DRow} {ds : List DeclV} (h : Decled w v rs ds) (hg : w.grownBy w' v.ownBlock) (hat : v.ownBlock = some g ∨ w.heap.size ≤ g) : Decled w' (.slice (some ⟨g, 0, none⟩) n cap) rs ds :=
  ⟨h.1, fun r hr => (h.2 r hr).grown hg.size (fun b hlt hno => hg.block b hlt (fun e => hno e.symm)) (fun b hlt hno e => by
    have e' : some g = some b := e
    simp at e'
    subst e'
    rcases hat with hat | hat
    · exact hno hat
    · omega)⟩
theorem Decled.snoc {w : World} {v : Value} {rs : List DRow} {ds : List DeclV} (h : Decled w v rs ds) (r : DRow) (hr : DOk w r fun b => v.ownBlock = some b) : Decled w v (rs ++ [r]) (ds ++ [r.d]) :=
  ⟨by rw [List.map_append, h.1]; rfl, fun x hx => by
    rcases List.mem_append.1 hx with hx | hx
    · exact h.2 x hx
    · simp at hx; subst hx; exact hr⟩
/-- they read as those declarations -/
def ReadsD (w : World) (rs : List DRow) (ds : List DeclV) : Prop := rs.map DRow.d = ds ∧ ∀ r ∈ rs, RToks w r.a r.cap r.d.value
theorem Decled.reads {w : World} {v : Value} {rs : List DRow} {ds : List DeclV} (h : Decled w v rs ds) : ReadsD w rs ds := ⟨h.1, fun r hr => (h.2 r hr).1⟩
theorem ReadsD.grow {w w' : World} {rs : List DRow} {ds : List DeclV} (h : ReadsD w rs ds) (hb : Below w.heap.size w w') : ReadsD w' rs ds := ⟨h.1, fun r hr => (h.2 r hr).grow hb⟩
theorem own_lt {w : World} {B : Nat} {e : TypeId} {s n : Nat} {v : Value} {xs : List Value} (h : w.ownsRow B e s v n xs) : ∀ b, v.ownBlock = some b → B ≤ b ∧ b < w.heap.size := fun b hb => by
  rcases h.2 with ⟨rfl, _⟩ | ⟨g, cap, cur, rfl, hB, hg, _⟩
  · cases hb
  · have e : some g = some b := hb
    simp at e; subst e
    exact ⟨hB, (Array.getElem?_eq_some_iff.1 hg).1⟩
theorem filterMap_at {α β : Type} (f : α → Option β) (l : List α) (k : Nat) (h : k < l.length) : (l.take (k + 1)).filterMap f = (l.take k).filterMap f ++ (match f l[k] with | some x => [x] | none => []) := by
  rw [List.take_succ_eq_append_getElem h, List.filterMap_append]
  cases hf : f l[k] <;> simp [hf]
theorem pieces_lim : ∀ (n : Nat) (l : List TokV), l.length ≤ n → limC l → ∀ p ∈ pieces semiB l, limC p := by
  intro n
  induction n with
  | zero =>
    intro l h hl p hp
    rw [pieces_step] at hp
    have := tops_le semiB l 0 (Nat.zero_le _)
    rw [if_pos (by omega)] at hp
    simp at hp
    subst hp
    unfold limC at *
    rw [List.length_take]; omega
  | succ n ih =>
    intro l h hl p hp
    rw [pieces_step] at hp
    have := tops_le semiB l 0 (Nat.zero_le _)
    rcases List.mem_cons.1 hp with rfl | hp
    · unfold limC at *; rw [List.length_take]; omega
    · split at hp
      · cases hp
      · exact ih _ (by rw [List.length_drop]; omega) (by unfold limC at *; rw [List.length_drop]; omega) p hp
/-- one more declaration -/
theorem Decled.more {wr w2 w4 : World} {v : Value} {g n m cap B : Nat} {rs : List DRow} {ds : List DeclV} {e : TypeId} {s : Nat} {xs : List Value} (h : Decled wr v rs ds) (hown : wr.ownsRow B e s v m xs) (h2 : Below wr.heap.size wr w2) (o : Obj) (d : DeclV) (a2 : Option Addr) (c2 : Nat) (hv : RToks w2 a2 c2 d.value)
    (hno : d.value ≠ [] → ∃ b off, a2 = some ⟨b, off, none⟩ ∧ b < w2.heap.size ∧ (b < B ∨ wr.heap.size ≤ b)) (hg : (w2.alloc o).grownBy w4 v.ownBlock) (hat : v.ownBlock = some g ∨ (w2.alloc o).heap.size ≤ g) :
    Decled w4 (.slice (some ⟨g, 0, none⟩) n cap) (rs ++ [⟨d, a2, c2⟩]) (ds ++ [d]) := by
  have hal : Below w2.heap.size w2 (w2.alloc o) := balloc (Below.refl _ _) _
  have h3 := ((h.grow h2).grow hal).snoc ⟨d, a2, c2⟩ ⟨hv.grow hal, fun hne => by
    obtain ⟨b, off, ha, hlt, hb⟩ := hno hne
    refine ⟨b, off, ha, Nat.lt_of_lt_of_le hlt hal.size, fun e => ?_⟩
    have := own_lt hown b e
    omega⟩
  exact h3.app hg hat
theorem one_decl (d : DeclV) (a2 : Option Addr) (c2 : Nat) : ∀ u ∈ (#[.string d.name, .slice a2 d.value.length c2, .bool d.imp] : Array Value), u.oneCell' = true := fun u hu => DRow.one ⟨d, a2, c2⟩ u (by simpa [DRow.cells] using hu)
set_option maxRecDepth 4000 in
set_option maxHeartbeats 4000000 in
theorem decls_r {w : World} {a : Option Addr} {cap : Nat} {l : List TokV} (h : RToks w a cap l) (hl : limC l) :
    Calls Try.prog 32 #[.slice a l.length cap] w fun e w' => ∃ b c rs, e = .returned (.slice b rs.length c) ∧ RDecls w' b c rs ∧ ReadsD w' rs (declsT l) ∧ Below w.heap.size w w' := by
  have HS := Lib.hid (split_r h hl)
  have HN := pieces_n semiB _ l (Nat.le_refl _)
  have hlen : l.length ≤ 100000 := hl
  have HPL := Lib.hid (show ∀ p ∈ pieces semiB l, limC p from pieces_lim _ l (Nat.le_refl _) hl)
  have HD := Lib.hid (show declsT l = (pieces semiB l).filterMap declT from rfl)
  generalize pieces semiB l = PS at *
  clear h hl
  go_enter Try.func32, Try.ntmps32
  go_wp2_with (go_at_call 59; refine HS.out.mono ?_; rintro e w1 ⟨b1, c1, rs1, rfl, hr1, hd1, h1⟩; have HR1 := Lib.hid hr1; have HD1 := Lib.hid hd1; clear hr1 hd1)
  have HN1 : Hid (rs1.length = PS.length) := HD1.out.len
  have hs1 : rs1.length ≤ 200000 := by have := HN1.out; omega
  go_loopw [3, 5] (fun v t wr => ∃ (k : Nat) (rs : List DRow), t = .int .i64 k ∧ k ≤ rs1.length ∧ rs.length ≤ k ∧ wr.ownsRow w1.heap.size 78 3 v rs.length ((rs.map DRow.cells).flatten) ∧ Decled wr v rs ((PS.take k).filterMap declT) ∧ Below w1.heap.size w1 wr) (fun _ t _ => rs1.length - (intOf t).toNat)
  case atStart => exact ⟨0, [], rfl, Nat.zero_le _, Nat.le_refl _, World.ownsRow_nil _ _ _ _, Decled.nil _ _, Below.refl _ _⟩
  case round =>
    obtain ⟨k, rs, rfl, hk, hrs, hown, hdc, hbl⟩ := hrel
    have HDC := Lib.hid hdc
    clear hdc
    by_cases hlt : k < rs1.length
    · have e1 : decide ((k : Int) < (rs1.length : Int)) = true := by simp; omega
      obtain ⟨b, off, rfl, hb, hc⟩ := HR1.out.base (fun e => by rw [e] at hlt; simp at hlt)
      have hck := hc k hlt 0 _ rfl
      have hbw := Nat.lt_of_lt_of_le hb hbl.size
      have hcw := (hbl.cell (p := ⟨b, off + k * 1 + 0, none⟩) hb).trans hck
      have HRow := Lib.hid (HD1.out.2 rs1[k] (List.getElem_mem _))
      have hpk : rs1[k].l = PS[k]'(by have := HN1.out; omega) := by
        have := HD1.out.1
        have h2 := congrArg (fun l => l[k]?) this
        simp only [List.getElem?_map, List.getElem?_eq_getElem hlt, List.getElem?_eq_getElem (show k < PS.length by have := HN1.out; omega), Option.map_some, Option.some.injEq] at h2
        exact h2
      have HPk := Lib.hid (HPL.out (PS[k]'(by have := HN1.out; omega)) (List.getElem_mem _))
      have HF := Lib.hid (filterMap_at declT PS k (by have := HN1.out; omega))
      rw [← hpk] at HF HPk
      clear hpk hck hc
      generalize rs1[k] = R at *
      have HDR := Lib.hid (fun (W : World) (hb' : Below w1.heap.size w1 W) => decl_r (w := W) HRow.out HPk.out hb')
      simp only [Nat.mul_one, Nat.add_zero] at hcw
      cases hdt : declT R.l with
      | none =>
        rw [hdt] at HDR HF
        clear hdt
        go_wp2_with (first
          | (go_at_call 60; refine (HDR.out _ hbl).mono ?_; rintro e w2 ⟨hg2, h2⟩; obtain rfl : e = _ := hg2))
        go_roundw
        case rel =>
          have hq : ∀ o, Decled (w2.alloc o) u3 rs ((PS.take (k + 1)).filterMap declT) := fun o => by
            rw [HF.out, List.append_nil]
            exact HDC.out.grow (balloc h2 _)
          exact ⟨k + 1, rs, rfl, by omega, by omega, own_grow hown (balloc h2 _), hq _, bseq hbl (balloc h2 _)⟩
        case measure => simp [intOf] <;> omega
      | some d =>
        rw [hdt] at HDR HF
        clear hdt
        go_wp2_with (first
          | (go_at_call 60; refine (HDR.out _ hbl).mono ?_; rintro e w2 ⟨⟨a2, c2, rfl, hv2, hno2⟩, h2⟩)
          | (at_builtin; refine wpList_app1 49 78 3 48 _ tDecls rfl _ _ rfl w1.heap.size _ _ _ rfl (own_grow (own_grow hown h2) (balloc (Below.refl _ _) _)) #[.string d.name, .slice a2 d.value.length c2, .bool d.imp] (w2.heap.size + 1) rfl (by simp) rfl (one_decl d a2 c2) (by omega) (by omega) (Nat.le_trans hbl.size (Nat.le_trans h2.size (by simp))) ?_; intro g9 c9 w4 hown4 hb4 hg4 hat4))
        go_roundw
        case rel =>
          refine ⟨k + 1, rs ++ [⟨d, a2, c2⟩], rfl, by omega, ?_, ?_, ?_, ?_⟩
          · simp; omega
          · simpa [DRow.cells] using hown4
          · rw [HF.out]
            exact HDC.out.more hown h2 _ d a2 c2 hv2 hno2 hg4 hat4
          · exact (bseq hbl (balloc h2 _)).trans hb4
        case measure => simp [intOf] <;> omega
    · obtain rfl : k = rs1.length := by omega
      have e1 : decide ((rs1.length : Int) < (rs1.length : Int)) = false := by simp
      obtain ⟨b9, c9, rfl, hr9⟩ := Rows.of_own (cells := DRow.cells) (xs := rs) hown (fun k hk j u hu => flat_get DRow.cells 3 rs (fun _ _ => rfl) k hk j u hu) (by omega)
      have HR9 := Lib.hid hr9
      have HE : Hid ((PS.take rs1.length).filterMap declT = declsT l) := by
        rw [Hid, HD.out, HN1.out, List.take_length]
      clear hown hr9
      go_wp2_with fail
      go_ret
      refine ⟨b9, c9, rs, rfl, HR9.out, ?_, bseq h1 hbl⟩
      rw [← HE.out]
      exact HDC.out.reads
end Go.Proofs.Ytjljlcflmcjapaa
