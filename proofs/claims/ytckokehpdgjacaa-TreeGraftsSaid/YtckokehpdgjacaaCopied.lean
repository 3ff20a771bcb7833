/-
  Contract of the program's copied: a node with classes and attributes of its own.
-/
import Derived.Test.YtckokehpdgjacaaClone
namespace Go.Proofs.Ytckokehpdgjacaa
open Go.RowKit Pl
set_option linter.unusedVariables false

theorem Rows.put {α : Type} {cells : α → List Value} {s : Nat} {w : World} {a : Option Addr} {cap : Nat} {xs : List α} (h : Rows cells s w a cap xs) (p : Addr) (v : Value) (hne : ∀ ad, a = some ad → ad.block ≠ p.block) : Rows cells s (w.setCell p v) a cap xs :=
  ⟨h.le, h.max, h.sm, h.nil, fun h0 => by
    obtain ⟨b, off, ha, hlt, hc⟩ := h.base h0
    have hn := hne _ ha
    exact ⟨b, off, ha, by simpa using hlt, fun k hk j u hu => (World.cell?_setCell_far w p ⟨b, off + k * s + j, none⟩ v (fun e => hn e.symm)).trans (hc k hk j u hu)⟩⟩

/-- a box of six cells reads -/
theorem box6 {w : World} {g : Nat} {c0 c1 c2 c3 c4 c5 : Value} {t : TypeId} (h : w.heap[g]? = some (.cells #[c0, c1, c2, c3, c4, c5] t (0, 0))) :
    (w.cell? ⟨g, 0, none⟩ = some c0 ∧ w.cell? ⟨g, 1, none⟩ = some c1 ∧ w.cell? ⟨g, 2, none⟩ = some c2 ∧ w.cell? ⟨g, 3, none⟩ = some c3 ∧ w.cell? ⟨g, 4, none⟩ = some c4 ∧ w.cell? ⟨g, 5, none⟩ = some c5) ∧
    w.frozen? ⟨g, 0, none⟩ = false ∧ w.frozen? ⟨g, 1, none⟩ = false ∧ w.frozen? ⟨g, 2, none⟩ = false ∧ w.frozen? ⟨g, 3, none⟩ = false ∧ w.frozen? ⟨g, 4, none⟩ = false ∧ w.frozen? ⟨g, 5, none⟩ = false :=
  ⟨by simp [World.cell?, h], block_free h 0, block_free h 1, block_free h 2, block_free h 3, block_free h 4, block_free h 5⟩

set_option maxHeartbeats 1000000 in
theorem copied_p {w : World} {ac aa : Option Addr} {cc ca : Nat} {cs : List ByteArray} {ats : List AttrV} (hc : RStrs w ac cc cs) (ha : RAttrs w aa ca ats) (h1 : cs.length ≤ 1024) (h2 : ats.length ≤ 1024) (p : Int) (t d x : ByteArray) :
    Calls Try.prog 74 #[.agg #[.int .i64 p, .string t, .string d, .slice ac cs.length cc, .slice aa ats.length ca, .string x]] w fun e w' => ∃ ac' cc' aa' ca',
      e = .returned (.agg #[.int .i64 p, .string t, .string d, .slice ac' cs.length cc', .slice aa' ats.length ca', .string x]) ∧ RStrs w' ac' cc' cs ∧ RAttrs w' aa' ca' ats ∧ (∀ ad, ac' = some ad → w.heap.size ≤ ad.block) ∧ (∀ ad, aa' = some ad → w.heap.size ≤ ad.block) ∧ Tagged w' ac' 9 ∧ Tagged w' aa' 92 ∧ Below w.heap.size w w' := by
  have HS := Lib.hid (fun W (h : Below w.heap.size w W) => clone_strs (hc.grow h) h1)
  have HA := Lib.hid (fun W (h : Below w.heap.size w W) => clone_attrs (ha.grow h) h2)
  clear hc ha h1 h2
  go_enter Try.func74, Try.ntmps74
  go_wp2_with fail
  have hA : ((w.alloc (.cells #[.int .i64 p, .string t, .string d, .slice ac cs.length cc, .slice aa ats.length ca, .string x] 54)).alloc (.cells #[.int .i64 0, .string ⟨#[]⟩, .string ⟨#[]⟩, .slice none 0 0, .slice none 0 0, .string ⟨#[]⟩] 54)).heap[w.heap.size]? = some (.cells #[.int .i64 p, .string t, .string d, .slice ac cs.length cc, .slice aa ats.length ca, .string x] 54 (0, 0)) :=
    ((balloc (Below.refl (w.alloc (.cells #[.int .i64 p, .string t, .string d, .slice ac cs.length cc, .slice aa ats.length ca, .string x] 54)).heap.size _) _).block w.heap.size (by simp)).trans (heap_alloc_new w _)
  have hB : ((w.alloc (.cells #[.int .i64 p, .string t, .string d, .slice ac cs.length cc, .slice aa ats.length ca, .string x] 54)).alloc (.cells #[.int .i64 0, .string ⟨#[]⟩, .string ⟨#[]⟩, .slice none 0 0, .slice none 0 0, .string ⟨#[]⟩] 54)).heap[w.heap.size + 1]? = some (.cells #[.int .i64 0, .string ⟨#[]⟩, .string ⟨#[]⟩, .slice none 0 0, .slice none 0 0, .string ⟨#[]⟩] 54 (0, 0)) := by
    have := heap_alloc_new (w.alloc (.cells #[.int .i64 p, .string t, .string d, .slice ac cs.length cc, .slice aa ats.length ca, .string x] 54)) (.cells #[.int .i64 0, .string ⟨#[]⟩, .string ⟨#[]⟩, .slice none 0 0, .slice none 0 0, .string ⟨#[]⟩] 54)
    simpa using this
  have hb0 : Below w.heap.size w ((w.alloc (.cells #[.int .i64 p, .string t, .string d, .slice ac cs.length cc, .slice aa ats.length ca, .string x] 54)).alloc (.cells #[.int .i64 0, .string ⟨#[]⟩, .string ⟨#[]⟩, .slice none 0 0, .slice none 0 0, .string ⟨#[]⟩] 54)) := balloc (balloc (Below.refl _ _) _) _
  generalize (w.alloc (.cells #[.int .i64 p, .string t, .string d, .slice ac cs.length cc, .slice aa ats.length ca, .string x] 54)).alloc (.cells #[.int .i64 0, .string ⟨#[]⟩, .string ⟨#[]⟩, .slice none 0 0, .slice none 0 0, .string ⟨#[]⟩] 54) = W at *
  have ltA := (Array.getElem?_eq_some_iff.1 hA).1
  have ltB := (Array.getElem?_eq_some_iff.1 hB).1
  have GA := Lib.hid hA; have GB := Lib.hid hB
  have kA := box6 hA
  obtain ⟨⟨k0, k1, k2, k3, k4, k5⟩, f0, f1, f2, f3, f4, f5⟩ := kA
  clear hA hB
  go_region_with (first
    | (go_at_call 89; refine (HS.out _ ?_).mono ?_; (exact hb0.drew); rintro e w1 ⟨a1, c1, rfl, hr1, hn1, ht1, h1⟩; have HT1 := Lib.hid ht1; clear ht1; have h01 : Below W.heap.size W w1 := (Below.refl W.heap.size W).drew.trans h1; have hb1 := bseq hb0 h01; obtain ⟨⟨l0, l1, l2, l3, l4, l5⟩, g0, g1, g2, g3, g4, g5⟩ := box6 ((h01.block _ ltA).trans GA.out); have HN1 := Lib.hid hn1; clear hn1; have HR1 := Lib.hid hr1; clear hr1)
    | (go_at_call 90; refine (HA.out _ hb1).mono ?_; rintro e w2 ⟨a2, c2, rfl, hr2, hn2, ht2, h2⟩; have HT2 := Lib.hid ht2; clear ht2; have h02 := bseq h01 h2; have hb2 := bseq hb1 h2; obtain ⟨⟨m0, m1, m2, m3, m4, m5⟩, n0, n1, n2, n3, n4, n5⟩ := box6 ((h02.block _ ltA).trans GA.out); obtain ⟨⟨r0, r1, r2, r3, r4, r5⟩, s0, s1, s2, s3, s4, s5⟩ := box6 ((h02.block _ ltB).trans GB.out); have HN2 := Lib.hid hn2; clear hn2; have HR2 := Lib.hid hr2; clear hr2))
  all_goals go_wp2
  all_goals
    refine bodyPost_ret (v := .agg #[.int .i64 p, .string t, .string d, .slice a1 cs.length c1, .slice a2 ats.length c2, .string x]) (by simp [results, Try.results74, go_sem, r0, r1, r2, r3, r4, r5]) rfl ?_
    have z1 : W.heap.size ≤ w1.heap.size := h01.size
    have ne1 : ∀ ad, a1 = some ad → W.heap.size ≤ ad.block := fun ad e => HN1.out ad e
    have ne2 : ∀ ad, a2 = some ad → W.heap.size ≤ ad.block := fun ad e => Nat.le_trans z1 (HN2.out ad e)
    refine ⟨a1, c1, a2, c2, rfl, ?_, ?_, (fun ad e => by have := ne1 ad e; omega), (fun ad e => by have := ne2 ad e; omega), ?_, ?_, ?_⟩
    · repeat (refine Rows.put ?_ _ _ (fun ad e => by have := ne1 ad e; simp only; omega))
      exact HR1.out.grow h2
    · repeat (refine Rows.put ?_ _ _ (fun ad e => by have := ne2 ad e; simp only; omega))
      exact HR2.out
    · repeat (refine Tagged.put ?_ _ _ _ (fun ad e => by have := ne1 ad e; omega))
      exact HT1.out.grow h2
    · repeat (refine Tagged.put ?_ _ _ _ (fun ad e => by have := ne2 ad e; omega))
      exact HT2.out
    · repeat (refine Below.setCell ?_ (by simp only; omega) _)
      exact hb2

set_option maxHeartbeats 1000000 in
theorem moved_p {w : World} {ac aa : Option Addr} {cc ca : Nat} {cs : List ByteArray} {ats : List AttrV} (hc : RStrs w ac cc cs) (ha : RAttrs w aa ca ats) (h1 : cs.length ≤ 1024) (h2 : ats.length ≤ 1024) (p : Int) (t d x : ByteArray)
    (fid : FuncId) (first captured : Array Value) (g : Int → Int)
    (hfid : ∀ (args : Array Value) (w' : World), (callFunc fid args).run Try.prog w' = .ok (.enter fid args) w')
    (Hf : ∀ (w' : World), Below w.heap.size w w' → Calls Try.prog fid (first ++ #[.int .i64 p] ++ captured) w' fun e w'' => e = .returned (.int .i64 (g p)) ∧ w' = w'') :
    Calls Try.prog 75 #[.agg #[.int .i64 p, .string t, .string d, .slice ac cs.length cc, .slice aa ats.length ca, .string x], .func (.func fid) first captured] w fun e w' => ∃ ac' cc' aa' ca',
      e = .returned (.agg #[.int .i64 (g p), .string t, .string d, .slice ac' cs.length cc', .slice aa' ats.length ca', .string x]) ∧ RStrs w' ac' cc' cs ∧ RAttrs w' aa' ca' ats ∧ Tagged w' ac' 9 ∧ Tagged w' aa' 92 ∧ Below w.heap.size w w' := by
  have HC := Lib.hid (fun W (h : Below w.heap.size w W) => copied_p (hc.grow h) (ha.grow h) h1 h2 p t d x)
  have HF := Lib.hid Hf
  clear hc ha h1 h2 Hf
  go_enter Try.func75, Try.ntmps75
  have hA : ((w.alloc (.cells #[.int .i64 p, .string t, .string d, .slice ac cs.length cc, .slice aa ats.length ca, .string x] 54)).alloc (.cells #[.int .i64 0, .string ⟨#[]⟩, .string ⟨#[]⟩, .slice none 0 0, .slice none 0 0, .string ⟨#[]⟩] 54)).heap[w.heap.size]? = some (.cells #[.int .i64 p, .string t, .string d, .slice ac cs.length cc, .slice aa ats.length ca, .string x] 54 (0, 0)) :=
    ((balloc (Below.refl (w.alloc (.cells #[.int .i64 p, .string t, .string d, .slice ac cs.length cc, .slice aa ats.length ca, .string x] 54)).heap.size _) _).block w.heap.size (by simp)).trans (heap_alloc_new w _)
  have hB : ((w.alloc (.cells #[.int .i64 p, .string t, .string d, .slice ac cs.length cc, .slice aa ats.length ca, .string x] 54)).alloc (.cells #[.int .i64 0, .string ⟨#[]⟩, .string ⟨#[]⟩, .slice none 0 0, .slice none 0 0, .string ⟨#[]⟩] 54)).heap[w.heap.size + 1]? = some (.cells #[.int .i64 0, .string ⟨#[]⟩, .string ⟨#[]⟩, .slice none 0 0, .slice none 0 0, .string ⟨#[]⟩] 54 (0, 0)) := by
    have := heap_alloc_new (w.alloc (.cells #[.int .i64 p, .string t, .string d, .slice ac cs.length cc, .slice aa ats.length ca, .string x] 54)) (.cells #[.int .i64 0, .string ⟨#[]⟩, .string ⟨#[]⟩, .slice none 0 0, .slice none 0 0, .string ⟨#[]⟩] 54)
    simpa using this
  have hb0 : Below w.heap.size w ((w.alloc (.cells #[.int .i64 p, .string t, .string d, .slice ac cs.length cc, .slice aa ats.length ca, .string x] 54)).alloc (.cells #[.int .i64 0, .string ⟨#[]⟩, .string ⟨#[]⟩, .slice none 0 0, .slice none 0 0, .string ⟨#[]⟩] 54)) := balloc (balloc (Below.refl _ _) _) _
  go_wp2_with (first
    | (go_at_call 74; generalize (w.alloc (.cells #[.int .i64 p, .string t, .string d, .slice ac cs.length cc, .slice aa ats.length ca, .string x] 54)).alloc (.cells #[.int .i64 0, .string ⟨#[]⟩, .string ⟨#[]⟩, .slice none 0 0, .slice none 0 0, .string ⟨#[]⟩] 54) = W at *; refine (HC.out _ hb0).mono ?_; rintro e w1 ⟨a1, c1, a2, c2, rfl, hr1, hr2, hn1, hn2, ht1, ht2, h1⟩; have HT1 := Lib.hid ht1; have HT2 := Lib.hid ht2; clear ht1 ht2; have hb1 := bseq hb0 h1; obtain ⟨⟨l0, l1, l2, l3, l4, l5⟩, g0, g1, g2, g3, g4, g5⟩ := box6 ((h1.block _ (Array.getElem?_eq_some_iff.1 hA).1).trans hA); obtain ⟨⟨r0, r1, r2, r3, r4, r5⟩, s0, s1, s2, s3, s4, s5⟩ := box6 ((h1.block _ (Array.getElem?_eq_some_iff.1 hB).1).trans hB); have ltA := (Array.getElem?_eq_some_iff.1 hA).1; have ltB := (Array.getElem?_eq_some_iff.1 hB).1; have HN1 := Lib.hid hn1; have HN2 := Lib.hid hn2; have HR1 := Lib.hid hr1; have HR2 := Lib.hid hr2; clear hn1 hn2 hr1 hr2 hA hB)
    | (refine (HF.out _ (by (repeat (refine Below.setCell ?_ (by simp only; omega) _)); exact hb1)).mono ?_; rintro e w' ⟨rfl, rfl⟩))
  refine bodyPost_ret (v := .agg #[.int .i64 (g p), .string t, .string d, .slice a1 cs.length c1, .slice a2 ats.length c2, .string x]) (by simp [results, Try.results75, go_sem, r0, r1, r2, r3, r4, r5]) rfl ?_
  have ne1 : ∀ ad, a1 = some ad → W.heap.size ≤ ad.block := fun ad e => HN1.out ad e
  have ne2 : ∀ ad, a2 = some ad → W.heap.size ≤ ad.block := fun ad e => HN2.out ad e
  refine ⟨a1, c1, a2, c2, rfl, ?_, ?_, ?_, ?_, ?_⟩
  · repeat (refine Rows.put ?_ _ _ (fun ad e => by have := ne1 ad e; simp only; omega))
    exact HR1.out
  · repeat (refine Rows.put ?_ _ _ (fun ad e => by have := ne2 ad e; simp only; omega))
    exact HR2.out
  · repeat (refine Tagged.put ?_ _ _ _ (fun ad e => by have := ne1 ad e; omega))
    exact HT1.out
  · repeat (refine Tagged.put ?_ _ _ _ (fun ad e => by have := ne2 ad e; omega))
    exact HT2.out
  · repeat (refine Below.setCell ?_ (by simp only; omega) _)
    exact hb1

end Go.Proofs.Ytckokehpdgjacaa
