/-
  Do parts of a selector pick an element?
-/
import Derived.Test.YtmlhipckgmbpfaaGreatMtPart3
namespace Go.Proofs.YtmlhipckgmbpfaaGreat
open Go Go.RowKit Pl Sy
set_option linter.unusedVariables false
set_option linter.unusedSimpArgs false
attribute [local go_sem] Oper.semAt_some

theorem Doc.ok {W : World} {a : Option Addr} {cap : Nat} {rs : List NRow} (h : Doc W a cap rs) : DocOk (rs.map NRow.n) :=
  ⟨by have := h.rows.sm; simpa using this, fun n hn => by
    obtain ⟨r, hr, rfl⟩ := List.mem_map.1 hn
    exact (h.each r hr).2.2⟩
theorem rel_part {W : World} {q : PRow} (h : RowIn W q) : Sy.rel (Sy.rho0 W) (Sy.partG q.p) (.agg q.cells.toArray) := by
  obtain ⟨r1, r2, _⟩ := h
  refine ⟨_, rfl, _, _, rfl, rfl, _, _, rfl, rfl, _, _, rfl, rfl, _, _, rfl, ?_, _, _, rfl, ?_, _, _, rfl, rfl, rfl⟩
  · exact rel_rows (⟨#[]⟩ : ByteArray) r1 (fun _ => rfl) (fun y u hu => by simp [strCells] at hu; rw [hu]; rfl)
  · exact rel_rows testNone r2 (fun _ => rfl) (fun y u hu => by
      simp [TestV.cells] at hu
      rcases hu with rfl | rfl | rfl <;> rfl)
theorem mpart {W : World} {a : Option Addr} {cap : Nat} {rs : List NRow} (hD : Doc W a cap rs) (i : Int) {q : PRow} (hq : RowIn W q) :
    Calls Tryz.prog 93 #[.slice a rs.length cap, .int .i64 i, .agg #[.int .i64 q.p.comb, .string q.p.tag, .string q.p.id, .slice q.a q.p.cls.length q.cap, .slice q.b q.p.tests.length q.cbp, .int .i64 q.p.states]] W fun e w' => e = .returned (.bool (partB (rs.map NRow.n) i q.p)) ∧ Below W.heap.size W w' :=
  (((prt_t (rs.map NRow.n) i q.p hD.ok ⟨hq.1.sm, hq.2.1.sm⟩).mono (H := fun v _ => ∃ u, v = .lit u ∧ u = .bool (partB (rs.map NRow.n) i q.p)) fun v _ e => ⟨_, e, rfl⟩).calls (us := [.slice a rs.length cap, .int .i64 i, .agg q.cells.toArray])
    ⟨_, _, rfl, rel_nview hD, _, _, rfl, rfl, _, _, rfl, rel_part hq, rfl⟩).mono fun e w' ⟨⟨u, h1, h2⟩, h3⟩ => ⟨by rw [h1, h2], h3⟩

/-- do parts, the last one first, pick a node? -/
def picksI (ns : List NodeW) : List PartV → Int → Bool
  | [], _ => false
  | p :: r, i => partB ns i p && (r.isEmpty || (aroundV (parN ns) (elN ns) i.toNat p.comb).any (fun k => picksI ns r (k : Int)))
theorem Rows.take {α : Type} {cells : α → List Value} {s : Nat} {w : World} {a : Option Addr} {cap : Nat} {xs ys : List α} (h : Rows cells s w a cap (xs ++ ys)) : Rows cells s w a cap xs :=
  ⟨by have := h.le; simp at this; omega, h.max, by have := h.sm; simp at this; omega, h.nil, fun hne => by
    obtain ⟨b, off, ha, hlt, hc⟩ := h.base (by simp [hne])
    refine ⟨b, off, ha, hlt, fun k hk j u hu => hc k (by simp; omega) j u (by rw [List.getElem_append_left hk]; exact hu)⟩⟩
theorem RowIn.grow {W W' : World} {r : PRow} (h : RowIn W r) (hb : Below W.heap.size W W') : RowIn W' r := ⟨h.1.grow hb, h.2.1.grow hb, h.2.2⟩
theorem part_is {ns : List NodeW} {i : Int} {p : PartV} (h : partB ns i p = true) : 0 ≤ i ∧ i < ns.length := by
  unfold partB isN at h
  simp only [Bool.and_eq_true, Bool.not_eq_true', leI_t, leI_f] at h
  omega

/-- what a walk reads of the last part -/
theorem last_at {w : World} {pa : Option Addr} {pcap : Nat} {l : List PRow} {q : PRow} (hR : Rows PRow.cells 6 w pa pcap (l ++ [q])) : ∃ b off, pa = some ⟨b, off, none⟩ ∧ b < w.heap.size ∧
    w.cell? ⟨b, off + l.length * 6, none⟩ = some (.int .i64 q.p.comb) ∧ w.cell? ⟨b, off + l.length * 6 + 1, none⟩ = some (.string q.p.tag) ∧ w.cell? ⟨b, off + l.length * 6 + 2, none⟩ = some (.string q.p.id) ∧
    w.cell? ⟨b, off + l.length * 6 + 3, none⟩ = some (.slice q.a q.p.cls.length q.cap) ∧ w.cell? ⟨b, off + l.length * 6 + 4, none⟩ = some (.slice q.b q.p.tests.length q.cbp) ∧ w.cell? ⟨b, off + l.length * 6 + 5, none⟩ = some (.int .i64 q.p.states) := by
  obtain ⟨b, off, ha, hlt, hc⟩ := hR.base (by simp)
  have hk : l.length < (l ++ [q]).length := by simp
  have hg : (l ++ [q])[l.length] = q := by simp
  have h := hc l.length hk
  rw [hg] at h
  exact ⟨b, off, ha, hlt, by simpa using h 0 _ rfl, h 1 _ rfl, h 2 _ rfl, h 3 _ rfl, h 4 _ rfl, h 5 _ rfl⟩
/-- a struct is loaded, in a region that draws its order -/
theorem wpQuiet_load_agg {P : Program} {ops : Array Oper} {C : World → Prop} {Q : Act → Prop} {rest : List Oper} {o : Oper} {a : Act} (hw : Region.wanted o (yielded ops a.tmps) = true) {ty : TypeId} {x : Operand} (ho : o.op = .load ty x) {g off : Nat} (hx : a.eval x = .pointer (some ⟨g, off, none⟩))
    (us : List Value) (ha : aggT P ty = some true) (hs : szT P ty = some us.length) (hc : ∀ W, C W → ∀ j u, us[j]? = some u → W.cell? ⟨g, off + j, none⟩ = some u) (h : wpQuiet P ops C Q rest (a.put o.dst (.agg us.toArray))) : wpQuiet P ops C Q (o :: rest) a := by
  unfold wpQuiet
  rw [if_pos hw]
  refine ⟨.agg us.toArray, fun w hC => ?_, h⟩
  unfold Oper.quietAt execOp
  simp only [ho, hx, Instr.loadAt, Instr.sureAddr, Sem.run_bind, Sem.run_pure, Result.andThen_ok, run_loadVar_agg ha hs (hc w hC)]
  exact ⟨rfl, rfl⟩
/-- six cells -/
theorem six {W : World} {b o : Nat} {u0 u1 u2 u3 u4 u5 : Value} (e0 : W.cell? ⟨b, o, none⟩ = some u0) (e1 : W.cell? ⟨b, o + 1, none⟩ = some u1) (e2 : W.cell? ⟨b, o + 2, none⟩ = some u2) (e3 : W.cell? ⟨b, o + 3, none⟩ = some u3) (e4 : W.cell? ⟨b, o + 4, none⟩ = some u4) (e5 : W.cell? ⟨b, o + 5, none⟩ = some u5) :
    ∀ j u, [u0, u1, u2, u3, u4, u5][j]? = some u → W.cell? ⟨b, o + j, none⟩ = some u := by
  intro j u h
  match j with
  | 0 => simp at h; subst h; exact e0
  | 1 => simp at h; subst h; exact e1
  | 2 => simp at h; subst h; exact e2
  | 3 => simp at h; subst h; exact e3
  | 4 => simp at h; subst h; exact e4
  | 5 => simp at h; subst h; exact e5
  | j + 6 => simp at h
set_option maxRecDepth 100000 in
set_option maxHeartbeats 4000000 in
theorem mpicks : ∀ (n : Nat) (l : List PRow), l.length = n → ∀ (w : World) (a : Option Addr) (cap : Nat) (rs : List NRow) (hD : Doc w a cap rs) (pa : Option Addr) (pcap : Nat) (hR : Rows PRow.cells 6 w pa pcap l) (hQ : ∀ q ∈ l, RowIn w q) (i : Int),
    Calls Tryz.prog 68 #[.slice a rs.length cap, .int .i64 i, .slice pa l.length pcap] w fun e w' => e = .returned (.bool (picksI (rs.map NRow.n) (l.map PRow.p).reverse i)) ∧ Below w.heap.size w w' := by
  intro n
  induction n with
  | zero =>
    intro l hl w a cap rs hD pa pcap hR hQ i
    obtain rfl := List.eq_nil_of_length_eq_zero hl
    clear hD hR hQ
    go_enter Tryz.func68, Tryz.ntmps68
    go_wp2_with fail
    refine wp_region_ext (by kernel_rfl) (by kernel_rfl) ?_
    repeat (go_big_quiet_step (fail))
    refine wpQuiet_nil ?_
    rintro _ ⟨u, rfl⟩
    obtain ⟨q1, q2, q3, q4⟩ := boxes2 w (.slice a rs.length cap) (.bool false) 128 4
    have f1 : ((w.alloc (.cells #[.slice a rs.length cap] 128)).alloc (.cells #[.bool false] 4)).frozen? ⟨w.heap.size + 1, 0, none⟩ = false := by simp
    have h1 := wext_below ((w.alloc (.cells #[.slice a rs.length cap] 128)).alloc (.cells #[.bool false] 4)) u
    generalize hW : wext ((w.alloc (.cells #[.slice a rs.length cap] 128)).alloc (.cells #[.bool false] 4)) u = W at *
    generalize ((w.alloc (.cells #[.slice a rs.length cap] 128)).alloc (.cells #[.bool false] 4)) = W1 at *
    have c6 := (h1.cell (p := ⟨w.heap.size + 1, 0, none⟩) (by simp only; omega)).trans q2
    have f6 := (h1.frozen (p := ⟨w.heap.size + 1, 0, none⟩) (by simp only; omega)).trans f1
    have hB : Below w.heap.size w W := q3.trans (h1.mono q3.size)
    clear hW h1 q1 q2 f1
    go_wp2_with fail
    refine bodyPost_ret (results_cell1 rfl _ _ (w.heap.size + 1) (.bool false) rfl ?_ (by kernel_rfl)) rfl ⟨rfl, ?_⟩
    · exact World.cell?_setCell_same' _ _ _ (by rw [c6]; rfl)
    · exact hB.setCell (p := ⟨w.heap.size + 1, 0, none⟩) (by simp) _
  | succ n ih =>
    intro l hl w a cap rs hD pa pcap hR hQ i
    obtain ⟨init, q, rfl⟩ : ∃ init q, l = init ++ [q] := ⟨l.dropLast, l.getLast (by intro e; rw [e] at hl; simp at hl), (List.dropLast_concat_getLast _).symm⟩
    obtain rfl : n = init.length := by simp at hl; exact hl.symm
    clear hl
    have hlen : (init ++ [q]).length = init.length + 1 := by simp
    have hsm := hR.sm
    have hle := hR.le
    rw [hlen] at hsm hle ⊢
    have hpk : picksI (rs.map NRow.n) ((init ++ [q]).map PRow.p).reverse i = (partB (rs.map NRow.n) i q.p && ((init.map PRow.p).reverse.isEmpty || (aroundV (parN (rs.map NRow.n)) (elN (rs.map NRow.n)) i.toNat q.p.comb).any (fun k => picksI (rs.map NRow.n) (init.map PRow.p).reverse (k : Int)))) := by
      rw [List.map_append, List.reverse_append]; rfl
    rw [hpk]
    have HP := Lib.hid (fun W (h : Below w.heap.size w W) => mpart (hD.grow h) i ((hQ q (by simp)).grow h))
    have HPT := Lib.hid (fun (h : partB (rs.map NRow.n) i q.p = true) => part_is h)
    have HD := Lib.hid hD
    have HI := Lib.hid (fun W (h : Below w.heap.size w W) (k : Int) => ih init rfl W a cap rs (hD.grow h) pa pcap (hR.take.grow h) (fun r hr => (hQ r (by simp [hr])).grow h) k)
    obtain ⟨b, off, rfl, hb, d0, d1, d2, d3, d4, d5⟩ := last_at hR
    obtain ⟨E, hemp, hE⟩ : ∃ E : Bool, (init.map PRow.p).reverse.isEmpty = E ∧ Hid (E = decide (init.length = 0)) := ⟨_, rfl, by show _ = _; cases init <;> simp⟩
    rw [hemp]
    clear hD hR hQ ih hpk hemp
    generalize hG : (fun k : Nat => picksI (rs.map NRow.n) (init.map PRow.p).reverse (k : Int)) = G at *
    generalize hgP : partB (rs.map NRow.n) i q.p = P at *
    refine (callsIn_wide (n := 4)).1 ?_
    refine callsIn_of_wp_marks Tryz.func68 rfl trivial ?_ rfl
    refine wpIn_wide.2 ?_
    simp only [Tryz.ntmps68, List.size_toArray, List.length_cons, List.length_nil, Nat.reduceAdd, Nat.reduceSub, Array.replicate_succ, Array.replicate_zero, List.push_toArray, List.append_toArray, List.nil_append, List.cons_append]
    go_wp2_with fail
    obtain ⟨q1, q2, q3, q4⟩ := boxes2 w (.slice a rs.length cap) (.bool false) 128 4
    have f1 : ((w.alloc (.cells #[.slice a rs.length cap] 128)).alloc (.cells #[.bool false] 4)).frozen? ⟨w.heap.size + 1, 0, none⟩ = false := by simp
    generalize ((w.alloc (.cells #[.slice a rs.length cap] 128)).alloc (.cells #[.bool false] 4)) = W1 at *
    have z0 : b < W1.heap.size := Nat.lt_of_lt_of_le hb q3.size
    have z1 : w.heap.size < W1.heap.size := by omega
    have e0 := (q3.cell (p := ⟨b, off + init.length * 6, none⟩) hb).trans d0
    have e1 := (q3.cell (p := ⟨b, off + init.length * 6 + 1, none⟩) hb).trans d1
    have e2 := (q3.cell (p := ⟨b, off + init.length * 6 + 2, none⟩) hb).trans d2
    have e3 := (q3.cell (p := ⟨b, off + init.length * 6 + 3, none⟩) hb).trans d3
    have e4 := (q3.cell (p := ⟨b, off + init.length * 6 + 4, none⟩) hb).trans d4
    have e5 := (q3.cell (p := ⟨b, off + init.length * 6 + 5, none⟩) hb).trans d5
    have dz : (((init.length : Int) + 1) == 0) = false := by simp; omega
    have da : (0 : Int) ≤ (init.length : Int) := by omega
    have dw : IntKind.i64.wrap ((init.length : Int) + 1 - 1) = (init.length : Int) := by rw [show (init.length : Int) + 1 - 1 = init.length by omega]; exact IntWalk.i64_in _ (by omega)
    refine wp_region_ext (by kernel_rfl) (by kernel_rfl) ?_
    repeat (go_big_quiet_step ((go_at_call 93; exact ext_of (HP.out _ (q3.trans ((wext_below _ _).mono q3.size))))))
    refine wpQuiet_load_agg rfl rfl rfl _ (by kernel_rfl) (by kernel_rfl) (by rintro _ ⟨u, rfl⟩; have hx := wext_below W1 u; exact six ((hx.cell (p := ⟨b, _, none⟩) z0).trans e0) ((hx.cell (p := ⟨b, _, none⟩) z0).trans e1) ((hx.cell (p := ⟨b, _, none⟩) z0).trans e2) ((hx.cell (p := ⟨b, _, none⟩) z0).trans e3) ((hx.cell (p := ⟨b, _, none⟩) z0).trans e4) ((hx.cell (p := ⟨b, _, none⟩) z0).trans e5)) ?_
    go_simp
    repeat (go_big_quiet_step ((go_at_call 93; exact ext_of (HP.out _ (q3.trans ((wext_below _ _).mono q3.size))))))
    refine wpQuiet_nil ?_
    intro u
    have h1 := wext_below W1 u
    generalize wext W1 u = W at *
    have c3 := (h1.cell (p := ⟨w.heap.size, 0, none⟩) z1).trans q1
    have c6 := (h1.cell (p := ⟨w.heap.size + 1, 0, none⟩) (by simp only; omega)).trans q2
    have f6 := (h1.frozen (p := ⟨w.heap.size + 1, 0, none⟩) (by simp only; omega)).trans f1
    have g0 := (h1.cell (p := ⟨b, off + init.length * 6, none⟩) z0).trans e0
    have hB : Below w.heap.size w W := q3.trans (h1.mono q3.size)
    have zB : b < W.heap.size := Nat.lt_of_lt_of_le z0 h1.size
    have z6 : w.heap.size + 1 < W.heap.size := by have := h1.size; omega
    clear h1 q1 q2 f1 q3 q4 z0 z1 e0 e1 e2 e3 e4 e5 d0 d1 d2 d3 d4 d5 hb
    cases P with
    | false =>
      go_wp2_with fail
      refine ⟨.bool false, results_cell1 rfl _ _ (w.heap.size + 1) (.bool false) rfl ?_ (by kernel_rfl), rfl, ?_⟩
      · exact World.cell?_setCell_same' _ _ _ (by rw [c6]; rfl)
      · exact hB.setCell (p := ⟨w.heap.size + 1, 0, none⟩) (by simp) _
    | true =>
      have hP := HPT.out rfl
      generalize init.length = m at *
      have dm : (m : Int) ≤ (pcap : Int) := by omega
      by_cases hm0 : m = 0
      · subst hm0
        obtain rfl : E = true := hE.out
        clear HI
        go_wp2_with fail
        have hB1 := (hB.setCell (p := ⟨w.heap.size + 1, 0, none⟩) (by simp) (.bool true)).alloc (by simp only [World.size_setCell]; exact hB.size) (.cells #[.slice (some ⟨b, off, none⟩) 0 pcap] 43)
        refine ⟨.bool true, results_cell1 rfl _ _ (w.heap.size + 1) (.bool true) rfl ?_ (by kernel_rfl), rfl, hB1⟩
        rw [show ∀ (A : World) (o : Obj), w.heap.size + 1 < A.heap.size → (A.alloc o).cell? ⟨w.heap.size + 1, 0, none⟩ = A.cell? ⟨w.heap.size + 1, 0, none⟩ from fun A o h => ((Below.refl _ A).alloc (Nat.le_refl _) o).cell (p := ⟨w.heap.size + 1, 0, none⟩) h]
        · exact World.cell?_setCell_same' _ _ _ (by rw [c6]; rfl)
        · simpa using z6
      · have dm0 : ((m : Int) == 0) = false := by simpa using hm0
        obtain rfl : E = false := by rw [hE.out]; simpa using hm0
        have HA := Lib.hid (fun W (h : Below w.heap.size w W) => maround (HD.out.grow h) i.toNat (by have := hP; simp at this; omega) q.p.comb)
        rw [npar_N, nel_N, Int.toNat_of_nonneg hP.1] at HA
        generalize hks : aroundV (parN (rs.map NRow.n)) (elN (rs.map NRow.n)) i.toNat q.p.comb = ks at HA
        go_wp2_with fail
        have hB2 := hB.alloc hB.size (.cells #[.slice (some ⟨b, off, none⟩) m pcap] 43)
        have k3 : (W.alloc (.cells #[.slice (some ⟨b, off, none⟩) m pcap] 43)).cell? ⟨w.heap.size, 0, none⟩ = some (.slice a rs.length cap) := (((Below.refl _ W).alloc (Nat.le_refl _) _).cell (p := ⟨w.heap.size, 0, none⟩) (by simp only; omega)).trans c3
        have k6 : (W.alloc (.cells #[.slice (some ⟨b, off, none⟩) m pcap] 43)).cell? ⟨w.heap.size + 1, 0, none⟩ = some (.bool false) := (((Below.refl _ W).alloc (Nat.le_refl _) _).cell (p := ⟨w.heap.size + 1, 0, none⟩) z6).trans c6
        have kf : (W.alloc (.cells #[.slice (some ⟨b, off, none⟩) m pcap] 43)).frozen? ⟨w.heap.size + 1, 0, none⟩ = false := (((Below.refl _ W).alloc (Nat.le_refl _) _).frozen (p := ⟨w.heap.size + 1, 0, none⟩) z6).trans f6
        have kg : (W.alloc (.cells #[.slice (some ⟨b, off, none⟩) m pcap] 43)).cell? ⟨b, off + m * 6, none⟩ = some (.int .i64 q.p.comb) := (((Below.refl _ W).alloc (Nat.le_refl _) _).cell (p := ⟨b, off + m * 6, none⟩) zB).trans g0
        have k7 : (W.alloc (.cells #[.slice (some ⟨b, off, none⟩) m pcap] 43)).cell? ⟨W.heap.size, 0, none⟩ = some (.slice (some ⟨b, off, none⟩) m pcap) := by simp
        have z7 : (W.alloc (.cells #[.slice (some ⟨b, off, none⟩) m pcap] 43)).heap.size = W.heap.size + 1 := by simp
        generalize (W.alloc (.cells #[.slice (some ⟨b, off, none⟩) m pcap] 43)) = W2 at *
        have zB2 : b < W2.heap.size := by omega
        have z37 : w.heap.size < W2.heap.size := by omega
        have db : (m : Int) < (m : Int) + 1 := by omega
        have dw2 : IntKind.i64.wrap (m : Int) = m := IntWalk.i64_in _ (by omega)
        have db2 : (m : Int) < ((m + 1 : Nat) : Int) := by omega
        refine wp_region_noPanic ?_
        go_region_with (go_at_call 94; refine (HA.out _ (by first | exact hB2 | exact hB2.drew)).mono ?_; rintro e w5 ⟨g, lb, rfl, hb5, heg, hseq⟩)
        all_goals
          refine NoPanic.normal ?_
          have hb6 : Below W2.heap.size W2 w5 := ((Below.refl W2.heap.size W2).drew).trans (hb5.mono (Nat.le_refl _))
          have zs : W2.heap.size ≤ w5.heap.size := hb6.size
          have k3' := (hb6.cell (p := ⟨w.heap.size, 0, none⟩) z37).trans k3
          have k6' := (hb6.cell (p := ⟨w.heap.size + 1, 0, none⟩) (by simp only; omega)).trans k6
          have kf' := (hb6.frozen (p := ⟨w.heap.size + 1, 0, none⟩) (by simp only; omega)).trans kf
          have k7' := (hb6.cell (p := ⟨W.heap.size, 0, none⟩) (by simp only; omega)).trans k7
          have hB5 : Below w.heap.size w w5 := hB2.trans (hb6.mono hB2.size)
          clear hb5 hb6 kg k3 k6 kf k7
          go_wp2_with fail
          refine wpIn_wide.1 (wpIn_rangeFunc_O (n := 4) (by omega) (gf := g) (lb := lb) rfl heg hseq (Nat.le_refl _) (Below.refl _ _) rfl
            (fun pre W' => (∀ x ∈ pre, G x = false) ∧ (W'.cell? ⟨w.heap.size, 0, none⟩ = some (.slice a rs.length cap) ∧ W'.cell? ⟨W.heap.size, 0, none⟩ = some (.slice (some ⟨b, off, none⟩) m pcap) ∧ W'.cell? ⟨w.heap.size + 1, 0, none⟩ = some (.bool false) ∧ W'.frozen? ⟨w.heap.size + 1, 0, none⟩ = false) ∧ Below w.heap.size w W')
            (fun c pre W' => (c = .ret ∧ ∃ x ∈ pre, G x = true) ∧ W'.cell? ⟨w.heap.size + 1, 0, none⟩ = some (.bool true) ∧ Below w.heap.size w W')
            (fun s A C row hs hg hr => ⟨hs.1, ⟨cell_kept hs.2.1.1 hg (fun r e => (hr r e).2), cell_kept hs.2.1.2.1 hg (fun r e => (hr r e).2), cell_kept hs.2.1.2.2.1 hg (fun r e => (hr r e).2), (frozen_kept hs.2.1.2.2.1 hg (fun r e => (hr r e).2)).trans hs.2.1.2.2.2⟩, ownFrom_below (β := Unit) (Nat.le_refl _) (by omega) () A C row hs.2.2 hg hr⟩)
            (fun c s A C row hs hg hr => ⟨hs.1, cell_kept hs.2.1 hg (fun r e => (hr r e).2), ownFrom_below (β := Unit) (Nat.le_refl _) (by omega) () A C row hs.2.2 hg hr⟩)
            ⟨fun x hx => absurd hx (by simp), ⟨k3', k7', k6', kf'⟩, hB5⟩ (fun x => { tmps := #[.slice a rs.length cap, .int .i64 i, .slice (some ⟨b, off, none⟩) (m + 1) pcap, .pointer (some ⟨w.heap.size, 0, none⟩), undef, undef, .pointer (some ⟨w.heap.size + 1, 0, none⟩), .pointer (some ⟨W.heap.size, 0, none⟩), .int .i64 (x : Int), .slice (some ⟨b, off, none⟩) (m + 1) pcap, .int .i64 ((m : Int) + 1), .bool false, .bool false, .slice a rs.length cap, .int .i64 i, .slice (some ⟨b, off, none⟩) (m + 1) pcap, .slice (some ⟨b, off, none⟩) (m + 1) pcap, .int .i64 ((m : Int) + 1), .int .i64 (m : Int), .pointer (some ⟨b, off + m * 6, none⟩), .agg #[.int .i64 q.p.comb, .string q.p.tag, .string q.p.id, .slice q.a q.p.cls.length q.cap, .slice q.b q.p.tests.length q.cbp, .int .i64 q.p.states], .bool true, .bool false, .bool false, .slice (some ⟨b, off, none⟩) (m + 1) pcap, .slice (some ⟨b, off, none⟩) (m + 1) pcap, .int .i64 ((m : Int) + 1), .int .i64 (m : Int), .slice (some ⟨b, off, none⟩) m pcap, .slice (some ⟨b, off, none⟩) m pcap, .int .i64 (m : Int), .bool false, .slice a rs.length cap, .int .i64 i, .slice (some ⟨b, off, none⟩) (m + 1) pcap, .slice (some ⟨b, off, none⟩) (m + 1) pcap, .int .i64 ((m : Int) + 1), .int .i64 (m : Int), .pointer (some ⟨b, off + m * 6, none⟩), .pointer (some ⟨b, off + m * 6, none⟩), .int .i64 q.p.comb, .func (.func g) #[] lb, .int .i64 (x : Int), undef, undef, undef, undef], defers := [] }) ?assign ?body ?done ?stop)
          case assign =>
            intro l' x W3 K hK
            gi_wp2
            exact hK
          case body =>
            rintro l' pre x W3 hl' ⟨rr, hrr⟩ ⟨hpre, ⟨c3', c7', c6', f6'⟩, hB3⟩ _
            have hc := HI.out W3 hB3 (x : Int)
            have hGx : picksI (rs.map NRow.n) (init.map PRow.p).reverse (x : Int) = G x := congrFun hG x
            rw [hGx] at hc
            have zz : w.heap.size + 1 < W3.heap.size := by
              rcases Nat.lt_or_ge (w.heap.size + 1) W3.heap.size with h | h
              · exact h
              · simp only [World.cell?] at c6'; rw [Array.getElem?_eq_none h] at c6'; cases c6'
            have kfr : ∀ (W6 : World), Below W3.heap.size W3 W6 → KeepsFrom w5.heap.size W3 W6 := fun W6 h => ⟨h.size, fun k o _ hk _ => (h.block k (Array.getElem?_eq_some_iff.1 hk).1).trans hk⟩
            have z5 : w5.heap.size ≤ W3.heap.size := by have := (Array.getElem?_eq_some_iff.1 hrr).1; omega
            generalize hgx : G x = gx at *
            cases gx with
            | false =>
              gi_wp2_with (refine ⟨trivial, ?_⟩; gi_at_call 68; refine (CallsIn.inRound l' (callsIn_wide.2 hc)).mono ?_; rintro e w6 ⟨rfl, hb7⟩)
              refine ⟨kfr _ hb7, hb7.mono z5, fun y hy => ?_, ⟨(hb7.cell (p := ⟨w.heap.size, 0, none⟩) (by simp only; omega)).trans c3', (hb7.cell (p := ⟨W.heap.size, 0, none⟩) (by simp only; omega)).trans c7', (hb7.cell (p := ⟨w.heap.size + 1, 0, none⟩) zz).trans c6', (hb7.frozen (p := ⟨w.heap.size + 1, 0, none⟩) zz).trans f6'⟩, hB3.trans (hb7.mono hB3.size)⟩
              rcases List.mem_append.1 hy with h | h
              · exact hpre y h
              · simp at h; subst h; exact hgx
            | true =>
              have hc' := hc.mono (R' := fun e w' => e = .returned (.bool true) ∧ Below W3.heap.size W3 w' ∧ w'.cell? ⟨w.heap.size + 1, 0, none⟩ = some (.bool false) ∧ w'.frozen? ⟨w.heap.size + 1, 0, none⟩ = false) fun e w' ⟨h1, h2⟩ => ⟨h1, h2, (h2.cell (p := ⟨w.heap.size + 1, 0, none⟩) zz).trans c6', (h2.frozen (p := ⟨w.heap.size + 1, 0, none⟩) zz).trans f6'⟩
              gi_wp2_with (refine ⟨trivial, ?_⟩; gi_at_call 68; refine (CallsIn.inRound l' (callsIn_wide.2 hc')).mono ?_; rintro e w6 ⟨rfl, hb7, c6w, f6w⟩)
              exact ⟨(kfr _ hb7).trans ((KeepsOthers.setCell _ _ _).from _), ⟨rfl, x, by simp, hgx⟩, World.cell?_setCell_same' _ _ _ (by rw [c6w]; rfl), (hB3.trans (hb7.mono hB3.size)).setCell (p := ⟨w.heap.size + 1, 0, none⟩) (by simp) _⟩
          case done =>
            rintro D W3 hD ⟨hpre, ⟨_, _, c6', f6'⟩, hB3⟩ hK
            go_wp2_with fail
            have hK' : (W3.setCell ⟨w.heap.size + 1, 0, none⟩ (.bool false)).heap[D]? = some (.deferred (some [])) := (KeepsOthers.setCell _ _ _).same D _ hK rfl
            refine ⟨by simp, .inl ⟨_, _, rfl, run_takeDeferred hK', ?_⟩⟩
            refine ⟨_, results_cell1 rfl _ _ (w.heap.size + 1) (.bool false) rfl ?_ (by kernel_rfl), ?_, ?_⟩
            · exact cell_kept (World.cell?_setCell_same' _ _ _ (by rw [c6']; rfl)) (grownBy_putObj' _ D (.deferred none)) (fun r e => by cases e; exact ⟨_, hK', rfl⟩)
            · have : ks.any G = false := by rw [List.any_eq_false]; intro x hx; rw [hpre x hx]; simp
              rw [hks, this]; rfl
            · exact (hB3.setCell (p := ⟨w.heap.size + 1, 0, none⟩) (by simp) _).trans (belowK_b (w := w) (Nat.le_refl _) _ D _ _ (by omega) hK' rfl rfl)
          case stop =>
            rintro D c pre W3 hD hpx ⟨⟨rfl, hex⟩, c6', hB3⟩ hK
            refine wpIn_wide.2 ?_
            go_wp2_with fail
            refine ⟨by simp, .inl ⟨_, _, rfl, run_takeDeferred hK, ?_⟩⟩
            refine ⟨_, results_cell1 rfl _ _ (w.heap.size + 1) (.bool true) rfl ?_ (by kernel_rfl), ?_, ?_⟩
            · exact cell_kept c6' (grownBy_putObj' _ D (.deferred none)) (fun r e => by cases e; exact ⟨_, hK, rfl⟩)
            · have : ks.any G = true := by
                obtain ⟨x, hx, hg⟩ := hex
                obtain ⟨t, rfl⟩ := hpx
                rw [List.any_eq_true]
                exact ⟨x, by simp [hx], hg⟩
              rw [hks, this]; rfl
            · exact hB3.trans (belowK_b (w := w) (Nat.le_refl _) _ D _ _ (by omega) hK rfl rfl)
end Go.Proofs.YtmlhipckgmbpfaaGreat
