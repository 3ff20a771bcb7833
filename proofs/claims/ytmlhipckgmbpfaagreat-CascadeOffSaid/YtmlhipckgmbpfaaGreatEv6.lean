/-
  The small interpreter, part 6: append; all that make or write memory.
-/
import Derived.Test.YtmlhipckgmbpfaaGreatEv5
namespace Go.Proofs.YtmlhipckgmbpfaaGreat.Ev
open Go Go.RowKit
set_option linter.unusedVariables false

/-- the elements of a slice whose block is known: at least one -/
noncomputable def elemsA (M : Mem) (s : Nat) : AV → Option (Nat × List AV)
  | .sl b o m _ s' => if s' = s ∧ 0 < m then match M.get b with
    | some B => if o + m * s ≤ B.cells.length ∧ ((B.cells.drop o).take (m * s)).all oneA = true then some (m, (B.cells.drop o).take (m * s)) else none
    | none => none
    else none
  | _ => none
/-- no elements -/
def noneA : AV → Bool
  | .lit (.slice none 0 _) => true
  | .esl => true
  | .sl _ _ 0 _ _ => true
  | _ => false

noncomputable def evAppend (P : Program) (M : Mem) (t : TypeId) (x y : AV) : Option (AV × Mem) := match sliceElem P t, P.info? ((sliceElem P t).getD (0, 0)).1 with
  | some (e, s), some i =>
    match i.zero with
    | none => none
    | some z =>
      if z.cells.size = s then
        if noneA y then (match x with
          | .sl .. => some (x, M)
          | .lit (.slice none 0 0) => some (x, M)
          | _ => none)
        else match elemsA M s y with
          | some (m, news) => match x with
            | .lit (.slice none 0 0) => if m * i.bytes ≤ 140737488355328 ∧ m ≤ 17592186044416 then some (.sl M.top 0 m none s, M.push ⟨news, e⟩) else none
            | .sl b o n (some k) s' => match M.get b with
              | some B => if s' = s ∧ (n + m) * i.bytes ≤ 140737488355328 ∧ n + m ≤ 17592186044416 ∧ k < n + m ∧ o + n * s ≤ B.cells.length then
                  some (.sl M.top 0 (n + m) none s, M.push ⟨(B.cells.drop o).take (n * s) ++ news, e⟩) else none
              | none => none
            | .sl b 0 n none s' => match M.get b with
              | some B => if s' = s ∧ B.elem = e ∧ (n + m) * i.bytes ≤ 140737488355328 ∧ n + m ≤ 17592186044416 ∧ n * s ≤ B.cells.length then
                  some (.sl M.top 0 (n + m) none s, (M.put b none).push ⟨B.cells.take (n * s) ++ news, e⟩) else none
              | none => none
            | _ => none
          | none => none
      else none
  | _, _ => none

theorem elemsA_sound {w0 : Base} {ρ : Rho} {M : Mem} {w : World} (hW : WR w0 ρ M w) {s m : Nat} {y : AV} {uy : Value} {news : List AV} (hy : rel ρ y uy) (he : elemsA M s y = some (m, news)) :
    0 < m ∧ news.all oneA = true ∧ ∃ ad c us, uy = .slice (some ad) m c ∧ us.length = m * s ∧ rels ρ news us ∧ ∀ w' : World, w'.heap = w.heap → ∀ j u, us[j]? = some u → w'.cell? (ad.add j) = some u := by
  unfold elemsA at he
  split at he
  · rename_i b o m' c s'
    split at he
    · rename_i hok
      split at he
      · rename_i B hb
        split at he
        · rename_i hok2
          simp at he
          obtain ⟨rfl, rfl⟩ := he
          simp only [rel] at hy
          obtain ⟨g, tot, cap, hg, rfl, _⟩ := hy
          obtain ⟨us, h1, h2, h3⟩ := hW.row hb hg o (m' * s) hok2.1
          exact ⟨hok.2, hok2.2, _, _, us, rfl, h1, h2, fun w' hw j u hu => by rw [add_at]; exact h3 w' hw j u hu⟩
        · cases he
      · cases he
    · cases he
  · cases he

theorem run_append_zero {P : Program} {t ty e : TypeId} {s : Nat} (hu : P.underlying t = some (.slice e)) (hs : szT P e = some s) {base : Option Addr} {n cap : Nat} (hn : n ≤ cap) {uy : Value} (hy : ∃ b c, uy = .slice b 0 c) (w : World) :
    (Builtin.append_ #[t, t] ty #[.slice base n cap, uy]).run P w = .ok (.slice base n cap) w := by
  obtain ⟨b, c, rfl⟩ := hy
  cases b <;> cases base <;> simp [Builtin.append_, run_underlying hu, run_szT hs, Builtin.lenOf, hn, Builtin.firstCells, loadCells, loadCellsFrom, storeCells]

theorem evAppend_sound {P : Program} {w0 : Base} {ρ : Rho} {M M' : Mem} {w : World} (hW : WR w0 ρ M w) {t ty : TypeId} {x y v : AV} {ux uy : Value} (hx : rel ρ x ux) (hy : rel ρ y uy) (he : evAppend P M t x y = some (v, M')) :
    Does P w0 ρ M' v w (Builtin.append_ #[t, t] ty #[ux, uy]) := by
  unfold evAppend at he
  cases hse : sliceElem P t with
  | none => simp [hse] at he
  | some es =>
    obtain ⟨e, s⟩ := es
    obtain ⟨hu, hs⟩ := sliceElem_spec hse
    simp only [hse, Option.getD_some] at he
    cases hi : P.info? e with
    | none => simp [hi] at he
    | some i =>
      have his : i.size = s := by unfold szT at hs; rw [hi] at hs; simpa using hs
      simp only [hi] at he
      cases hz : i.zero with
      | none => simp [hz] at he
      | some z =>
        simp only [hz] at he
        split at he
        · rename_i hzs
          split at he
          · rename_i hno
            have hy0 : ∃ b c, uy = .slice b 0 c := by
              unfold noneA at hno
              split at hno
              · simp only [rel] at hy; exact ⟨_, _, hy⟩
              · simp only [rel] at hy; obtain ⟨ad, c, e, _⟩ := hy; exact ⟨_, _, e⟩
              · simp only [rel] at hy; obtain ⟨g, tot, c, _, e, _⟩ := hy; exact ⟨_, _, e⟩
              · cases hno
            split at he
            · rename_i b o n c s'
              simp at he
              obtain ⟨rfl, rfl⟩ := he
              have hx' := hx
              simp only [rel] at hx'
              obtain ⟨g, tot, cap, _, rfl, hn, _⟩ := hx'
              exact ⟨ρ, _, w, Ext.refl _, hx, hW, run_append_zero hu hs hn hy0 w⟩
            · simp at he
              obtain ⟨rfl, rfl⟩ := he
              have hx' := hx
              simp only [rel] at hx'
              subst hx'
              exact ⟨ρ, _, w, Ext.refl _, hx, hW, run_append_zero hu hs (Nat.le_refl _) hy0 w⟩
            · cases he
          · rename_i hno
            cases hel : elemsA M s y with
            | none => simp [hel] at he
            | some mn =>
              obtain ⟨m, news⟩ := mn
              simp only [hel] at he
              obtain ⟨hm0, hones, ad, c, us, rfl, hul, hur, huc⟩ := elemsA_sound hW hy hel
              have hul' : us.length = m * i.size := by rw [his]; exact hul
              have huc' := huc w rfl
              have h1s := hur.ones hones
              have hnl := hur.len
              split at he
              · -- nil
                split at he
                · rename_i hok
                  simp at he
                  obtain ⟨rfl, rfl⟩ := he
                  simp only [rel] at hx
                  subst hx
                  have hr := run_append_nil (P := P) w t ty e i z hu hi hz ad m c us hul' huc' hm0 (by omega) (by omega)
                  refine ⟨_, _, _, hW.drew.fresh _, ?_, hW.drew.new e (us := us.toArray ++ Builtin.zeroCells z.cells (grownCap w m 0 e - m)) (fun j x hjx => ?_), hr⟩
                  · simp only [rel]
                    have hge := grownCap_ge w m 0 e
                    refine ⟨_, _, _, upd_same _ _ _, rfl, hge, grownCap_le_maxLen w m 0 e (by unfold maxLen; omega), (fun k hk => by cases hk), ?_⟩
                    simp only [Array.size_append, List.size_toArray, size_zeroCells, hzs, hul, ← Nat.add_mul]
                    rw [show m + (grownCap w m 0 e - m) = grownCap w m 0 e by omega]; omega
                  · obtain ⟨u, q1, q2⟩ := hur.get j x hjx
                    refine ⟨u, ?_, q2⟩
                    have : j < us.length := (List.getElem?_eq_some_iff.1 q1).1
                    rw [Array.getElem?_append_left (by simpa using this)]
                    simpa using q1
                · cases he
              · rename_i b o n k s'
                split at he
                · rename_i B hb
                  split at he
                  · rename_i hok
                    obtain ⟨rfl, o1, o2, o3, o4⟩ := hok
                    simp at he
                    obtain ⟨rfl, rfl⟩ := he
                    simp only [rel] at hx
                    obtain ⟨g, tot, cap, hg, rfl, hn, hcm, hck, hfit⟩ := hx
                    have hcap := hck k rfl
                    subst hcap
                    obtain ⟨olds, p1, p2, p3⟩ := hW.row hb hg o (n * s') o4
                    have hr := run_append_grow (P := P) w t ty e i z hu hi hz ⟨g, o, none⟩ n cap olds (by rw [p1, his]) (fun j u hj => by rw [add_at]; exact p3 w rfl j u hj) ad m c us hul' huc' o3 (by omega) (growslice_fits o3 o1)
                    refine ⟨_, _, _, hW.drew.fresh _, ?_, hW.drew.new e (us := olds.toArray ++ us.toArray ++ Builtin.zeroCells z.cells (grownCap w (n + m) cap e - (n + m))) (fun j x hjx => ?_), hr⟩
                    · simp only [rel]
                      have hge := grownCap_ge w (n + m) cap e
                      refine ⟨_, _, _, upd_same _ _ _, rfl, hge, grownCap_le_maxLen w (n + m) cap e (by unfold maxLen; omega), (fun k hk => by cases hk), ?_⟩
                      simp only [Array.size_append, List.size_toArray, size_zeroCells, hzs, hul, p1, ← Nat.add_mul]
                      rw [show n + m + (grownCap w (n + m) cap e - (n + m)) = grownCap w (n + m) cap e by omega]; omega
                    · obtain ⟨u, q1, q2⟩ := (p2.app hur).get j x hjx
                      refine ⟨u, ?_, q2⟩
                      have : j < (olds ++ us).length := (List.getElem?_eq_some_iff.1 q1).1
                      rw [Array.getElem?_append_left (by simpa using this)]
                      simpa using q1
                  · cases he
                · cases he
              · rename_i b n s'
                split at he
                · rename_i B hb
                  split at he
                  · rename_i hok
                    obtain ⟨rfl, hBe, o1, o2, o4⟩ := hok
                    simp at he
                    obtain ⟨rfl, rfl⟩ := he
                    simp only [rel] at hx
                    obtain ⟨g, tot, cap, hg, rfl, hn, hcm, hck, hfit⟩ := hx
                    obtain ⟨olds, p1, p2, p3⟩ := hW.row hb hg 0 (n * s') (by omega)
                    rw [List.drop_zero] at p2
                    have hM : (M.put b none).top = M.top := rfl
                    by_cases hroom : n + m ≤ cap
                    · obtain ⟨g', tot', q1, q2, cur, q3, q4, q5⟩ := hW.blk b B hb
                      rw [hg] at q1; simp at q1; obtain ⟨rfl, rfl⟩ := q1
                      have hmul : (n + m) * s' ≤ cap * s' := Nat.mul_le_mul_right _ hroom
                      rw [Nat.add_mul] at hmul
                      have hfit' : n * i.size + us.length ≤ cur.size := by rw [his, hul]; omega
                      rw [hBe] at q3
                      have hr := run_append_room (P := P) w t ty e i hu hi g n cap cur q3 ad m c us hul' huc' h1s hroom hfit'
                      rw [his] at hr
                      have hold : ∀ j u, olds[j]? = some u → cur[j]? = some u := fun j u hj => by
                        have := p3 w rfl j u hj
                        simpa [World.cell?, q3] using this
                      have hlen : olds.length ≤ cur.size := by rw [p1]; omega
                      have htk : cur.toList.take (n * s') = olds := by
                        apply List.ext_getElem?
                        intro j
                        rw [List.getElem?_take]
                        by_cases hj : j < n * s'
                        · rw [if_pos hj]
                          have := hold j olds[j] (List.getElem?_eq_getElem (by omega))
                          rw [Array.getElem?_toList, this, List.getElem?_eq_getElem (by omega)]
                        · rw [if_neg hj, List.getElem?_eq_none (by omega)]
                      refine ⟨upd ρ M.top (g, tot), _, _, hW.fresh _, ?_, ?_, hr⟩
                      · simp only [rel]
                        exact ⟨g, tot, cap, upd_same _ _ _, rfl, hroom, hcm, (fun k hk => by cases hk), hfit⟩
                      · rw [← hBe]
                        refine hW.renew hb hg (by simp; omega) (fun j x hjx => ?_)
                        obtain ⟨u, r1, r2⟩ := (p2.app hur).get j x hjx
                        refine ⟨u, ?_, r2⟩
                        have : j < (olds ++ us).length := (List.getElem?_eq_some_iff.1 r1).1
                        rw [htk, List.getElem?_toArray, List.getElem?_append_left this]
                        exact r1
                    · have hr := run_append_grow (P := P) w t ty e i z hu hi hz ⟨g, 0, none⟩ n cap olds (by rw [p1, his]) (fun j u hj => by rw [add_at]; exact p3 w rfl j u hj) ad m c us hul' huc' (by omega) (by omega) (growslice_fits (by omega) o1)
                      have hlt := Mem.get_lt hb
                      have hWd := hW.drew.die hlt
                      refine ⟨_, _, _, hWd.fresh _, ?_, hWd.new e (us := olds.toArray ++ us.toArray ++ Builtin.zeroCells z.cells (grownCap w (n + m) cap e - (n + m))) (fun j x hjx => ?_), hr⟩
                      · simp only [rel]
                        have hge := grownCap_ge w (n + m) cap e
                        refine ⟨_, _, _, by rw [hM]; exact upd_same _ _ _, rfl, hge, grownCap_le_maxLen w (n + m) cap e (by unfold maxLen; omega), (fun k hk => by cases hk), ?_⟩
                        simp only [Array.size_append, List.size_toArray, size_zeroCells, hzs, hul, p1, ← Nat.add_mul]
                        rw [show n + m + (grownCap w (n + m) cap e - (n + m)) = grownCap w (n + m) cap e by omega]; omega
                      · obtain ⟨u, q1, q2⟩ := (p2.app hur).get j x hjx
                        refine ⟨u, ?_, q2⟩
                        have : j < (olds ++ us).length := (List.getElem?_eq_some_iff.1 q1).1
                        rw [Array.getElem?_append_left (by simpa using this)]
                        simpa using q1
                  · cases he
                · cases he
              · cases he
        · cases he

/-! ### make -/
theorem run_make {P : Program} {t e : TypeId} {i : TypeInfo} {z : Value} (hu : P.underlying t = some (.slice e)) (hi : P.info? e = some i) (hz : i.zero = some z) (kl kc : IntKind) (n m : Nat) (hnm : n ≤ m) (hb : m * i.bytes ≤ 140737488355328) (hm : m ≤ 17592186044416) (w : World) :
    (Instr.makeSlice t (.int kl n) (.int kc m)).run P w = .ok (.slice (some ⟨w.heap.size, 0, none⟩) n m) (w.alloc (.cells ((Array.range (m * i.size)).map (fun j => z.cells[j % z.cells.size]!)) e)) := by
  have h1 : IntKind.i64.wrap (n : Int) = n := IntWalk.i64_in _ (by omega)
  have h2 : IntKind.i64.wrap (m : Int) = m := IntWalk.i64_in _ (by omega)
  have h3 : ¬ ((281474976710656 : Int) < (i.bytes : Int) * (m : Int)) := by
    have : ((m * i.bytes : Nat) : Int) = (i.bytes : Int) * (m : Int) := by rw [Nat.mul_comm]; simp
    omega
  have h4 : ¬ ((m : Int) < n) := by omega
  have h6 : ¬ ((m : Int) < 0) := by omega
  have h7 : ¬ ((n : Int) < 0) := by omega
  by_cases h0 : m * i.size = 0
  · have hr : (Array.map (fun (x : Nat) => z.cells[x % z.cells.size]!) (Array.range (m * i.size))) = #[] := Array.eq_empty_of_size_eq_zero (by simp [h0])
    have hr' : (Array.map (fun (x : Nat) => (default : Value)) (Array.range 0)) = #[] := Array.eq_empty_of_size_eq_zero (by simp)
    rw [hr]
    simp [Instr.makeSlice, run_underlying hu, asInt, asIntOf, typeInfo, hi, h1, h2, h3, h4, h6, h7, sizeOf, h0, newRow, hr']
  · simp [Instr.makeSlice, run_underlying hu, asInt, asIntOf, typeInfo, hi, h1, h2, h3, h4, h6, h7, sizeOf, h0, newRow, zeroValue, hz]

def evMake (P : Program) (M : Mem) (t : TypeId) (l c : Value) : Option (AV × Mem) := match sliceElem P t, P.info? ((sliceElem P t).getD (0, 0)).1, l, c with
  | some (e, s), some i, .int _ (.ofNat n), .int _ (.ofNat m) =>
    match i.zero with
    | none => none
    | some z => if n ≤ m ∧ m * i.bytes ≤ 140737488355328 ∧ m ≤ 17592186044416 then
        some (.sl M.top 0 n (some m) s, M.push ⟨((Array.range (m * s)).map (fun j => z.cells[j % z.cells.size]!)).toList.map .lit, e⟩)
      else none
  | _, _, _, _ => none
theorem evMake_sound {P : Program} {w0 : Base} {ρ : Rho} {M M' : Mem} {w : World} (hW : WR w0 ρ M w) {t : TypeId} {l c : Value} {v : AV} (he : evMake P M t l c = some (v, M')) : Does P w0 ρ M' v w (Instr.makeSlice t l c) := by
  unfold evMake at he
  split at he
  · rename_i e s i kl n kc m hse hi
    obtain ⟨hu, hs⟩ := sliceElem_spec hse
    simp only [hse, Option.getD_some] at hi
    have his : i.size = s := by unfold szT at hs; rw [hi] at hs; simpa using hs
    split at he
    · cases he
    · rename_i z hz
      split at he
      · rename_i hok
        simp only [Option.some.injEq, Prod.mk.injEq] at he
        obtain ⟨rfl, rfl⟩ := he
        have hr := run_make hu hi hz kl kc n m hok.1 hok.2.1 hok.2.2 w
        rw [his] at hr
        refine ⟨_, _, _, hW.fresh _, ?_, hW.new e (fun j x hx => ?_), hr⟩
        · simp only [rel]
          refine ⟨_, _, m, upd_same _ _ _, rfl, hok.1, ?_, fun k hk => by simpa using hk, by simp⟩
          have := hok.2.2; unfold maxLen; omega
        · obtain ⟨y, h1, h2⟩ := (rels.lits (ρ := ρ) ((Array.range (m * s)).map (fun j => z.cells[j % z.cells.size]!)).toList).get j x hx
          exact ⟨y, by rw [← Array.getElem?_toList]; exact h1, h2⟩
      · cases he
  · cases he

end Go.Proofs.YtmlhipckgmbpfaaGreat.Ev
