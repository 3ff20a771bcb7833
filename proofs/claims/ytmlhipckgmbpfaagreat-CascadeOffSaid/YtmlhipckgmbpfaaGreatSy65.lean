/-
  The symbolic interpreter, part 6b: append to rows whose number may be a variable.
-/
import Derived.Test.YtmlhipckgmbpfaaGreatSy6
namespace Go.Proofs.YtmlhipckgmbpfaaGreat.Sy
open Go Go.RowKit
set_option linter.unusedVariables false

noncomputable def getA (l : List AV) (k : Nat) : AV := Option.rec (motive := fun _ => AV) (.lit undef) (fun v => v) (nth l k)
/-- the first n rows, and others behind them -/
def appc (n : Nat) (c d : Nat → Nat → AV) : Nat → Nat → AV := fun i j => match Nat.blt i n with | true => c i j | false => d (i - n) j
theorem appc_lt {n : Nat} {c d : Nat → Nat → AV} {i j : Nat} (h : i < n) : appc n c d i j = c i j := by
  simp [appc, show Nat.blt i n = true by simpa [Nat.blt_eq] using h]
theorem appc_ge {n : Nat} {c d : Nat → Nat → AV} {i j : Nat} (h : n ≤ i) : appc n c d i j = d (i - n) j := by
  have : Nat.blt i n = false := by
    cases hh : Nat.blt i n with
    | false => rfl
    | true => exact absurd (by simpa [Nat.blt_eq] using hh) (by omega : ¬ i < n)
  simp [appc, this]

noncomputable def srcA (M : Mem) (s : Nat) (y : AV) : Option (Nat × (Nat → Nat → AV)) := match y with
  | .view m s' c => if s' = s then some (m, c) else none
  | .own b m s' => match M.get b with
    | some B => match B.rows with
      | some R => if s' = s ∧ R.s = s then some (m, R.cell) else none
      | none => none
    | none => none
  | y => if noneA y then some (0, fun _ _ => .lit undef) else match elemsA M s y with
    | some (m, news) => some (m, fun i j => getA news (i * s + j))
    | none => none
noncomputable def obSrc (M : Mem) : AV → Bool
  | .own b m s' => match M.get b with
    | some B => match B.rows with
      | some R => Nat.ble m R.n
      | none => true
    | none => true
  | _ => true

theorem place_div {i j s : Nat} (h : j < s) : (i * s + j) / s = i ∧ (i * s + j) % s = j := by
  rw [Nat.mul_comm i s]
  exact ⟨by rw [Nat.mul_add_div (by omega), Nat.div_eq_of_lt h]; omega, by rw [Nat.mul_add_mod, Nat.mod_eq_of_lt h]⟩
theorem place_lt {i j s m : Nat} (hi : i < m) (hj : j < s) : i * s + j < m * s := by
  have : (i + 1) * s ≤ m * s := Nat.mul_le_mul_right s hi
  rw [Nat.add_mul] at this; omega
theorem place_at {k s m : Nat} (h : k < m * s) : k / s < m ∧ k % s < s ∧ k / s * s + k % s = k := by
  have hs : 0 < s := by rcases Nat.eq_zero_or_pos s with h0 | h0; · subst h0; simp at h
                        · exact h0
  exact ⟨by rw [Nat.div_lt_iff_lt_mul hs]; exact h, Nat.mod_lt _ hs, by rw [Nat.mul_comm]; exact Nat.div_add_mod k s⟩

/-- what is shown of the elements that are appended -/
def Elems (ρ : Rho) (w : World) (s m : Nat) (cell : Nat → Nat → AV) (uy : Value) : Prop := ∃ (a : Option Addr) (c : Nat) (us : List Value), uy = .slice a m c ∧ us.length = m * s ∧ (∀ k u, us[k]? = some u → rel ρ (cell (k / s) (k % s)) u) ∧ (∀ u ∈ us, u.oneCell' = true) ∧
  (0 < m → ∃ ad, a = some ad ∧ ∀ j u, us[j]? = some u → w.cell? (ad.add j) = some u)

theorem srcA_sound {w0 : World} {ρ : Rho} {M : Mem} {w : World} (hW : WR w0 ρ M w) {s m : Nat} {y : AV} {uy : Value} {cell : Nat → Nat → AV} (hy : rel ρ y uy) (he : srcA M s y = some (m, cell)) (hob : obSrc M y = true) : Elems ρ w s m cell uy := by
  unfold srcA at he
  split at he
  · rename_i m' s' c
    split at he
    · rename_i hss
      simp at he
      obtain ⟨rfl, rfl⟩ := he
      subst hss
      simp only [rel] at hy
      obtain ⟨a, cap, rfl, hn, hcm, hnil, hc⟩ := hy
      rcases Nat.eq_zero_or_pos m' with h0 | h0
      · subst h0
        exact ⟨a, cap, [], rfl, by simp, fun k u h => by simp at h, fun u h => by simp at h, fun h => by omega⟩
      · obtain ⟨g, o, rfl, hcell⟩ := hc h0
        obtain ⟨us, h1, h2⟩ := pick_list (fun k x => ρ.still g (o + k) = some x ∧ rel ρ (c (k / s') (k % s')) x ∧ x.oneCell' = true) (m' * s') (fun k hk => by
          obtain ⟨p1, p2, p3⟩ := place_at hk
          obtain ⟨x, q1, q2⟩ := hcell (k / s') (k % s') p1 p2
          rw [Nat.add_assoc, p3] at q1
          exact ⟨x, q1, q2⟩)
        refine ⟨_, cap, us, rfl, h1, fun k u hu => (h2 k u hu).2.1, fun u hu => ?_, fun _ => ⟨_, rfl, fun j u hu => by rw [add_at]; exact hW.still _ _ _ (h2 j u hu).1⟩⟩
        obtain ⟨k, hk⟩ := List.getElem?_of_mem hu
        exact (h2 k u hk).2.2
    · cases he
  · rename_i b m' s'
    split at he
    · rename_i B hb
      split at he
      · rename_i R hR
        split at he
        · rename_i hss
          simp at he
          obtain ⟨rfl, rfl⟩ := he
          obtain ⟨rfl, hRs⟩ := hss
          simp only [obSrc, hb, hR, Nat.ble_eq] at hob
          simp only [rel] at hy
          rcases hy with ⟨_, rfl, rfl⟩ | ⟨g, tot, cap, hg, rfl, hn, hcm, hfit⟩
          · exact ⟨none, 0, [], rfl, by simp, fun k u h => by simp at h, fun u h => by simp at h, fun h => by omega⟩
          · obtain ⟨q2, cur, q3, q4, _, q5⟩ := hW.holds hb hg
            have q5 := q5 R hR
            rw [hRs] at q5
            obtain ⟨us, h1, h2⟩ := pick_list (fun k x => cur[k]? = some x ∧ rel ρ (R.cell (k / s') (k % s')) x ∧ x.oneCell' = true) (m' * s') (fun k hk => by
              obtain ⟨p1, p2, p3⟩ := place_at hk
              obtain ⟨x, q1, q2⟩ := q5 (k / s') (k % s') (by omega) p2
              rw [p3] at q1
              exact ⟨x, q1, q2⟩)
            refine ⟨_, cap, us, rfl, h1, fun k u hu => (h2 k u hu).2.1, fun u hu => ?_, fun _ => ⟨_, rfl, fun j u hu => by rw [add_at, cell_at q3, Nat.zero_add]; exact (h2 j u hu).1⟩⟩
            obtain ⟨k, hk⟩ := List.getElem?_of_mem hu
            exact (h2 k u hk).2.2
        · cases he
      · cases he
    · cases he
  · split at he
    · rename_i hno
      simp at he
      obtain ⟨rfl, rfl⟩ := he
      have hy0 : ∃ b c, uy = .slice b 0 c := by
        unfold noneA at hno
        split at hno
        · simp only [rel] at hy; exact ⟨_, _, hy⟩
        · simp only [rel] at hy; obtain ⟨ad, c, e, _⟩ := hy; exact ⟨_, _, e⟩
        · simp only [rel] at hy; obtain ⟨g, tot, c, _, e, _⟩ := hy; exact ⟨_, _, e⟩
        · cases hno
      obtain ⟨b, c, rfl⟩ := hy0
      exact ⟨b, c, [], rfl, by simp, fun k u h => by simp at h, fun u h => by simp at h, fun h => by omega⟩
    · split at he
      · rename_i m' news hel
        simp at he
        obtain ⟨rfl, rfl⟩ := he
        obtain ⟨hm0, hones, ad, c, us, rfl, hul, hur, huc⟩ := elemsA_sound hW hy hel
        refine ⟨_, c, us, rfl, hul, fun k u hu => ?_, hur.ones hones, fun _ => ⟨ad, rfl, huc w rfl⟩⟩
        have hk : k < m' * s := by rw [← hul]; exact (List.getElem?_eq_some_iff.1 hu).1
        obtain ⟨p1, p2, p3⟩ := place_at hk
        show rel ρ (getA news (k / s * s + k % s)) u
        rw [p3]
        have hn : k < news.length := by rw [hur.len]; exact (List.getElem?_eq_some_iff.1 hu).1
        obtain ⟨u', h3, h4⟩ := hur.get k news[k] (List.getElem?_eq_getElem hn)
        rw [hu] at h3; simp at h3; subst h3
        simp only [getA, nth_eq, List.getElem?_eq_getElem hn]
        exact h4
      · cases he

theorem setRow_self {w : World} {g : Nat} {cur : Array Value} {e : TypeId} {fr : Nat × Nat} (h : w.heap[g]? = some (.cells cur e fr)) : w.setRow g cur = w := by
  have : w.heap.modify g (fun | .cells _ t fr => .cells cur t fr | o => o) = w.heap := by
    apply Array.ext_getElem?
    intro i
    rw [Array.getElem?_modify]
    split
    · rename_i hi
      subst hi
      rw [h]; rfl
    · rfl
  unfold World.setRow
  exact congrArg (fun hp => ({ w with heap := hp } : World)) this

noncomputable def evAppendS (P : Program) (M : Mem) (t : TypeId) (x y : AV) : Option (AV × Mem) := match sliceElem P t, P.info? ((sliceElem P t).getD (0, 0)).1 with
  | some (e, s), some i =>
    match i.zero with
    | none => none
    | some z =>
      if z.cells.size = s then match srcA M s y with
        | some (m, c) => match x with
          | .lit (.slice none 0 0) => some (.own M.top m s, M.push ⟨[], e, some ⟨m, s, c⟩⟩)
          | .own b n s' => match M.get b with
            | some B => match B.rows with
              | some R => if s' = s ∧ R.s = s ∧ B.elem = e then some (.own M.top (n + m) s, (M.put b none).push ⟨[], e, some ⟨n + m, s, appc n R.cell c⟩⟩) else none
              | none => none
            | none => none
          | _ => none
        | none => none
      else none
  | _, _ => none
/-- room: so many elements of so many bytes -/
def obRoom (n bytes : Nat) : Bool := Nat.ble (n * bytes) 140737488355328 && Nat.ble n 17592186044416
theorem obRoom_spec {n bytes : Nat} (h : obRoom n bytes = true) : n * bytes ≤ 140737488355328 ∧ n ≤ 17592186044416 := by
  simpa [obRoom, Nat.ble_eq] using h
noncomputable def obAppend (P : Program) (M : Mem) (t : TypeId) (x y : AV) : Option Bool := match sliceElem P t, P.info? ((sliceElem P t).getD (0, 0)).1 with
  | some (e, s), some i => match srcA M s y with
    | some (m, c) => match x with
      | .lit (.slice none 0 0) => some (obSrc M y && obRoom m i.bytes)
      | .own b n s' => match M.get b with
        | some B => match B.rows with
          | some R => some (obSrc M y && (Nat.ble n R.n && obRoom (n + m) i.bytes))
          | none => none
        | none => none
      | _ => none
    | none => none
  | _, _ => none

theorem holds_rows {ρ : Rho} {e : TypeId} {m s : Nat} {c : Nat → Nat → AV} {us : Array Value} (h : ∀ k, k < m * s → ∃ u, us[k]? = some u ∧ rel ρ (c (k / s) (k % s)) u ∧ u.oneCell' = true) : Holds ρ ⟨[], e, some ⟨m, s, c⟩⟩ us :=
  ⟨fun i v hv => by simp at hv, fun R hR i j hi hj => by
    simp at hR; subst hR
    simp only at hi hj ⊢
    obtain ⟨u, h1, h2, h3⟩ := h (i * s + j) (place_lt hi hj)
    obtain ⟨p1, p2⟩ := place_div (i := i) hj
    rw [p1, p2] at h2
    exact ⟨u, h1, h2, h3⟩⟩

/-- what is in a block: old rows, and new ones behind them -/
theorem holds_app {ρ : Rho} {e : TypeId} {n m s : Nat} {c d : Nat → Nat → AV} {olds us : List Value} {cur : Array Value} (ho : olds.length = n * s) (hu : us.length = m * s) (h1 : ∀ k u, olds[k]? = some u → rel ρ (c (k / s) (k % s)) u ∧ u.oneCell' = true)
    (h2 : ∀ k u, us[k]? = some u → rel ρ (d (k / s) (k % s)) u ∧ u.oneCell' = true) (hc : ∀ (k : Nat) (u : Value), (olds ++ us)[k]? = some u → cur[k]? = some u) : Holds ρ ⟨[], e, some ⟨n + m, s, appc n c d⟩⟩ cur := by
  refine holds_rows fun k hk => ?_
  obtain ⟨p1, p2, p3⟩ := place_at hk
  have hlen : k < (olds ++ us).length := by rw [List.length_append, ho, hu, ← Nat.add_mul]; exact hk
  refine ⟨(olds ++ us)[k], hc k _ (List.getElem?_eq_getElem hlen), ?_⟩
  by_cases hlt : k < n * s
  · have hkn : k / s < n := by
      rcases Nat.lt_or_ge (k / s) n with h | h
      · exact h
      · have := Nat.mul_le_mul_right s h; omega
    rw [appc_lt hkn, List.getElem_append_left (by omega)]
    exact h1 k _ (List.getElem?_eq_getElem (by omega))
  · have hkn : n ≤ k / s := by
      rcases Nat.lt_or_ge (k / s) n with h | h
      · have := place_lt h p2; omega
      · exact h
    rw [appc_ge hkn, List.getElem_append_right (by omega)]
    have hs : 0 < s := by omega
    have e1 : (k - n * s) / s = k / s - n := by rw [Nat.mul_comm, Nat.sub_mul_div]
    have e2 : (k - n * s) % s = k % s := by rw [Nat.mul_comm]; exact Nat.sub_mul_mod (by rw [Nat.mul_comm]; omega)
    have hkm : k - n * s < us.length := by rw [Nat.add_mul] at hk; omega
    have := h2 (k - n * s) us[k - n * s] (List.getElem?_eq_getElem hkm)
    rw [e1, e2] at this
    have e3 : k - olds.length = k - n * s := by rw [ho]
    simp only [e3]
    exact this

theorem own_cells {ρ : Rho} {B : Blk} {cur : Array Value} {R : Rw} (h : Holds ρ B cur) (hR : B.rows = some R) {n : Nat} (hn : n ≤ R.n) (hsz : n * R.s ≤ cur.size) :
    (cur.toList.take (n * R.s)).length = n * R.s ∧ ∀ (k : Nat) (u : Value), (cur.toList.take (n * R.s))[k]? = some u → cur[k]? = some u ∧ rel ρ (R.cell (k / R.s) (k % R.s)) u ∧ u.oneCell' = true := by
  refine ⟨by simp; omega, fun k u hu => ?_⟩
  rw [List.getElem?_take] at hu
  split at hu
  · rename_i hk
    obtain ⟨p1, p2, p3⟩ := place_at hk
    obtain ⟨x, q1, q2, q3⟩ := h.2 R hR (k / R.s) (k % R.s) (by omega) p2
    rw [p3] at q1
    rw [Array.getElem?_toList, q1] at hu
    simp at hu; subst hu
    exact ⟨q1, q2, q3⟩
  · cases hu

theorem evAppendS_sound {P : Program} {w0 : World} {ρ : Rho} {M M' : Mem} {w : World} (hW : WR w0 ρ M w) {t ty : TypeId} {x y v : AV} {ux uy : Value} (hx : rel ρ x ux) (hy : rel ρ y uy) (he : evAppendS P M t x y = some (v, M')) (hob : owed (obAppend P M t x y)) :
    Does P w0 ρ M' v w (Builtin.append_ #[t, t] ty #[ux, uy]) := by
  unfold evAppendS at he
  unfold obAppend at hob
  cases hse : sliceElem P t with
  | none => simp [hse] at he
  | some es =>
    obtain ⟨e, s⟩ := es
    obtain ⟨hu, hs⟩ := sliceElem_spec hse
    simp only [hse, Option.getD_some] at he hob
    cases hi : P.info? e with
    | none => simp [hi] at he
    | some i =>
      have his : i.size = s := by unfold szT at hs; rw [hi] at hs; simpa using hs
      simp only [hi] at he hob
      cases hz : i.zero with
      | none => simp [hz] at he
      | some z =>
        simp only [hz] at he
        split at he
        · rename_i hzs
          cases hsr : srcA M s y with
          | none => simp [hsr] at he
          | some mc =>
            obtain ⟨m, c⟩ := mc
            simp only [hsr] at he hob
            -- what is appended to nil
            have newBlock : ∀ {M1 : Mem} (hM1 : M1.top = M.top) (hW1 : WR w0 ρ M1 w) (d : Nat → Nat → AV) (ad : Addr) (cy : Nat) (us : List Value), 0 < m → us.length = m * s → (∀ k u, us[k]? = some u → rel ρ (d (k / s) (k % s)) u) → (∀ u ∈ us, u.oneCell' = true) → (∀ j u, us[j]? = some u → w.cell? (ad.add j) = some u) →
                obRoom m i.bytes = true → Does P w0 ρ (M1.push ⟨[], e, some ⟨m, s, d⟩⟩) (.own M.top m s) w (Builtin.append_ #[t, t] ty #[.slice none 0 0, .slice (some ad) m cy]) := by
              intro M1 hM1 hW1 d ad cy us hm0 hul hur h1 huc hrm
              obtain ⟨o1, o2⟩ := obRoom_spec hrm
              have hr := run_append_nil (P := P) w t ty e i z hu hi hz ad m cy us (by rw [his]; exact hul) huc hm0 (by omega) (by omega)
              refine ⟨_, _, _, hW1.drew.fresh _, ?_, hW1.drew.new' ⟨[], e, some ⟨m, s, d⟩⟩ (us := us.toArray ++ Builtin.zeroCells z.cells (grownCap w m 0 e - m)) (holds_rows fun k hk => ?_), hr⟩
              · simp only [rel]
                have hge := grownCap_ge w m 0 e
                refine .inr ⟨_, _, _, by rw [hM1]; exact upd_same _ _ _, rfl, hge, grownCap_le_maxLen w m 0 e (by unfold maxLen; omega), ?_⟩
                simp only [Array.size_append, List.size_toArray, size_zeroCells, hzs, hul, ← Nat.add_mul]
                rw [show m + (grownCap w m 0 e - m) = grownCap w m 0 e by omega]; exact Nat.le_refl _
              · have hk' : k < us.length := by rw [hul]; exact hk
                exact ⟨us[k], by rw [Array.getElem?_append_left (by simpa using hk')]; simp [hk'], hur k _ (List.getElem?_eq_getElem hk'), h1 _ (List.getElem_mem hk')⟩
            split at he
            · -- nil
              simp at he
              obtain ⟨rfl, rfl⟩ := he
              have hob := hob _ rfl
              rw [Bool.and_eq_true] at hob
              obtain ⟨a, cy, us, rfl, hul, hur, h1, hcell⟩ := srcA_sound hW hy hsr hob.1
              simp only [rel] at hx
              subst hx
              rcases Nat.eq_zero_or_pos m with h0 | h0
              · subst h0
                obtain ⟨q1, q2, q3⟩ := hW.virt e s c
                exact ⟨_, .slice none 0 0, w, q1, by simp only [rel]; exact .inl ⟨q2, trivial, trivial⟩, q3, run_append_zero hu hs (Nat.le_refl _) ⟨_, _, rfl⟩ w⟩
              · obtain ⟨ad, rfl, huc⟩ := hcell h0
                exact newBlock rfl hW c ad cy us h0 hul hur h1 huc hob.2
            · rename_i b n s'
              cases hb : M.get b with
              | none => simp [hb] at he
              | some B =>
                cases hR : B.rows with
                | none => simp [hb, hR] at he
                | some R =>
                  simp only [hb, hR] at he hob
                  split at he
                  · rename_i hok
                    obtain ⟨rfl, hRs, hBe⟩ := hok
                    simp at he
                    obtain ⟨rfl, rfl⟩ := he
                    have hob := hob _ rfl
                    rw [Bool.and_eq_true, Bool.and_eq_true, Nat.ble_eq] at hob
                    obtain ⟨hob1, hnR, hrm⟩ := hob
                    obtain ⟨a, cy, us, rfl, hul, hur, h1, hcell⟩ := srcA_sound hW hy hsr hob1
                    obtain ⟨o1, o2⟩ := obRoom_spec hrm
                    have hlt := Mem.get_lt hb
                    have hM : (M.put b none).top = M.top := rfl
                    simp only [rel] at hx
                    rcases hx with ⟨hnil, rfl, rfl⟩ | ⟨g, tot, cap, hg, rfl, hn, hcm, hfit⟩
                    · have happ : ∀ i j, appc 0 R.cell c i j = c i j := fun i j => appc_ge (Nat.zero_le _)
                      rcases Nat.eq_zero_or_pos m with h0 | h0
                      · subst h0
                        obtain ⟨q1, q2, q3⟩ := (hW.die hlt).virt e s' (appc 0 R.cell c)
                        exact ⟨_, .slice none 0 0, w, q1, by simp only [rel]; exact .inl ⟨q2, trivial, trivial⟩, q3, run_append_zero hu hs (Nat.le_refl _) ⟨_, _, rfl⟩ w⟩
                      · obtain ⟨ad, rfl, huc⟩ := hcell h0
                        have := newBlock hM (hW.die hlt) (appc 0 R.cell c) ad cy us h0 hul (fun k u hk => by rw [happ]; exact hur k u hk) h1 huc (by simpa using hrm)
                        simpa only [Nat.zero_add] using this
                    · obtain ⟨q2, cur, q3, q4, q5⟩ := hW.holds hb hg
                      have hns : n * R.s ≤ cur.size := by
                        have := Nat.mul_le_mul_right s' hn
                        rw [hRs, q4]; omega
                      obtain ⟨p1, p2⟩ := own_cells q5 hR hnR hns
                      rw [hRs] at p1 p2
                      rcases Nat.eq_zero_or_pos m with h0 | h0
                      · subst h0
                        have hself := setRow_self q3
                        have hren := hW.renew' hb hg ⟨[], e, some ⟨n + 0, s', appc n R.cell c⟩⟩ hBe.symm (us := cur) q4 (holds_app (us := []) p1 (by simp) (fun k u hk => (p2 k u hk).2) (fun k u hk => by simp at hk) (fun k u hk => by rw [List.append_nil] at hk; exact (p2 k u hk).1))
                        rw [hself] at hren
                        refine ⟨_, .slice (some ⟨g, 0, none⟩) n cap, w, hW.fresh _, ?_, hren, run_append_zero hu hs hn ⟨_, _, rfl⟩ w⟩
                        simp only [rel]
                        exact .inr ⟨g, tot, cap, upd_same _ _ _, rfl, hn, hcm, hfit⟩
                      · obtain ⟨ad, rfl, huc⟩ := hcell h0
                        have hul' : us.length = m * i.size := by rw [his]; exact hul
                        by_cases hroom : n + m ≤ cap
                        · have hmul : (n + m) * s' ≤ cap * s' := Nat.mul_le_mul_right _ hroom
                          rw [Nat.add_mul] at hmul
                          have hfit' : n * i.size + us.length ≤ cur.size := by rw [his, hul]; omega
                          rw [hBe] at q3
                          have hr := run_append_room (P := P) w t ty e i hu hi g n cap cur q3 ad m cy us hul' huc h1 hroom hfit'
                          rw [his] at hr
                          refine ⟨upd ρ M.top (g, tot), _, _, hW.fresh _, ?_, ?_, hr⟩
                          · simp only [rel]
                            exact .inr ⟨g, tot, cap, upd_same _ _ _, rfl, hroom, hcm, hfit⟩
                          · refine hW.renew' hb hg ⟨[], e, some ⟨n + m, s', appc n R.cell c⟩⟩ hBe.symm (by simp; omega) (holds_app p1 hul (fun k u hk => (p2 k u hk).2) (fun k u hk => ⟨hur k u hk, h1 u (List.mem_of_getElem? hk)⟩) (fun k u hk => ?_))
                            have hkl := (List.getElem?_eq_some_iff.1 hk).1
                            rw [List.getElem?_toArray, List.getElem?_append_left hkl]
                            exact hk
                        · have hr := run_append_grow (P := P) w t ty e i z hu hi hz ⟨g, 0, none⟩ n cap (cur.toList.take (n * s')) (by rw [p1, his]) (fun j u hj => by rw [add_at, cell_at q3, Nat.zero_add]; exact (p2 j u hj).1) ad m cy us hul' huc (by omega) (by omega) (growslice_fits (by omega) o1)
                          have hWd := hW.drew.die hlt
                          refine ⟨_, _, _, hWd.fresh _, ?_, hWd.new' ⟨[], e, some ⟨n + m, s', appc n R.cell c⟩⟩ (us := (cur.toList.take (n * s')).toArray ++ us.toArray ++ Builtin.zeroCells z.cells (grownCap w (n + m) cap e - (n + m))) (holds_app p1 hul (fun k u hk => (p2 k u hk).2) (fun k u hk => ⟨hur k u hk, h1 u (List.mem_of_getElem? hk)⟩) (fun k u hk => ?_)), hr⟩
                          · simp only [rel]
                            have hge := grownCap_ge w (n + m) cap e
                            refine .inr ⟨_, _, _, by rw [hM]; exact upd_same _ _ _, rfl, hge, grownCap_le_maxLen w (n + m) cap e (by unfold maxLen; omega), ?_⟩
                            simp only [Array.size_append, List.size_toArray, size_zeroCells, hzs, hul, p1, ← Nat.add_mul]
                            rw [show n + m + (grownCap w (n + m) cap e - (n + m)) = grownCap w (n + m) cap e by omega]; exact Nat.le_refl _
                          · have hkl := (List.getElem?_eq_some_iff.1 hk).1
                            rw [Array.getElem?_append_left (by simpa using hkl)]
                            simpa using hk
                  · cases he
            · cases he
        · cases he

/-- a slice of known cells, as one of rows -/
noncomputable def slRows (M : Mem) (x : AV) : Option (Mem × AV) := match x with
  | .sl b o n c s => match M.get b with
    | some B => match Nat.beq o 0 && (Nat.beq B.cells.length (n * s) && (B.cells.all oneA && B.rows.isNone)) with
      | true => some (M.put b (some ⟨[], B.elem, some ⟨n, s, fun i j => getA B.cells (i * s + j)⟩⟩), .own b n s)
      | false => none
    | none => none
  | _ => none
theorem slRows_grow {M M1 : Mem} {x x1 : AV} (h : slRows M x = some (M1, x1)) : Grow M M1 := by
  unfold slRows at h
  split at h
  · split at h
    · split at h
      · simp at h; rw [← h.1]; exact Grow.put _ _ _
      · cases h
    · cases h
  · cases h
theorem slRows_sound {w0 : World} {ρ : Rho} {M M1 : Mem} {w : World} (hW : WR w0 ρ M w) {x x1 : AV} {ux : Value} (hx : rel ρ x ux) (h : slRows M x = some (M1, x1)) : WR w0 ρ M1 w ∧ rel ρ x1 ux := by
  unfold slRows at h
  split at h
  · rename_i b o n c s
    split at h
    · rename_i B hb
      split at h
      · rename_i hc
        simp only [Bool.and_eq_true] at hc
        obtain ⟨h0, hl, ho, _⟩ := hc
        have h0 := Nat.eq_of_beq_eq_true h0
        have hl := Nat.eq_of_beq_eq_true hl
        subst h0
        simp at h
        obtain ⟨rfl, rfl⟩ := h
        simp only [rel] at hx
        obtain ⟨g, tot, cap, hg, rfl, h1, h2, _, h3⟩ := hx
        obtain ⟨q2, cur, q3, q4, q5⟩ := hW.holds hb hg
        have hH : Holds ρ ⟨[], B.elem, some ⟨n, s, fun i j => getA B.cells (i * s + j)⟩⟩ cur := ⟨fun i v hv => by simp at hv, fun R hR i j hi hj => by
          simp at hR; subst hR
          simp only at hi hj ⊢
          have hlt : i * s + j < B.cells.length := by rw [hl]; exact place_lt hi hj
          have hv : B.cells[i * s + j]? = some B.cells[i * s + j] := List.getElem?_eq_getElem hlt
          obtain ⟨u, r1, r2⟩ := q5.1 _ _ hv
          have hgt : getA B.cells (i * s + j) = B.cells[i * s + j] := by unfold getA; rw [nth_eq, hv]
          rw [hgt]
          exact ⟨u, r1, r2, r2.one (List.all_eq_true.1 ho _ (List.getElem_mem _))⟩⟩
        have := hW.set' hb hg ⟨[], B.elem, some ⟨n, s, fun i j => getA B.cells (i * s + j)⟩⟩ rfl q4 hH
        rw [setRow_self q3] at this
        refine ⟨this, ?_⟩
        simp only [rel]
        exact .inr ⟨g, tot, cap, hg, rfl, h1, h2, by omega⟩
      · cases h
    · cases h
  · cases h
noncomputable def evAppendT (P : Program) (M : Mem) (t : TypeId) (x y : AV) : Option (AV × Mem) := match slRows M x with
  | some Mx => evAppendS P Mx.1 t Mx.2 y
  | none => evAppendS P M t x y
noncomputable def obAppendT (P : Program) (M : Mem) (t : TypeId) (x y : AV) : Option Bool := match slRows M x with
  | some Mx => obAppend P Mx.1 t Mx.2 y
  | none => obAppend P M t x y
theorem evAppendT_sound {P : Program} {w0 : World} {ρ : Rho} {M M' : Mem} {w : World} (hW : WR w0 ρ M w) {t ty : TypeId} {x y v : AV} {ux uy : Value} (hx : rel ρ x ux) (hy : rel ρ y uy) (he : evAppendT P M t x y = some (v, M')) (hob : owed (obAppendT P M t x y)) :
    Does P w0 ρ M' v w (Builtin.append_ #[t, t] ty #[ux, uy]) := by
  unfold evAppendT at he
  unfold obAppendT at hob
  split at he
  · rename_i Mx hr
    simp only [hr] at hob
    obtain ⟨h1, h2⟩ := slRows_sound hW hx (M1 := Mx.1) (x1 := Mx.2) hr
    exact evAppendS_sound h1 h2 hy he hob
  · rename_i hr
    simp only [hr] at hob
    exact evAppendS_sound hW hx hy he hob

/-! ### A long slice that is made, as one of rows (so that it may be written at a place that is not known) -/
/-- the cells of what is made -/
def mkc (z : Value) (_ j : Nat) : AV := .lit (z.cells[j]!)
def evMake2 (P : Program) (M : Mem) (t : TypeId) (l c : Value) : Option (AV × Mem) := match sliceElem P t, P.info? ((sliceElem P t).getD (0, 0)).1, l, c with
  | some (e, s), some i, .int _ (.ofNat n), .int _ (.ofNat m) =>
    if 16 ≤ n ∧ m = n then
      match i.zero with
      | none => none
      | some z => if n * i.bytes ≤ 140737488355328 ∧ n ≤ 17592186044416 ∧ z.cells.size = s ∧ z.cells.toList.all Value.oneCell' = true then
          some (.own M.top n s, M.push ⟨[], e, some ⟨n, s, mkc z⟩⟩)
        else none
    else evMake P M t l c
  | _, _, _, _ => none
theorem evMake2_sound {P : Program} {w0 : World} {ρ : Rho} {M M' : Mem} {w : World} (hW : WR w0 ρ M w) {t : TypeId} {l c : Value} {v : AV} (he : evMake2 P M t l c = some (v, M')) : Does P w0 ρ M' v w (Instr.makeSlice t l c) := by
  unfold evMake2 at he
  split at he
  · rename_i e s i kl n kc m hse hi
    split at he
    · rename_i hnm
      obtain ⟨hn16, rfl⟩ := hnm
      obtain ⟨hu, hs⟩ := sliceElem_spec hse
      simp only [hse, Option.getD_some] at hi
      have his : i.size = s := by unfold szT at hs; rw [hi] at hs; simpa using hs
      split at he
      · cases he
      · rename_i z hz
        split at he
        · rename_i hok
          obtain ⟨o1, o2, o3, o4⟩ := hok
          simp only [Option.some.injEq, Prod.mk.injEq] at he
          obtain ⟨rfl, rfl⟩ := he
          have hr := run_make hu hi hz kl kc m m (Nat.le_refl m) o1 o2 w
          rw [his] at hr
          refine ⟨_, _, _, hW.fresh _, ?_, hW.new' ⟨[], e, some ⟨m, s, mkc z⟩⟩ ⟨fun j x hx => by simp at hx, fun R hR j k hj hk => ?_⟩, hr⟩
          · simp only [rel]
            exact .inr ⟨_, _, m, upd_same _ _ _, rfl, Nat.le_refl _, by unfold maxLen; omega, by simp⟩
          · simp only [Option.some.injEq] at hR
            subst hR
            simp only at hj hk
            have hlt : j * s + k < m * s := by
              have : (j + 1) * s ≤ m * s := Nat.mul_le_mul (by omega) (Nat.le_refl _)
              rw [Nat.add_mul, Nat.one_mul] at this
              omega
            have hmod : (j * s + k) % z.cells.size = k := by
              rw [o3, Nat.add_comm, Nat.add_mul_mod_self_right, Nat.mod_eq_of_lt hk]
            refine ⟨z.cells[k]!, ?_, by simp only [rel, mkc], ?_⟩
            · rw [Array.getElem?_map, Array.getElem?_range, if_pos hlt]
              simp [hmod]
            · have hk2 : k < z.cells.size := by omega
              rw [getElem!_pos z.cells k hk2]
              exact List.all_eq_true.1 o4 _ (by simp)
        · cases he
    · exact evMake_sound hW he
  · cases he
end Go.Proofs.YtmlhipckgmbpfaaGreat.Sy
