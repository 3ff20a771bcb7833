/-
  Lemmas for QueryTexts, part 3; no conditions.
-/
import Derived.Test.YtlmanlpgknhfpaaRows
import Derived.ProofKit
import Derived.SizedLaws
import Derived.Deep.Slices
import Derived.Lib.SmallJoins
import Derived.Test.YtlmanlpgknhfpaaProg
import Derived.Test.YtlmanlpgknhfpaaQtxB
set_option linter.unusedVariables false
set_option linter.unusedSimpArgs false
namespace Go.Proofs.Ytlmanlpgknhfpaa
open Go.RowKit Go.ChangeShapes Go.WideShapes Go.ChangeAt Go.Deep
theorem own : ownKnob Try.prog.godebug = none := by kernel_rfl
theorem laidOut : laidOutB Try.prog = true := by kernel_rfl
section
variable {H : Type} {enc : TypeId × Value → H} {P : Program}
theorem trodAll_below (hl : laidOutB P = true) {W W' : World} (hb : Below W.heap.size W W') : ∀ (ts : List TypeId) (vs : List Value) (ds : List (DataW H)) (ps : List MemPlace),
    (∀ t ∈ ts, P.readableRec t = true ∧ t < P.types.size) → DataW.TrodAll enc P W 0 (fun _ => true) true ts vs ds ps → (∀ x ∈ ps, x.block < W.heap.size) →
    DataW.TrodAll enc P W' 0 (fun b => decide (b < W.heap.size)) true ts vs ds ps
  | [], [], [], ps, _, h, _ => h
  | t :: ts, v :: vs, d :: ds, ps, hr, h, hlt => by
    obtain ⟨p, q, h1, h2, rfl⟩ := h
    obtain ⟨r1, r2⟩ := hr t (by simp)
    exact ⟨p, q, Below.trod hl r1 r2 h1 hb (fun x hx => hlt x (by simp [hx])), trodAll_below hl hb ts vs ds q (fun t ht => hr t (by simp [ht])) h2 (fun x hx => hlt x (by simp [hx])), rfl⟩
  | [], _ :: _, _, _, _, h, _ => h.elim
  | [], [], _ :: _, _, _, h, _ => h.elim
  | _ :: _, [], _, _, _, h, _ => h.elim
  | _ :: _, _ :: _, [], _, _, h, _ => h.elim
theorem trodAll_len {W : World} {base : Nat} {sp : Nat → Bool} {hd : Bool} : ∀ (ts : List TypeId) (vs : List Value) (ds : List (DataW H)) (ps : List MemPlace), DataW.TrodAll enc P W base sp hd ts vs ds ps → ds.length = ts.length
  | [], [], [], _, _ => rfl
  | t :: ts, v :: vs, d :: ds, ps, h => by
    obtain ⟨p, q, _, h2, _⟩ := h
    simp [trodAll_len ts vs ds q h2]
  | [], _ :: _, _, _, h => h.elim
  | [], [], _ :: _, _, h => h.elim
  | _ :: _, [], _, _, h => h.elim
  | _ :: _, _ :: _, [], _, h => h.elim
theorem law_lifted {C : Checked} {os : Os} {f : FuncId} {fn : Func} {s : ChangeSpec} {tb : TypeId}
    (own : ownKnob C.prog.godebug = none) (started : os.Started) (noInit : C.prog.inits.idxOf? f = none) (hfn : C.prog.funcs[f]? = some fn) (hlaid : laidOutB C.prog = true)
    (witness : ∃ (w : World) (tape : Tape) (i : Input), w.os = os ∧ (w.forCall tape i).Shaped C.prog ∧ i.vars = [] ∧ Input.okWide C.prog (w.forCall tape i) .any w.heap.size f i ∧
      s.pre6 enc C.prog fn [] false (w.forCall tape i).memory i.args ∧ ({} : Assume).holds C.prog (lone (Frame.enter C.prog f i.args .normal) [] (w.forCall tape i)))
    (hres : fn.resultTypes = #[tb]) (hb : C.prog.underlying tb = some .bool) (hv : s.vars = [])
    (hspec : ∀ ds : List (DataW H), ds.length = fn.params.toList.length → (s.fn H ds).results = [.lit (.bool true)] ∧ (s.fn H ds).args = ds ∧ (s.fn H ds).vars = [])
    (hreadB : fn.params.toList.all (fun t => C.prog.readableRec t && decide (t < C.prog.types.size)) = true)
    (contract : ∀ (W : World) (base : Nat) (args : Array Value) (ds : List (DataW H)) (p : List MemPlace),
      (∀ (j : Nat) t v, fn.params[j]? = some t → args[j]? = some v → Value.okWide C.prog W .any base t v) →
      DataW.TrodAll enc C.prog W 0 (fun _ => true) true fn.params.toList args.toList ds p → (∀ x ∈ p, x.block < W.heap.size) →
      (DataW.weightsEach C.prog fn.params.toList ds).all (· ≤ reachBytes) = true →
      Calls C.prog f args W fun e W' => e = .returned (.bool true) ∧ Below W.heap.size W W') :
    ReturnsInHanded {} C os f .any (s.pre6 enc C.prog fn [] false) (s.post enc C.prog fn false true false false) := by
  have hread : ∀ t ∈ fn.params.toList, C.prog.readableRec t = true ∧ t < C.prog.types.size := fun t ht => by
    have := List.all_eq_true.1 hreadB t ht
    simpa using this
  refine returnsInHanded_of_change_sized own started noInit hfn witness ?_
  intro W base args ds gs before hval hW _ hsz _
  have hW' := hW
  obtain ⟨p, q, hA, hV, hpq, _, _⟩ := hW
  have hpl : ∀ x ∈ p, x.block < W.heap.size := fun x hx => hW'.lt x (by rw [hpq]; simp [hx])
  rw [hv] at hV
  obtain ⟨hgs, hq⟩ : gs = [] ∧ q = [] := by
    cases gs with
    | nil => exact ⟨rfl, hV⟩
    | cons _ _ => exact hV.elim
  subst hgs
  have hvt : s.plain.varTypes C.prog = [] := by
    have : s.plain.vars = [] := hv
    unfold DataSpec.varTypes
    rw [this]; rfl
  rw [hvt, List.append_nil, List.append_nil] at hsz
  have hlen : ds.length = fn.params.toList.length := trodAll_len _ _ _ _ hA
  obtain ⟨s1, s2, s3⟩ := hspec ds hlen
  refine (contract W base args ds p hval hA hpl hsz).mono fun e W' ⟨he, hbl⟩ => ?_
  subst he
  refine ⟨_, rfl, ds, [], before, [], p, [], hW', ?_, ?_, ?_, hbl.frame _, fun h => by cases h⟩
  · rw [List.append_nil, s1, hres]
    exact trodAll_mk1 (shut_bool hb _)
  · rw [List.append_nil, s2]
    exact trodAll_below hlaid hbl _ _ _ _ hread hA hpl
  · rw [List.append_nil, s3, hv]
    rfl
end
end Go.Proofs.Ytlmanlpgknhfpaa
namespace Go.Proofs.Ytlmanlpgknhfpaa
open Go.RowKit Go.ChangeShapes Go.WideShapes Go.ChangeAt Go.Deep
structure TokV where
  kind : Int
  text : ByteArray
  n : Int
def TokV.cells (t : TokV) : List Value := [.int .i64 t.kind, .string t.text, .int .i64 t.n]
theorem TokV.len (y : TokV) : y.cells.length = 3 := rfl
abbrev RToks := Rows TokV.cells 3
theorem RToks.at {w : World} {a : Option Addr} {cap : Nat} {l : List TokV} (h : RToks w a cap l) (hne : l ≠ []) :
    ∃ b off, a = some ⟨b, off, none⟩ ∧ b < w.heap.size ∧ ∀ k (hk : k < l.length),
      w.cell? ⟨b, off + k * 3, none⟩ = some (.int .i64 l[k].kind) ∧ w.cell? ⟨b, off + k * 3 + 1, none⟩ = some (.string l[k].text) ∧ w.cell? ⟨b, off + k * 3 + 2, none⟩ = some (.int .i64 l[k].n) := by
  obtain ⟨b, off, ha, hlt, hc⟩ := h.base hne
  exact ⟨b, off, ha, hlt, fun k hk => ⟨hc k hk 0 _ rfl, hc k hk 1 _ rfl, hc k hk 2 _ rfl⟩⟩
def kindsT (l : List TokV) : List Int := l.map TokV.kind
instance : Inhabited TokV := ⟨⟨0, ⟨#[]⟩, 0⟩⟩
section
variable {H : Type} {enc : TypeId × Value → H} {W : World} {p : List MemPlace}
end
end Go.Proofs.Ytlmanlpgknhfpaa
namespace Go.Proofs.Ytlmanlpgknhfpaa
namespace Pl
def clo (k : Int) : Int := if k = 13 ∨ k = 2 then 14 else if k = 15 then 16 else if k = 17 then 18 else 0
theorem clo_cases (k : Int) : clo k = 0 ∨ clo k = 14 ∨ clo k = 16 ∨ clo k = 18 := by
  unfold clo
  split
  · exact .inr (.inl rfl)
  · split
    · exact .inr (.inr (.inl rfl))
    · split
      · exact .inr (.inr (.inr rfl))
      · exact .inl rfl
theorem clo_nonneg (k : Int) : 0 ≤ clo k := by rcases clo_cases k with e | e | e | e <;> omega
def run (K : List Int) : (fuel k : Nat) → List Int → Nat
  | 0, k, _ => K.length
  | f + 1, k, st => if h : k < K.length then
      if clo K[k] ≠ 0 then run K f (k + 1) (clo K[k] :: st)
      else match st with
        | [] => run K f (k + 1) []
        | c :: r => if K[k] = c then (match r with | [] => k | _ :: _ => run K f (k + 1) r) else run K f (k + 1) (c :: r)
    else K.length
def runs (K : List Int) (k : Nat) (st : List Int) : Nat := run K (K.length - k) k st
theorem runs_end {K : List Int} {k : Nat} (st : List Int) (h : K.length ≤ k) : runs K k st = K.length := by
  unfold runs
  rw [show K.length - k = 0 by omega]; rfl
theorem runs_step {K : List Int} {k : Nat} (st : List Int) (h : k < K.length) : runs K k st =
    if clo K[k] ≠ 0 then runs K (k + 1) (clo K[k] :: st)
    else match st with
      | [] => runs K (k + 1) []
      | c :: r => if K[k] = c then (match r with | [] => k | _ :: _ => runs K (k + 1) r) else runs K (k + 1) (c :: r) := by
  unfold runs
  rw [show K.length - k = (K.length - (k + 1)) + 1 by omega]
  simp only [run, h, dif_pos]
theorem runs_le (K : List Int) : ∀ (m k : Nat) (st : List Int), K.length - k ≤ m → runs K k st ≤ K.length ∧ (k ≤ K.length → k ≤ runs K k st) := by
  intro m
  induction m with
  | zero =>
    intro k st h
    rw [runs_end st (by omega)]; omega
  | succ m ih =>
    intro k st h
    by_cases hk : k < K.length
    · rw [runs_step st hk]
      split
      · have := ih (k + 1) (clo K[k] :: st) (by omega); omega
      · split
        · have := ih (k + 1) [] (by omega); omega
        · split
          · split
            · omega
            · rename_i x y
              have := ih (k + 1) (x :: y) (by omega); omega
          · rename_i c r _
            have := ih (k + 1) (c :: r) (by omega); omega
    · rw [runs_end st (by omega)]; omega
def mtc (K : List Int) (i : Int) : Int := if h : 0 ≤ i ∧ i < K.length then (if clo (K[i.toNat]'(by omega)) = 0 then i else runs K (i.toNat + 1) [clo (K[i.toNat]'(by omega))]) else i
end Pl
end Go.Proofs.Ytlmanlpgknhfpaa
namespace Go.Proofs.Ytlmanlpgknhfpaa
open Go.RowKit Pl
theorem iInts : SliceT Try.prog 97 3 1 8 (.int .i64 0) :=
  ⟨Try.underlying97, by obtain ⟨i0, hi, hz0, hz1, hz2⟩ := info_parts (show (Try.prog.info? 3).map (fun i => (i.zero, i.size, i.bytes)) = some (some (.int .i64 0), 1, 8) by kernel_rfl); exact ⟨i0, hi, hz0, hz1, hz2⟩, rfl, by decide⟩
theorem closing_p (k : Int) (w : World) : Calls Try.prog 90 #[.int .i64 k] w fun e w' => e = .returned (.int .i64 (clo k)) ∧ w = w' := by
  have HC := Lib.hid (show clo k = if k = 13 ∨ k = 2 then 14 else if k = 15 then 16 else if k = 17 then 18 else 0 from rfl)
  generalize clo k = c at *
  go_enter Try.func90, Try.ntmps90
  go_wp2
  all_goals
    go_ret
    exact ⟨ret_int (by rw [HC.out]; simp_all), rfl⟩
theorem kindsT_get {l : List TokV} {k : Nat} (h : k < l.length) : (kindsT l)[k]'(by simpa [kindsT] using h) = l[k].kind := by simp [kindsT]
theorem kindsT_len (l : List TokV) : (kindsT l).length = l.length := by simp [kindsT]
theorem mt_out {l : List TokV} {i : Int} (h : i < 0 ∨ (l.length : Int) ≤ i) : mtc (kindsT l) i = i := by
  unfold mtc
  rw [dif_neg (by rw [kindsT_len]; omega)]
theorem mt_none {l : List TokV} {i : Nat} (h : i < l.length) (h0 : clo l[i].kind = 0) : mtc (kindsT l) i = i := by
  unfold mtc
  rw [dif_pos ⟨by omega, by rw [kindsT_len]; omega⟩]
  simp only [Int.toNat_natCast, kindsT_get h, h0, if_true]
theorem mt_some {l : List TokV} {i : Nat} (h : i < l.length) (h0 : clo l[i].kind ≠ 0) : mtc (kindsT l) i = runs (kindsT l) (i + 1) [clo l[i].kind] := by
  unfold mtc
  rw [dif_pos ⟨by omega, by rw [kindsT_len]; omega⟩]
  simp only [Int.toNat_natCast, kindsT_get h, h0, if_false]
theorem own_cut {w : World} {base : Nat} {e : TypeId} {g cap n k : Nat} {xs : List Value} (h : w.ownsRow base e 1 (.slice (some ⟨g, 0, none⟩) n cap) n xs) (hk : k ≤ n) : w.ownsRow base e 1 (.slice (some ⟨g, 0, none⟩) k cap) k (xs.take k) := by
  obtain ⟨h1, h2⟩ := h
  refine ⟨by simp; omega, ?_⟩
  rcases h2 with ⟨h2, _⟩ | ⟨g', cap', cur, e1, hb, hg, hn, hm, hs, ht⟩
  · cases h2
  · simp at e1
    obtain ⟨rfl, rfl⟩ := e1
    refine .inr ⟨g, cap, cur, rfl, hb, hg, by omega, hm, hs, ?_⟩
    rw [← ht, List.take_take]
    congr 1; omega
theorem own_grow {w w' : World} {base : Nat} {e : TypeId} {s n : Nat} {v : Value} {xs : List Value} (h : w.ownsRow base e s v n xs) (hb : Below w.heap.size w w') : w'.ownsRow base e s v n xs := by
  obtain ⟨h1, h2⟩ := h
  refine ⟨h1, ?_⟩
  rcases h2 with h2 | ⟨g, cap, cur, rfl, hg, hc, r⟩
  · exact Or.inl h2
  · exact Or.inr ⟨g, cap, cur, rfl, hg, (hb.block g (Array.getElem?_eq_some_iff.1 hc).1).trans hc, r⟩
def Open (K : List Int) (i : Nat) (r : Nat) (k : Nat) (os : List Int) : Prop := (k = i ∧ os = []) ∨ (os ≠ [] ∧ i < k ∧ runs K k os.reverse = r ∧ os.length ≤ k - i)
set_option maxHeartbeats 2000000 in
theorem match_p {w : World} {a : Option Addr} {cap : Nat} {l : List TokV} (hl : RToks w a cap l) (i : Int) :
    Calls Try.prog 86 #[.slice a l.length cap, .int .i64 i] w fun e w' => e = .returned (.int .i64 (mtc (kindsT l) i)) ∧ Below w.heap.size w w' := by
  have hsm := hl.sm
  by_cases hneg : i < 0
  · have HV := Lib.hid (mt_out (l := l) (.inl hneg))
    have d1 : decide (i < 0) = true := by simpa using hneg
    clear hl hneg
    go_enter Try.func86, Try.ntmps86
    go_wp2_with fail
    go_ret
    exact ⟨ret_int HV.out.symm, Below.refl _ _⟩
  have d1 : decide (i < 0) = false := by simpa using hneg
  by_cases hbig : (l.length : Int) ≤ i
  · have HV := Lib.hid (mt_out (l := l) (.inr hbig))
    have d2 : decide ((l.length : Int) ≤ i) = true := by simpa using hbig
    clear hl hneg hbig
    go_enter Try.func86, Try.ntmps86
    go_wp2_with fail
    go_ret
    exact ⟨ret_int HV.out.symm, Below.refl _ _⟩
  obtain ⟨m, rfl⟩ := Int.eq_ofNat_of_zero_le (show 0 ≤ i by omega)
  have hm : m < l.length := by omega
  have d1 : decide ((m : Int) < 0) = false := by simp
  have d2 : decide ((l.length : Int) ≤ (m : Int)) = false := by simp; omega
  have d3 : decide (l.length ≤ m) = false := by simp; omega
  clear hneg hbig
  obtain ⟨b, off, rfl, hb, hc⟩ := hl.at (fun e => by rw [e] at hm; simp at hm)
  have HCl := Lib.hid hc
  obtain ⟨c0, _, _⟩ := hc m hm
  clear hc hl
  by_cases h0 : clo l[m].kind = 0
  · have HV := Lib.hid (mt_none hm h0)
    have HC := Lib.hid (fun w => by have := closing_p l[m].kind w; rw [h0] at this; exact this)
    clear h0
    generalize l[m].kind = kd at *
    go_enter Try.func86, Try.ntmps86
    go_wp2_with (go_at_call 90; refine (HC.out _).mono ?_; rintro e w' ⟨rfl, rfl⟩)
    go_ret
    exact ⟨ret_int HV.out.symm, Below.refl _ _⟩
  have HV := Lib.hid (mt_some hm h0)
  have HC := Lib.hid (fun w => closing_p l[m].kind w)
  have z0 : (clo l[m].kind == 0) = false := by simpa using h0
  have hKl := kindsT_len l
  have hstart : Hid (Open (kindsT l) m (runs (kindsT l) (m + 1) [clo l[m].kind]) m []) := Or.inl ⟨rfl, rfl⟩
  generalize hR : runs (kindsT l) (m + 1) [clo l[m].kind] = R at *
  have HR := Lib.hid hR
  have HKL := Lib.hid hKl
  have h0' := Lib.hid h0
  clear hR hKl h0
  generalize hkd : l[m].kind = kd at *
  have HKD := Lib.hid hkd
  clear hkd
  go_enter Try.func86, Try.ntmps86
  go_wp2_with (go_at_call 90; refine (HC.out _).mono ?_; rintro e w' ⟨rfl, rfl⟩)
  go_loopw [5, 6] (fun v t wr => ∃ (k : Nat) (os : List Int), t = .int .i64 k ∧ k ≤ l.length ∧ wr.ownsRow w.heap.size 3 1 v os.length (os.map (.int .i64)) ∧ Hid (Open (kindsT l) m R k os) ∧ Below w.heap.size w wr) (fun _ t _ => l.length - (intOf t).toNat)
  case atStart => exact ⟨m, [], rfl, by omega, World.ownsRow_nil _ _ _ _, hstart, Below.refl _ _⟩
  case round =>
    clear hstart HC z0 c0
    obtain ⟨k, os, rfl, hk, hown, hO, hbl⟩ := hrel
    have hol : os.length ≤ k := by 
      rcases hO.out with ⟨_, h4⟩ | ⟨_, _, _, h4⟩
      · rw [h4]; exact Nat.zero_le _
      · omega
    by_cases hlt : k < l.length
    · have e1 : decide ((k : Int) < (l.length : Int)) = true := by simp; omega
      obtain ⟨q0, _, _⟩ := HCl.out k hlt
      have q1 := (hbl.cell (p := ⟨b, off + k * 3, none⟩) hb).trans q0
      have hbw := Nat.lt_of_lt_of_le hb hbl.size
      have HC := Lib.hid (fun w => closing_p l[k].kind w)
      have hkK : k < (kindsT l).length := by rw [kindsT_len]; exact hlt
      have HK : Hid ((kindsT l)[k]'hkK = l[k].kind) := kindsT_get hlt
      have HS := Lib.hid (fun st => runs_step (K := kindsT l) (k := k) st hkK)
      have hcn := clo_nonneg l[k].kind
      by_cases h1 : clo l[k].kind = 0
      · 
        have z1 : decide (0 < clo l[k].kind) = false := by rw [h1]; rfl
        have hne : os ≠ [] := by
          rcases hO.out with ⟨rfl, rfl⟩ | ⟨o1, _⟩
          · exact absurd (by rw [← HKD.out]; exact h1) h0'.out
          · exact o1
        obtain ⟨os', top, rfl⟩ : ∃ os' top, os = os' ++ [top] := ⟨os.dropLast, os.getLast hne, (List.dropLast_concat_getLast hne).symm⟩
        have hO1 : m < k ∧ runs (kindsT l) k (top :: os'.reverse) = R ∧ os'.length + 1 ≤ k - m := by
          rcases hO.out with ⟨_, h⟩ | ⟨_, o2, o3, o4⟩
          · exact absurd h hne
          · simp at o3 o4; exact ⟨o2, o3, o4⟩
        have HO1 := Lib.hid hO1
        obtain ⟨g, cp, cur, rfl, hg0, hgc, htk, hncap, _, hsz⟩ := own_block hown (by simp)
        have q2 : wr.cell? ⟨g, os'.length, none⟩ = some (.int .i64 top) := by
          have h2 : (cur.toList.take ((os' ++ [top]).length * 1))[os'.length]? = some (.int .i64 top) := by rw [htk]; simp
          rw [List.getElem?_take] at h2
          split at h2
          · simpa [World.cell?, hgc] using h2
          · cases h2
        have hgw : g < wr.heap.size := (Array.getElem?_eq_some_iff.1 hgc).1
        have hol2 : os'.length + 1 ≤ k := by simpa using hol
        have hlen1 : (os' ++ [top]).length = os'.length + 1 := by simp
        have hcut := own_cut (k := os'.length) hown (by simp)
        rw [hlen1] at hncap hown
        have hncap' : os'.length + 1 ≤ cp := hncap
        rw [hlen1]
        have HOw := Lib.hid hown
        have hcut' : wr.ownsRow w.heap.size 3 1 (.slice (some ⟨g, 0, none⟩) os'.length cp) os'.length (os'.map (.int .i64)) := by simpa using hcut
        have HCut := Lib.hid hcut'
        clear hcut'
        have HE := Lib.hid h1
        clear hne hO hO1 hgc htk hsz hncap hcut hown hol q0 h1 hlen1
        have p1 : (0 : Int) ≤ (k : Int) := by omega
        have p2 : (k : Int) < (l.length : Int) := by omega
        have p3 : (0 : Int) ≤ (os'.length : Int) := by omega
        have p4 : (os'.length : Int) < (os'.length : Int) + 1 := by omega
        generalize hkk : l[k].kind = kk at *
        by_cases heq : kk = top
        · subst heq
          have HT : Hid ((os' = [] → (mtc (kindsT l) m = (k : Int))) ∧ (os' ≠ [] → Open (kindsT l) m R (k + 1) os')) := by
            have hr := HO1.out.2.1
            rw [HS.out, HK.out, HE.out, if_neg (by simp)] at hr
            simp only [if_true] at hr
            have h9 := HO1.out
            refine ⟨fun e => ?_, fun e => Or.inr ⟨e, by omega, ?_, by omega⟩⟩
            · subst e
              rw [HV.out, ← hr]; rfl
            · cases hrev : os'.reverse with
              | nil => simp at hrev; exact absurd hrev e
              | cons x xs => rw [hrev] at hr; exact hr
          clear HS HK hkK
          go_wp2_with (go_at_call 90; refine (HC.out _).mono ?_; rintro e w' ⟨rfl, rfl⟩)
          refine wp_region_ext (by kernel_rfl) (by kernel_rfl) ?_
          repeat (go_big_quiet_step (fail))
          refine wpQuiet_nil ?_
          rintro _ ⟨u, rfl⟩
          have hbx := wext_below wr u
          by_cases hos : os' = []
          · have hF := Lib.hid (HT.out.1 hos)
            subst hos
            go_wp2_with fail
            go_ret
            exact ⟨ret_int hF.out.symm, hbl.trans (hbx.mono hbl.size)⟩
          · have hO3 := Lib.hid (HT.out.2 hos)
            have z3 : ((os'.length : Int) == 0) = false := by simp; exact hos
            have hpos : 0 < os'.length := List.length_pos_iff.2 hos
            go_wp2_with fail
            go_roundw
            case rel => exact ⟨k + 1, os', by simp, hlt, own_grow HCut.out hbx, hO3, hbl.trans (hbx.mono hbl.size)⟩
            case measure => simp [intOf] <;> omega
        · have z4 : (kk == top) = false := by simpa using heq
          have hO3 : Hid (Open (kindsT l) m R (k + 1) (os' ++ [top])) := by
            have hr := HO1.out.2.1
            rw [HS.out, HK.out, HE.out, if_neg (by simp)] at hr
            simp only [if_neg heq] at hr
            have h9 := HO1.out
            exact Or.inr ⟨by simp, by omega, by simpa using hr, by simp; omega⟩
          clear HS HK hkK
          go_wp2_with (go_at_call 90; refine (HC.out _).mono ?_; rintro e w' ⟨rfl, rfl⟩)
          refine wp_region_ext (by kernel_rfl) (by kernel_rfl) ?_
          repeat (go_big_quiet_step (fail))
          refine wpQuiet_nil ?_
          rintro _ ⟨u, rfl⟩
          have hbx := wext_below wr u
          go_wp2_with fail
          go_roundw
          case rel => exact ⟨k + 1, os' ++ [top], by simp, hlt, by simpa using own_grow HOw.out hbx, hO3, hbl.trans (hbx.mono hbl.size)⟩
          case measure => simp [intOf] <;> omega
      · have z1 : decide (0 < clo l[k].kind) = true := by simp; omega
        have HO2 : Hid (Open (kindsT l) m R (k + 1) (os ++ [clo l[k].kind])) := by
          rcases hO.out with ⟨rfl, rfl⟩ | ⟨o1, o2, o3, o4⟩
          · refine Or.inr ⟨by simp, by omega, ?_, by simp⟩
            rw [← HR.out, ← HKD.out]; rfl
          · refine Or.inr ⟨by simp, by omega, ?_, by simp; omega⟩
            rw [← o3, HS.out, List.reverse_append, HK.out, if_pos h1]; rfl
        have h1' := Lib.hid h1
        clear HS HK
        clear q0 h1 hkK
        generalize l[k].kind = kk at *
        generalize clo kk = ck at *
        go_wp2_with (first
          | (go_at_call 90; refine (HC.out _).mono ?_; rintro e w' ⟨rfl, rfl⟩)
          | (at_builtin; refine wpList_app 97 3 1 8 _ iInts rfl _ _ rfl w.heap.size _ _ _ rfl hown 1 #[.int .i64 ck] rfl rfl (by simp; rfl) (by omega) (by omega) hbl.size ?_; intro v' w1 hown1 hb1; clear hown))
        go_roundw
        case rel => exact ⟨k + 1, os ++ [ck], by simp, hlt, by simpa using hown1, HO2, hbl.trans hb1⟩
        case measure => simp [intOf] <;> omega
    · obtain rfl : k = l.length := by omega
      have HF : Hid (mtc (kindsT l) m = (l.length : Int)) := by
        rw [Hid, HV.out]
        rcases hO.out with ⟨h1, rfl⟩ | ⟨o1, o2, o3, o4⟩
        · omega
        · rw [← o3, runs_end _ (by rw [kindsT_len]; omega), kindsT_len]
      go_wp2_with fail
      go_ret
      exact ⟨ret_int HF.out.symm, hbl⟩
end Go.Proofs.Ytlmanlpgknhfpaa
namespace Go.Proofs.Ytlmanlpgknhfpaa
open Go Go.RowKit Pl
def tok0 : TokV := ⟨0, ⟨#[]⟩, 0⟩
def tokAt (l : List TokV) (k : Nat) : TokV := l.getD k tok0
theorem tokAt_eq {l : List TokV} {k : Nat} (h : k < l.length) : tokAt l k = l[k] := by
  unfold tokAt; rw [List.getD_eq_getElem?_getD, List.getElem?_eq_getElem h]; rfl
def mt (l : List TokV) (k : Nat) : Nat := (mtc (kindsT l) k).toNat
theorem mtc_nat (l : List TokV) (k : Nat) : 0 ≤ mtc (kindsT l) k ∧ (k < l.length → (k : Int) ≤ mtc (kindsT l) k ∧ mtc (kindsT l) k ≤ l.length) := by
  have hKL := kindsT_len l
  unfold mtc
  split
  · rename_i h
    split
    · omega
    · have := runs_le (kindsT l) _ ((k : Int).toNat + 1) [clo ((kindsT l)[(k : Int).toNat]'(by omega))] (Nat.le_refl _)
      simp only [Int.toNat_natCast] at this ⊢
      omega
  · omega
theorem mt_int (l : List TokV) (k : Nat) : mtc (kindsT l) k = (mt l k : Int) ∧ (k < l.length → k ≤ mt l k ∧ mt l k ≤ l.length) := by
  have h := mtc_nat l k
  unfold mt
  omega
def spB (t : TokV) : Bool := Sy.eqI t.kind 20
def trim (l : List TokV) : List TokV := ((l.dropWhile spB).reverse.dropWhile spB).reverse
theorem trim_cons {a : TokV} (l : List TokV) (h : spB a = true) : trim (a :: l) = trim l := by unfold trim; rw [List.dropWhile_cons, if_pos h]
theorem dropWhile_snoc {a : TokV} (h : spB a = true) : ∀ l : List TokV, ((l ++ [a]).dropWhile spB = [] ∧ l.dropWhile spB = []) ∨ (l ++ [a]).dropWhile spB = l.dropWhile spB ++ [a]
  | [] => .inl ⟨by simp [List.dropWhile_cons, h], rfl⟩
  | b :: l => by
    by_cases hb : spB b = true
    · simp only [List.cons_append, List.dropWhile_cons, hb, if_true]
      exact dropWhile_snoc h l
    · simp only [List.cons_append, List.dropWhile_cons, hb, if_false]
      exact .inr rfl
theorem trim_snoc {a : TokV} (l : List TokV) (h : spB a = true) : trim (l ++ [a]) = trim l := by
  unfold trim
  rcases dropWhile_snoc h l with ⟨h1, h2⟩ | h1
  · rw [h1, h2]
  · rw [h1, List.reverse_append, List.reverse_singleton, List.singleton_append, List.dropWhile_cons, if_pos h]
theorem trim_id (l : List TokV) (hne : l ≠ []) (h1 : spB (tokAt l 0) = false) (h2 : spB (tokAt l (l.length - 1)) = false) : trim l = l := by
  unfold trim
  have e1 : l.dropWhile spB = l := by
    cases l with
    | nil => rfl
    | cons a m => rw [List.dropWhile_cons, if_neg (by rw [show spB a = false from h1]; simp)]
  rw [e1]
  have e2 : l.reverse.dropWhile spB = l.reverse := by
    cases hr : l.reverse with
    | nil => rfl
    | cons a m =>
      have hl : l = m.reverse ++ [a] := by rw [← List.reverse_reverse l, hr]; simp
      have ha : tokAt l (l.length - 1) = a := by rw [hl]; simp [tokAt]
      rw [ha] at h2
      rw [List.dropWhile_cons, if_neg (by rw [h2]; simp)]
  rw [e2, List.reverse_reverse]
theorem trim_pre : ∀ (k : Nat) (l : List TokV), k ≤ l.length → (∀ j, j < k → spB (tokAt l j) = true) → trim (l.drop k) = trim l
  | 0, l, _, _ => rfl
  | k + 1, [], h, _ => absurd h (by simp)
  | k + 1, a :: l, h, hs => by
    have h0 : spB a = true := hs 0 (by omega)
    rw [List.drop_succ_cons, trim_cons l h0]
    exact trim_pre k l (by simpa using h) fun j hj => hs (j + 1) (by omega)
theorem trim_post (l : List TokV) : ∀ (k : Nat), k ≤ l.length → (∀ j, l.length - k ≤ j → j < l.length → spB (tokAt l j) = true) → trim (l.take (l.length - k)) = trim l := by
  intro k
  induction k with
  | zero => intro _ _; rw [Nat.sub_zero, List.take_length]
  | succ k ih =>
    intro hk hs
    have h1 := ih (by omega) fun j h1 h2 => hs j (by omega) h2
    have h2 : l.take (l.length - k) = l.take (l.length - (k + 1)) ++ [l[l.length - (k + 1)]'(by omega)] := by
      have := List.take_succ_eq_append_getElem (l := l) (i := l.length - (k + 1)) (by omega)
      rw [show l.length - (k + 1) + 1 = l.length - k by omega] at this
      exact this
    rw [h2] at h1
    rw [← h1, trim_snoc]
    have := hs (l.length - (k + 1)) (by omega) (by omega)
    rw [tokAt_eq (by omega)] at this
    exact this
theorem tokAt_take {l : List TokV} {n k : Nat} (h : k < n) (h' : n ≤ l.length) : tokAt (l.take n) k = tokAt l k := by
  rw [tokAt_eq (by rw [List.length_take]; omega), tokAt_eq (by omega), List.getElem_take]
theorem tokAt_drop (l : List TokV) (n k : Nat) : tokAt (l.drop n) k = tokAt l (n + k) := by
  unfold tokAt
  rw [List.getD_eq_getElem?_getD, List.getD_eq_getElem?_getD, List.getElem?_drop]
theorem trim_of (l : List TokV) (i j : Nat) (h1 : i < j) (h2 : j ≤ l.length) (hi : ∀ k, k < i → spB (tokAt l k) = true) (hi' : spB (tokAt l i) = false) (hj : ∀ k, j ≤ k → k < l.length → spB (tokAt l k) = true) (hj' : spB (tokAt l (j - 1)) = false) :
    trim l = (l.drop i).take (j - i) := by
  rw [← trim_pre i l (by omega) hi]
  have := trim_post (l.drop i) (l.length - j) (by rw [List.length_drop]; omega) fun k q1 q2 => by
    rw [List.length_drop] at q1 q2
    rw [tokAt_drop]
    exact hj _ (by omega) (by omega)
  rw [List.length_drop, show l.length - i - (l.length - j) = j - i by omega] at this
  rw [← this]
  refine trim_id _ (fun e => ?_) ?_ ?_
  · have := congrArg List.length e
    rw [List.length_take, List.length_drop, List.length_nil] at this
    omega
  · rw [tokAt_take (by omega) (by rw [List.length_drop]; omega), tokAt_drop]; exact hi'
  · rw [List.length_take, List.length_drop, show min (j - i) (l.length - i) = j - i by omega, tokAt_take (by omega) (by rw [List.length_drop]; omega), tokAt_drop, show i + (j - i - 1) = j - 1 by omega]
    exact hj'
theorem trim_all (l : List TokV) (h : ∀ k, k < l.length → spB (tokAt l k) = true) : trim l = [] := by
  rw [← trim_pre l.length l (Nat.le_refl _) h, List.drop_length]; rfl
theorem trim_len (l : List TokV) : (trim l).length ≤ l.length := by
  unfold trim
  rw [List.length_reverse]
  have h1 := (List.dropWhile_sublist spB (l := (l.dropWhile spB).reverse)).length_le
  have h2 := (List.dropWhile_sublist spB (l := l)).length_le
  rw [List.length_reverse] at h1
  omega
def fstT (p : TokV → Bool) (l : List TokV) (k : Nat) : Nat := Sy.hops (fun j => p (tokAt l j)) (fun j => j + 1) l.length k
end Go.Proofs.Ytlmanlpgknhfpaa
namespace Go.Proofs.Ytlmanlpgknhfpaa
open Go Go.RowKit Pl Sy
def mtI (l : List TokV) (i : Int) : Int := mtc (kindsT l) i
namespace Sy
abbrev kv (l : List TokV) : AV := viewOf TokV.cells tok0 3 l
theorem kv_free (l : List TokV) : Free (kv l) := viewOf_free TokV.cells tok0 3 l
def kindOf : AV → Int
  | .lit (.int .i64 n) => n
  | _ => 0
def textOf : AV → ByteArray
  | .lit (.string s) => s
  | _ => ⟨#[]⟩
def tokOf (cell : Nat → Nat → AV) (i : Nat) : TokV := ⟨kindOf (cell i 0), textOf (cell i 1), kindOf (cell i 2)⟩
def IsTok (cell : Nat → Nat → AV) : Prop := cell = fun i j => .lit ((TokV.cells (tokOf cell i)).getD j undef)
def toks (n : Nat) (cell : Nat → Nat → AV) : List TokV := (List.range n).map (tokOf cell)
theorem toks_len (n : Nat) (cell : Nat → Nat → AV) : (toks n cell).length = n := by simp [toks]
theorem toks_get (n : Nat) (cell : Nat → Nat → AV) {i : Nat} (h : i < n) : (toks n cell).getD i tok0 = tokOf cell i := by
  unfold toks
  rw [List.getD_eq_getElem?_getD, List.getElem?_eq_getElem (by simpa using h)]
  simp
structure VX where
  n : Nat
  cell : Nat → Nat → AV
noncomputable def conT (f : FuncId) (g : List TokV → List AV → AV) (C : List TokV → List AV → Prop) (h : ∀ l r, C l r → (Frees r ∧ Free (g l r)) ∧ CallTo Try.prog f (kv l :: r) M0 fun v _ => v = g l r) : Con Try.prog :=
  atX f (fun args => match args with | .view n s cell :: r => some ((⟨n, cell⟩ : VX), r) | _ => none) (fun x => .view x.1.n 3 x.1.cell :: x.2) (fun x => g (toks x.1.n x.1.cell) x.2) (fun x => IsTok x.1.cell ∧ C (toks x.1.n x.1.cell) x.2) fun x hx => by
    obtain ⟨⟨n, cell⟩, r⟩ := x
    obtain ⟨h2, h3⟩ := hx
    simp only at h2 h3 ⊢
    obtain ⟨⟨q1, q2⟩, q3⟩ := h _ _ h3
    refine ⟨⟨⟨?_, q1⟩, q2⟩, q3.congr fun ρ us hr => ?_⟩
    · rw [h2]; exact fun i j => trivial
    · simp only [rels] at hr ⊢
      obtain ⟨u, us', rfl, r1, r2⟩ := hr
      refine ⟨u, us', rfl, ?_, r2⟩
      have hl : (toks n cell).length = n := toks_len n cell
      show rel ρ (.view (toks n cell).length 3 _) u
      rw [hl]
      refine rel_view_congr (fun i j hi hj => ?_) r1
      rw [toks_get n cell hi]
      exact congrFun (congrFun h2 i) j
def lim (l : List TokV) : Prop := l.length ≤ 17592186044416
theorem tok_one : ∀ (x : TokV), ∀ u ∈ x.cells, u.oneCell' = true := by
  intro x u hu
  simp only [TokV.cells, List.mem_cons, List.not_mem_nil, or_false] at hu
  rcases hu with rfl | rfl | rfl <;> rfl
noncomputable abbrev cMatch (l : List TokV) : Con Try.prog := atX 86 (fun args => match args with | [_, .lit (.int .i64 i)] => some i | _ => none) (fun i => [kv l, int i]) (fun i => int (mtI l i)) (fun _ => lim l) fun i h =>
  ⟨⟨⟨kv_free l, trivial, trivial⟩, trivial⟩, (of_walk (d := tok0) l [.int .i64 i] (.int .i64 (mtc (kindsT l) i)) (fun x => x.len) (by decide) h (fun w a cap hR => match_p hR i) M0).mono fun v _ hv => hv.1⟩
end Sy
abbrev Sy.tokA (t : TokV) : AV := .agg [int t.kind, .lit (.string t.text), int t.n]
noncomputable def Sy.conB (f : FuncId) (p : TokV → Bool) (h : ∀ t, CallTo Try.prog f [tokA t] M0 fun v _ => v = boo (p t)) : Con Try.prog :=
  atX f (fun args => match args with | [.agg [.lit (.int .i64 a), .lit (.string b), .lit (.int .i64 c)]] => some (⟨a, b, c⟩ : TokV) | _ => none) (fun t => [tokA t]) (fun t => boo (p t)) (fun _ => True) fun t _ => ⟨⟨⟨⟨trivial, trivial, trivial, trivial⟩, trivial⟩, trivial⟩, h t⟩
theorem Sy.space_t (t : TokV) : CallTo Try.prog 72 [tokA t] M0 fun v _ => v = boo (spB t) :=
  toV [] [] 400 30 .done (.leaf (boo (eqI (t).kind (20 : Int)))) (by kernel_rfl) rfl
theorem Sy.other_t (t : TokV) : CallTo Try.prog 71 [tokA t] M0 fun v _ => v = boo (!spB t) :=
  toV [] [] 400 30 .done (.leaf (boo (!(eqI (t).kind (20 : Int))))) (by kernel_rfl) rfl
noncomputable abbrev Sy.cSpace : Con Try.prog := conB 72 spB space_t
end Go.Proofs.Ytlmanlpgknhfpaa
namespace Go.Proofs.Ytlmanlpgknhfpaa
open Go Go.RowKit Pl Sy
theorem hops1_before {g : Nat → Bool} {m : Nat} : ∀ (f k : Nat), m - k ≤ f → ∀ j, k ≤ j → j < hops g (fun j => j + 1) m k → g j = false := by
  have hx : ∀ k, k < m → k < (fun j => j + 1) k := fun k _ => Nat.lt_succ_self k
  intro f
  induction f with
  | zero => intro k h1 j h2 h3; rw [hops_end _ _ (by omega)] at h3; omega
  | succ f ih =>
    intro k h1 j h2 h3
    rw [hops_step hx] at h3
    split at h3
    · rename_i h
      by_cases hj : j = k
      · subst hj; exact h.2
      · exact ih (k + 1) (by omega) j (by omega) h3
    · omega
theorem hops1_le (g : Nat → Bool) (m k : Nat) (h : k ≤ m) : k ≤ hops g (fun j => j + 1) m k ∧ hops g (fun j => j + 1) m k ≤ m :=
  hops_le (fun k _ => Nat.lt_succ_self k) (fun k h => h) _ k (Nat.le_refl _) h
def idxI (p : TokV → Bool) (l : List TokV) : Int := if fstT p l 0 < l.length then (fstT p l 0 : Int) else -1
def notSp (t : TokV) : Bool := !spB t
noncomputable abbrev Sy.cNot : Con Try.prog := conB 71 notSp other_t
namespace Sy
abbrev ioF (l : List TokV) (k j : Int) : Fr := (some ((@AV.view (l).length 3 (fun x398019 => (fun x467568 => (@AV.lit ([(@Value.int IntKind.i64 ((l.getD x398019 tok0)).kind), (@Value.string ((l.getD x398019 tok0)).text), (@Value.int IntKind.i64 ((l.getD x398019 tok0)).n)].getD x467568 (@Value.tuple (@Array.mk _ [])))))))) :: some ((@AV.fn (@Fn.func 71) [] [])) :: none :: none :: some (int j) :: none :: some ((@AV.view (l).length 3 (fun x722680 => (fun x698933 => (@AV.lit ([(@Value.int IntKind.i64 ((l.getD x722680 tok0)).kind), (@Value.string ((l.getD x722680 tok0)).text), (@Value.int IntKind.i64 ((l.getD x722680 tok0)).n)].getD x698933 (@Value.tuple (@Array.mk _ [])))))))) :: some ((int (((l).length : Nat) : Int))) :: some (int k) :: (nn10 []))
abbrev ioFE (l : List TokV) (j : Int) : Fr := (some ((@AV.view (l).length 3 (fun x398019 => (fun x467568 => (@AV.lit ([(@Value.int IntKind.i64 ((l.getD x398019 tok0)).kind), (@Value.string ((l.getD x398019 tok0)).text), (@Value.int IntKind.i64 ((l.getD x398019 tok0)).n)].getD x467568 (@Value.tuple (@Array.mk _ [])))))))) :: some ((@AV.fn (@Fn.func 71) [] [])) :: none :: none :: some (int j) :: none :: some ((@AV.view (l).length 3 (fun x722680 => (fun x698933 => (@AV.lit ([(@Value.int IntKind.i64 ((l.getD x722680 tok0)).kind), (@Value.string ((l.getD x722680 tok0)).text), (@Value.int IntKind.i64 ((l.getD x722680 tok0)).n)].getD x698933 (@Value.tuple (@Array.mk _ [])))))))) :: some ((int (((l).length : Nat) : Int))) :: (nn11 []))
end Sy
theorem Sy.ixo_scan (l : List TokV) (hl : lim l) : ∀ k, k ≤ l.length → LoopTo Try.prog (theBody Try.prog 70 3) (l.length - k + 1) (ioF l k 0) M0 fun ex F' M' => M' = M0 ∧ ((fstT notSp l k < l.length ∧ ex = .ret ∧ F' = ioF l (fstT notSp l k : Nat) (fstT notSp l k : Nat)) ∨ (fstT notSp l k = l.length ∧ ex = .exit 0 ∧ F' = ioF l l.length 0)) :=
  hopL l.length (fun j => notSp (tokAt l j)) (fun j => j + 1) (fun k _ => Nat.lt_succ_self k) (fun k h => h) (fun k => ioF l k 0) (fun k => ioF l k k) (fun _ => M0) .ret fun κ n G h0 c1 c2 c3 => by
    generalize hκ : (κ : Int) = k at *
    refine roundL [cNot] [] 400 30 70 3 Try.func70 rfl (by kernel_rfl) (true :: true :: false :: false :: true :: false :: true :: true :: true :: (ff10 [])) (.br (.yes (.yes (.br .done .done))) .done) (let e1 := (@AV.agg [(int ((l.getD (k).toNat tok0)).kind), (@AV.lit (@Value.string ((l.getD (k).toNat tok0)).text)), (int ((l.getD (k).toNat tok0)).n)]); let e2 := (some (@AV.view (l).length 3 (fun y0 => (fun y1 => (@AV.lit ([(@Value.int IntKind.i64 ((l.getD y0 tok0)).kind), (@Value.string ((l.getD y0 tok0)).text), (@Value.int IntKind.i64 ((l.getD y0 tok0)).n)].getD y1 (@Value.tuple (@Array.mk _ [])))))))); let e3 := (some (@AV.fn (@Fn.func 71) [] [])); let e4 := (some (int (((l).length : Nat) : Int))); (.fork (!(leI (((l).length : Nat) : Int) k)) (.need (@inR k (l).length) (.need (@isSo (@And ((@HAppend.hAppend _ _ _ _ (@HAppend.hAppend _ _ _ _ [] [e1]) []) = [e1]) True)) (.fork (@notSp (@TokV.mk ((l.getD (k).toNat tok0)).kind ((l.getD (k).toNat tok0)).text ((l.getD (k).toNat tok0)).n)) (.leaf (Ex.ret, ((e2 :: e3 :: none :: none :: (some (int k)) :: none :: e2 :: e4 :: (some (int k)) :: (nn10 [])), (@Mem.mk 0 0 [])))) (.leaf (Ex.norm, ((e2 :: e3 :: none :: none :: (some (int (0 : Int))) :: none :: e2 :: e4 :: (some (int (w64 (k + (1 : Int))))) :: (nn10 [])), (@Mem.mk 0 0 []))))))) (.leaf ((@Ex.exit 0), ((e2 :: e3 :: none :: none :: (some (int (0 : Int))) :: none :: e2 :: e4 :: (some (int k)) :: (nn10 [])), (@Mem.mk 0 0 [])))))) (by kernel_rfl) ?_
    have hl' : l.length ≤ 17592186044416 := hl
    refine fork_ok (fun h => ?_) (fun h => ?_)
    · simp only [Bool.not_eq_true', Bool.not_eq_false', leI_t, leI_f, eqI_t, eqI_f, inR_t, inR_f, isSo_t, isSo_f] at h
      have hk : κ < l.length := by omega
      have hr : inR k l.length = true := by rw [inR_t]; omega
      have hκ' : tokAt l κ = l.getD k.toNat tok0 := by rw [← hκ]; rfl
      refine need_t hr (need_so ⟨rfl, trivial⟩ (fork_ok (fun h2 => c2 hk (by rw [hκ']; simpa using h2)) (fun h2 => ?_)))
      have := c1 hk (by rw [hκ']; simpa using h2)
      rw [show ((κ + 1 : Nat) : Int) = k + 1 by omega] at this
      rw [w64_in (r := k + 1) (by omega)]
      exact this
    · simp only [Bool.not_eq_true', Bool.not_eq_false', leI_t, leI_f, eqI_t, eqI_f, inR_t, inR_f, isSo_t, isSo_f] at h
      have hk : κ = l.length := by omega
      have := c3 hk
      rw [← hk, hκ] at this
      exact this
namespace Sy
noncomputable abbrev lp_ixo (l : List TokV) : Lp Try.prog where
  f := 70
  key := 3
  S := formS (fun F M => slotI F 8) (fun k => ioF l k 0) (fun _ => M0) (fun k => lim l ∧ k = 0) (fun k => .fork (leI 0 (idxI notSp l)) (.leaf (.ret, ioFE l (idxI notSp l), M0)) (.leaf (.exit 0, ioFE l 0, M0))) (true :: true :: false :: false :: true :: false :: true :: true :: true :: (ff10 []))
  one := by kernel_rfl
  ok := formS_ok fun k ⟨h1, h2⟩ => by
    subst h2
    refine ⟨l.length - 0 + 1, ?_⟩
    refine ((Sy.ixo_scan l h1 0 (Nat.zero_le _)).out (true :: true :: false :: false :: true :: false :: true :: true :: (ff11 []))).mono fun ex F M hg => ?_
    obtain ⟨F0, ⟨rfl, hg⟩, rfl⟩ := hg
    rcases hg with ⟨q1, rfl, rfl⟩ | ⟨q1, rfl, rfl⟩
    · have e : idxI notSp l = (fstT notSp l 0 : Nat) := by unfold idxI; rw [if_pos q1]
      exact .inl ⟨by rw [leI_t, e]; omega, by rw [e]; rfl⟩
    · exact .inr ⟨by rw [leI_f]; unfold idxI; rw [if_neg (by omega)]; omega, rfl⟩
end Sy
theorem Sy.ixo_t (l : List TokV) (h : lim l) : CallTo Try.prog 70 [kv l, .fn (.func 71) [] []] M0 fun v _ => v = int (idxI notSp l) :=
  toV [] [lp_ixo l] 400 30 (.br .done .done) (let e1 := (some (@AV.view (l).length 3 (fun y0 => (fun y1 => (@AV.lit ([(@Value.int IntKind.i64 ((l.getD y0 tok0)).kind), (@Value.string ((l.getD y0 tok0)).text), (@Value.int IntKind.i64 ((l.getD y0 tok0)).n)].getD y1 (@Value.tuple (@Array.mk _ [])))))))); let e2 := (some (@AV.fn (@Fn.func 71) [] [])); let e3 := (some (int (0 : Int))); let e4 := (some (int (((l).length : Nat) : Int))); (.need (@isSo (@And ((e1 :: e2 :: (none :: none :: e3 :: none :: e1 :: e4 :: e3 :: (nn10 []))) = (e1 :: e2 :: none :: none :: e3 :: none :: e1 :: e4 :: e3 :: (nn10 []))) ((@Mem.mk 0 0 []) = M0))) (.need (@isSo (@And (@lim l) ((0 : Int) = (0 : Int)))) (.fork (leI (0 : Int) (@idxI notSp l)) (.leaf (int (@idxI notSp l))) (.leaf (int (-1 : Int))))))) (by kernel_rfl) (by
    refine need_so ⟨rfl, rfl⟩ (need_so ⟨h, rfl⟩ (fork_ok (fun h1 => rfl) (fun h1 => ?_)))
    rw [leI_f] at h1
    unfold idxI at h1 ⊢
    split at h1
    · omega
    · rename_i h2; rw [if_neg h2]; rfl)
noncomputable abbrev Sy.cIdxO (l : List TokV) : Con Try.prog := at1 70 [kv l, .fn (.func 71) [] []] (int (idxI notSp l)) (lim l) fun h => ⟨⟨⟨kv_free l, ⟨trivial, trivial⟩, trivial⟩, trivial⟩, ixo_t l h⟩
def lastN (l : List TokV) : Nat := hops (fun j => !spB (tokAt l (l.length - 1 - j))) (fun j => j + 1) (l.length - 1 - fstT notSp l 0) 0
namespace Sy
abbrev trF (l : List TokV) (k : Int) : Fr := (some ((@AV.view (l).length 3 (fun x80734 => (fun x52746 => (@AV.lit ([(@Value.int IntKind.i64 ((l.getD x80734 tok0)).kind), (@Value.string ((l.getD x80734 tok0)).text), (@Value.int IntKind.i64 ((l.getD x80734 tok0)).n)].getD x52746 (@Value.tuple (@Array.mk _ [])))))))) :: none :: none :: some ((int (@idxI notSp l))) :: some (int k) :: (nn18 []))
end Sy
theorem Sy.tr_scan (l : List TokV) (hl : lim l) (hf : fstT notSp l 0 < l.length) : LoopTo Try.prog (theBody Try.prog 42 6) (l.length - 1 - fstT notSp l 0 - 0 + 1) (trF l l.length) M0 fun ex F' M' => ex = .exit 0 ∧ M' = M0 ∧ F' = trF l ((l.length - lastN l : Nat) : Int) := by
  have hm : ∀ κ, κ = l.length - 1 - fstT notSp l 0 → spB (tokAt l (l.length - 1 - κ)) = false := fun κ hκ => by
    have := hops_at (g := fun j => notSp (tokAt l j)) (nx := fun j => j + 1) (m := l.length) (fun k _ => Nat.lt_succ_self k) _ 0 (Nat.le_refl _) hf
    rw [show l.length - 1 - κ = fstT notSp l 0 by omega]
    unfold notSp at this
    unfold fstT notSp
    simpa using this
  have key := hopL (P := Try.prog) (body := theBody Try.prog 42 6) (l.length - 1 - fstT notSp l 0) (fun j => !spB (tokAt l (l.length - 1 - j))) (fun j => j + 1) (fun k _ => Nat.lt_succ_self k) (fun k h => h) (fun k => trF l ((l.length - k : Nat) : Int)) (fun k => trF l ((l.length - k : Nat) : Int)) (fun _ => M0) (.exit 0) (fun κ n G h0 c1 c2 c3 => by
    generalize hκ : ((l.length - κ : Nat) : Int) = k at *
    refine roundL [cSpace] [] 400 30 42 6 Try.func42 rfl (by kernel_rfl) (true :: false :: false :: true :: true :: (ff18 [])) (.yes (.yes (.br .done .done))) (let e1 := (w64 (k - (1 : Int))); let e2 := (@AV.agg [(int ((l.getD (e1).toNat tok0)).kind), (@AV.lit (@Value.string ((l.getD (e1).toNat tok0)).text)), (int ((l.getD (e1).toNat tok0)).n)]); let e3 := (some (@AV.view (l).length 3 (fun y0 => (fun y1 => (@AV.lit ([(@Value.int IntKind.i64 ((l.getD y0 tok0)).kind), (@Value.string ((l.getD y0 tok0)).text), (@Value.int IntKind.i64 ((l.getD y0 tok0)).n)].getD y1 (@Value.tuple (@Array.mk _ [])))))))); (.need (@inR e1 (l).length) (.need (@isSo (@And ((@HAppend.hAppend _ _ _ _ (@HAppend.hAppend _ _ _ _ [] [e2]) []) = [e2]) True)) (.fork (@spB (@TokV.mk ((l.getD (e1).toNat tok0)).kind ((l.getD (e1).toNat tok0)).text ((l.getD (e1).toNat tok0)).n)) (.leaf (Ex.norm, ((e3 :: none :: none :: (some (int (@idxI notSp l))) :: (some (int e1)) :: (nn18 [])), (@Mem.mk 0 0 [])))) (.leaf ((@Ex.exit 0), ((e3 :: none :: none :: (some (int (@idxI notSp l))) :: (some (int k)) :: (nn18 [])), (@Mem.mk 0 0 [])))))))) (by kernel_rfl) ?_
    have hl' : l.length ≤ 17592186044416 := hl
    have e : w64 (k - 1) = k - 1 := w64_in (by omega)
    have hr : inR (w64 (k - 1)) l.length = true := by rw [e, inR_t]; omega
    have ht : tokAt l (l.length - 1 - κ) = l.getD (w64 (k - 1)).toNat tok0 := by
      rw [e, show (k - 1).toNat = l.length - 1 - κ by omega]; rfl
    refine need_t hr (need_so ⟨rfl, trivial⟩ (fork_ok (fun h2 => ?_) (fun h2 => ?_)))
    · have hlt : κ < l.length - 1 - fstT notSp l 0 := by
        rcases Nat.lt_or_ge κ (l.length - 1 - fstT notSp l 0) with h | h
        · exact h
        · have := hm κ (by omega)
          rw [ht] at this
          have h2' : spB (l.getD (w64 (k - 1)).toNat tok0) = true := h2
          rw [this] at h2'; cases h2'
      have := c1 hlt (by rw [ht]; simpa using h2)
      rw [show ((l.length - (κ + 1) : Nat) : Int) = w64 (k - 1) by omega] at this
      exact this
    · rcases Nat.lt_or_ge κ (l.length - 1 - fstT notSp l 0) with h | h
      · have := c2 h (by rw [ht]; simpa using h2)
        exact this
      · have := c3 (by omega)
        rw [show l.length - 1 - fstT notSp l 0 = κ by omega, hκ] at this
        exact this) 0 (Nat.zero_le _)
  refine key.mono fun ex F M hg => ?_
  obtain ⟨rfl, hg⟩ := hg
  rcases hg with ⟨q1, rfl, rfl⟩ | ⟨q1, rfl, rfl⟩
  · exact ⟨rfl, rfl, rfl⟩
  · refine ⟨rfl, rfl, ?_⟩
    have : lastN l = l.length - 1 - fstT notSp l 0 := q1
    rw [this]
namespace Sy
noncomputable abbrev lp_tr (l : List TokV) : Lp Try.prog where
  f := 42
  key := 6
  S := formS (fun F M => slotI F 4) (fun k => trF l k) (fun _ => M0) (fun k => (lim l ∧ fstT notSp l 0 < l.length) ∧ k = l.length) (fun k => .leaf (.exit 0, trF l ((l.length - lastN l : Nat) : Int), M0)) (true :: false :: false :: true :: true :: (ff18 []))
  one := by kernel_rfl
  ok := formS_ok fun k ⟨⟨h1, h2⟩, h3⟩ => by
    subst h3
    refine ⟨_, (Sy.tr_scan l h1 h2).mono fun ex F M hg => ?_⟩
    obtain ⟨rfl, rfl, rfl⟩ := hg
    rfl
end Sy
theorem fst_at (p : TokV → Bool) (l : List TokV) (k : Nat) (h : fstT p l k < l.length) : p (tokAt l (fstT p l k)) = true :=
  hops_at (g := fun j => p (tokAt l j)) (nx := fun j => j + 1) (m := l.length) (fun k _ => Nat.lt_succ_self k) _ k (Nat.le_refl _) h
theorem fst_before (p : TokV → Bool) (l : List TokV) (k j : Nat) (h1 : k ≤ j) (h2 : j < fstT p l k) : p (tokAt l j) = false :=
  hops1_before (g := fun j => p (tokAt l j)) _ k (Nat.le_refl _) j h1 h2
theorem fst_le (p : TokV → Bool) (l : List TokV) (k : Nat) (h : k ≤ l.length) : k ≤ fstT p l k ∧ fstT p l k ≤ l.length := hops1_le (fun j => p (tokAt l j)) l.length k h
theorem trim_cut (l : List TokV) (h : fstT notSp l 0 < l.length) : lastN l ≤ l.length - 1 - fstT notSp l 0 ∧ trim l = (l.drop (fstT notSp l 0)).take (l.length - lastN l - fstT notSp l 0) := by
  have h1 : lastN l ≤ l.length - 1 - fstT notSp l 0 := (hops1_le (fun j => !spB (tokAt l (l.length - 1 - j))) (l.length - 1 - fstT notSp l 0) 0 (Nat.zero_le _)).2
  have h0 : spB (tokAt l (fstT notSp l 0)) = false := by
    have := fst_at notSp l 0 h
    rw [show notSp (tokAt l (fstT notSp l 0)) = !spB (tokAt l (fstT notSp l 0)) from rfl] at this
    simpa using this
  refine ⟨h1, trim_of l (fstT notSp l 0) (l.length - lastN l) (by omega) (by omega) (fun k hk => ?_) h0 (fun k q1 q2 => ?_) ?_⟩
  · have := fst_before notSp l 0 k (Nat.zero_le _) hk
    unfold notSp at this
    simpa using this
  · have := hops1_before (g := fun j => !spB (tokAt l (l.length - 1 - j))) (m := l.length - 1 - fstT notSp l 0) _ 0 (Nat.le_refl _) (l.length - 1 - k) (Nat.zero_le _) (show _ < lastN l by omega)
    rw [show l.length - 1 - (l.length - 1 - k) = k by omega] at this
    simpa using this
  · rcases Nat.lt_or_ge (lastN l) (l.length - 1 - fstT notSp l 0) with hh | hh
    · have := hops_at (g := fun j => !spB (tokAt l (l.length - 1 - j))) (nx := fun j => j + 1) (m := l.length - 1 - fstT notSp l 0) (fun k _ => Nat.lt_succ_self k) _ 0 (Nat.le_refl _) hh
      have e : hops (fun j => !spB (tokAt l (l.length - 1 - j))) (fun j => j + 1) (l.length - 1 - fstT notSp l 0) 0 = lastN l := rfl
      rw [e, show l.length - 1 - lastN l = l.length - lastN l - 1 by omega] at this
      simpa using this
    · rw [show l.length - lastN l - 1 = fstT notSp l 0 by omega]
      exact h0
theorem sub_part (l : List TokV) (lo n m : Nat) (h : lo + n ≤ l.length) (hm : m = n) (L : List TokV) (hL : L = (l.drop lo).take n) : Sub (.view m 3 (fun i j => .lit ((TokV.cells (l.getD (lo + i) tok0)).getD j undef))) (kv L) := by
  subst hL hm
  refine Sub.view (by simp; omega) fun i j hi hj => ?_
  have e : l.getD (lo + i) tok0 = ((l.drop lo).take m).getD i tok0 := by
    rw [List.getD_eq_getElem?_getD, List.getD_eq_getElem?_getD, List.getElem?_take, if_pos hi, List.getElem?_drop]
  rw [e]
theorem Sy.trimmed_t (l : List TokV) (hl : lim l) : CallTo Try.prog 42 [kv l] M0 fun v _ => v = kv (trim l) :=
  CallTo.as (toV [cIdxO l] [lp_tr l] 400 30 (.yes (.br .done (.yes .done))) (let e1 := (@Value.tuple (@Array.mk _ [])); let e2 := (@AV.view (l).length 3 (fun y0 => (fun y1 => (@AV.lit ([(@Value.int IntKind.i64 ((l.getD y0 tok0)).kind), (@Value.string ((l.getD y0 tok0)).text), (@Value.int IntKind.i64 ((l.getD y0 tok0)).n)].getD y1 e1))))); let e3 := (@idxI notSp l); let e4 := (((l).length : Nat) : Int); let e5 := ((((l).length - (@lastN l)) : Nat) : Int); (.need (@isSo (@And ((@HAppend.hAppend _ _ _ _ (@HAppend.hAppend _ _ _ _ [] [e2, (@AV.fn (@Fn.func 71) [] [])]) []) = [e2, (@AV.fn (@Fn.func 71) [] [])]) (@lim l))) (.fork (!(leI (0 : Int) e3)) (.leaf (@AV.lit (@Value.slice none 0 0))) (.need (@isSo (@And (((some e2) :: (none :: none :: (some (int e3)) :: (some (int e4)) :: (nn18 []))) = ((some e2) :: none :: none :: (some (int e3)) :: (some (int e4)) :: (nn18 []))) ((@Mem.mk 0 0 []) = M0))) (.need (@isSo (@And (@And (@lim l) ((@fstT notSp l 0) < (l).length)) (e4 = e4))) (.need ((leI (0 : Int) e3) && ((leI e3 e5) && (leI e5 e4))) (.leaf (@AV.view ((e5).toNat - (e3).toNat) 3 (fun y0 => (fun y1 => (@AV.lit ([(@Value.int IntKind.i64 ((l.getD ((e3).toNat + y0) tok0)).kind), (@Value.string ((l.getD ((e3).toNat + y0) tok0)).text), (@Value.int IntKind.i64 ((l.getD ((e3).toNat + y0) tok0)).n)].getD y1 e1)))))))))))) (by kernel_rfl) (by
    have hf := fst_le notSp l 0 (Nat.zero_le _)
    refine need_so ⟨rfl, hl⟩ (fork_ok (fun h => ?_) (fun h => ?_))
    · simp only [Bool.not_eq_true', Bool.not_eq_false', leI_t, leI_f, eqI_t, eqI_f, inR_t, inR_f, isSo_t, isSo_f] at h
      have h1 : fstT notSp l 0 = l.length := by unfold idxI at h; split at h <;> omega
      have h2 : trim l = [] := trim_all l fun k hk => by
        have := fst_before notSp l 0 k (Nat.zero_le _) (by omega)
        unfold notSp at this
        simpa using this
      show Sub _ _
      rw [h2]
      exact Sub.nil _ _
    · simp only [Bool.not_eq_true', Bool.not_eq_false', leI_t, leI_f, eqI_t, eqI_f, inR_t, inR_f, isSo_t, isSo_f] at h
      have h1 : fstT notSp l 0 < l.length := by unfold idxI at h; split at h <;> omega
      have h2 : idxI notSp l = (fstT notSp l 0 : Nat) := by unfold idxI; rw [if_pos h1]
      obtain ⟨h3, h4⟩ := trim_cut l h1
      have hb : (leI (0 : Int) (idxI notSp l) && (leI (idxI notSp l) ((l.length - lastN l : Nat) : Int) && leI ((l.length - lastN l : Nat) : Int) ((l.length : Nat) : Int))) = true := by
        rw [h2]; simp only [Bool.and_eq_true, leI_t]; omega
      refine need_so ⟨rfl, rfl⟩ (need_so ⟨⟨hl, h1⟩, rfl⟩ (need_t hb ?_))
      show Sub _ _
      rw [h2]
      exact sub_part l (fstT notSp l 0) (l.length - lastN l - fstT notSp l 0) _ (by omega) (by omega) (trim l) h4))
theorem tToks : SliceT Try.prog 26 40 3 32 (.agg #[.int .i64 0, .string ⟨#[]⟩, .int .i64 0]) :=
  ⟨Try.underlying26, by obtain ⟨i0, hi, hz0, hz1, hz2⟩ := info_parts (show (Try.prog.info? 40).map (fun i => (i.zero, i.size, i.bytes)) = some (some (.agg #[.int .i64 0, .string ⟨#[]⟩, .int .i64 0]), 3, 32) by kernel_rfl); exact ⟨i0, hi, hz0, hz1, hz2⟩, rfl, by decide⟩
@[go_sem] theorem nilT0 (w : World) : (binOp BinOp.eql 26 (.slice none 0 0) (.slice none 0 0)).run Try.prog w = .ok (.bool true) w := by kernel_rfl
@[go_sem] theorem nilT1 (ad : Addr) (n c : Nat) (w : World) : (binOp BinOp.eql 26 (.slice (some ad) n c) (.slice none 0 0)).run Try.prog w = .ok (.bool false) w := by kernel_rfl
theorem own_base {w : World} {base : Nat} {e : TypeId} {s : Nat} {v : Value} {n m c : Nat} {flat : List Value} {ad : Addr} (h : w.ownsRow base e s v n flat) (hv : v = .slice (some ad) m c) : base ≤ ad.block := by
  rcases h.2 with ⟨rfl, _⟩ | ⟨g, cap, cur, rfl, hb, _⟩
  · cases hv
  · simp at hv; rw [← hv.1]; exact hb
theorem own_empty (w : World) (e : TypeId) (s : Nat) : (w.alloc (.cells #[] e)).ownsRow w.heap.size e s (.slice (some ⟨w.heap.size, 0, none⟩) 0 0) 0 [] :=
  ⟨by simp, Or.inr ⟨w.heap.size, 0, #[], rfl, Nat.le_refl _, heap_alloc_new w _, Nat.le_refl _, by omega, by simp, by simp⟩⟩
def limC (l : List TokV) : Prop := l.length ≤ 100000
theorem limC.lim {l : List TokV} (h : limC l) : lim l := by unfold limC at h; unfold Sy.lim; omega
set_option maxRecDepth 20000 in
theorem clone_toks {w : World} {a : Option Addr} {cap : Nat} {xs : List TokV} (h : RToks w a cap xs) (hs : limC xs) :
    Calls Try.prog 41 #[.slice a xs.length cap] w fun e w' => ∃ a' cap', e = .returned (.slice a' xs.length cap') ∧ RToks w' a' cap' xs ∧ (∀ ad, a' = some ad → w.heap.size ≤ ad.block) ∧ Below w.heap.size w w' := by
  unfold limC at hs
  cases ha : a with
  | none =>
    subst ha
    have hc := h.nil rfl
    subst hc
    have hx : xs = [] := List.eq_nil_of_length_eq_zero (by have := h.le; omega)
    subst hx
    go_enter Try.func41, Try.ntmps41
    go_wp2
    go_ret
    exact ⟨none, 0, rfl, h, (fun _ e => by cases e), Below.refl _ _⟩
  | some ad =>
    subst ha
    have HR := Lib.hid h; clear h
    go_enter Try.func41, Try.ntmps41
    go_wp2_with (first
      | (at_builtin; refine wpList_app_rows (cells := TokV.cells) 26 40 3 32 _ tToks rfl _ _ rfl w.heap.size _ 0 [] rfl (own_empty w 40 3) (some ad) cap xs rfl (HR.out.later _) (fun _ _ => rfl) (fun y _ u hu => tok_one y u hu) (by omega) (by omega) (by simp) ?_; intro v' w1 hown1 hb1))
    go_ret
    obtain ⟨b', c, rfl, hr⟩ := Rows.of_own (cells := TokV.cells) (xs := xs) (by simpa using hown1) (fun k hk j u hu => by simpa using flat_get TokV.cells 3 xs (fun _ _ => rfl) k hk j u hu) (by omega)
    exact ⟨b', c, by simp, hr, (fun ad e => own_base hown1 (by rw [e])), (balloc (Below.refl _ _) _).trans hb1⟩
noncomputable abbrev Sy.cCloneD (v : List TokV) : Con Try.prog := at1 41 [kv v] (kv v) (limC v) fun h => ⟨⟨⟨kv_free _, trivial⟩, kv_free _⟩, (of_walkV (d := tok0) v v [] (fun x => x.len) tok_one (by decide) h.lim (fun w a cap hR => clone_toks hR h) M0).mono fun v _ hv => hv.1⟩
noncomputable abbrev Sy.cTrimL (l T : List TokV) : Con Try.prog := at1 42 [kv l] (kv T) (lim l ∧ T = trim l) fun ⟨h1, h2⟩ => by
  subst h2; exact ⟨⟨⟨kv_free _, trivial⟩, kv_free _⟩, trimmed_t l h1⟩
theorem Sy.trimp_t (l : List TokV) (h : limC l) : CallTo Try.prog 23 [kv l] M0 fun v _ => v = kv (trim l) :=
  toV [cTrimL l (trim l), cCloneD (trim l)] [] 400 30 ((.yes (.yes .done))) (let T := trim l; (let e1 := (@Value.tuple (@Array.mk _ [])); let e2 := (@AV.view (l).length 3 (fun y0 => (fun y1 => (@AV.lit ([(@Value.int IntKind.i64 ((l.getD y0 tok0)).kind), (@Value.string ((l.getD y0 tok0)).text), (@Value.int IntKind.i64 ((l.getD y0 tok0)).n)].getD y1 e1))))); let e3 := (@AV.view (T).length 3 (fun y0 => (fun y1 => (@AV.lit ([(@Value.int IntKind.i64 ((T.getD y0 tok0)).kind), (@Value.string ((T.getD y0 tok0)).text), (@Value.int IntKind.i64 ((T.getD y0 tok0)).n)].getD y1 e1))))); (.need (@isSo (@And ((@HAppend.hAppend _ _ _ _ (@HAppend.hAppend _ _ _ _ [] [e2]) []) = [e2]) (@And (@lim l) (T = (@trim l))))) (.need (@isSo (@And ((@HAppend.hAppend _ _ _ _ (@HAppend.hAppend _ _ _ _ [] [e3]) []) = [e3]) ((T).length ≤ 100000))) (.leaf e3))))) (by kernel_rfl) (need_so ⟨rfl, h.lim, rfl⟩ (need_so ⟨rfl, Nat.le_trans (trim_len l) h⟩ rfl))
end Go.Proofs.Ytlmanlpgknhfpaa
namespace Go.Proofs.Ytlmanlpgknhfpaa.Sy
open Go Go.RowKit
def pull (σ : Nat → Option Nat) (ρ : Rho) : Rho := { ρ with blk := fun b => match σ b with | some c => ρ c | none => none, nil := fun b => match σ b with | some c => ρ.nil c | none => false }
theorem pull_blk {σ : Nat → Option Nat} {ρ : Rho} {b c : Nat} (h : σ b = some c) : (pull σ ρ) b = ρ c := by simp only [pull, h]
theorem pull_nil {σ : Nat → Option Nat} {ρ : Rho} {b c : Nat} (h : σ b = some c) : (pull σ ρ).nil b = ρ.nil c := by simp only [pull, h]
mutual
def RenV (σ : Nat → Option Nat) : AV → AV → Prop
  | .lit a, .lit b => a = b
  | .lit a, .view n s cell => a = .slice none 0 0 ∧ n = 0
  | .esl, .esl => True
  | .ptr b o, .ptr b2 o2 => σ b2 = some b ∧ o = o2
  | .sl b o n c s, .sl b2 o2 n2 c2 s2 => σ b2 = some b ∧ o = o2 ∧ n = n2 ∧ c = c2 ∧ s = s2
  | .agg cs, .agg ds => RenVs σ cs ds
  | .tup cs, .tup ds => RenVs σ cs ds
  | .fn f a c, .fn f2 a2 c2 => f = f2 ∧ RenVs σ a a2 ∧ RenVs σ c c2
  | .view n s cell, .view n2 s2 cell2 => n = n2 ∧ s = s2 ∧ ∀ i j, i < n → j < s → RenV σ (cell i j) (cell2 i j)
  | .vptr m cell, .vptr m2 cell2 => m = m2 ∧ ∀ j, j < m → RenV σ (cell j) (cell2 j)
  | .own b n s, .own b2 n2 s2 => σ b2 = some b ∧ n = n2 ∧ s = s2
  | .rptr b i s o, .rptr b2 i2 s2 o2 => σ b2 = some b ∧ i = i2 ∧ s = s2 ∧ o = o2
  | _, _ => False
def RenVs (σ : Nat → Option Nat) : List AV → List AV → Prop
  | [], [] => True
  | v :: vs, v2 :: vs2 => RenV σ v v2 ∧ RenVs σ vs vs2
  | _, _ => False
end
mutual
theorem RenV.rel {σ : Nat → Option Nat} {ρ : Rho} : ∀ {v v2 : AV} {u : Value}, RenV σ v v2 → rel ρ v u → rel (pull σ ρ) v2 u
  | .lit a, v2, u, h, hr => by
    cases v2 <;> simp only [RenV] at h
    · subst h; simpa [Sy.rel] using hr
    · obtain ⟨rfl, rfl⟩ := h
      simp only [Sy.rel] at hr ⊢
      exact ⟨none, 0, hr, Nat.le_refl _, Nat.zero_le _, fun _ => rfl, fun h => absurd h (by omega)⟩
  | .esl, v2, u, h, hr => by
    cases v2 <;> simp only [RenV] at h
    simpa only [Sy.rel] using hr
  | .ptr b o, v2, u, h, hr => by
    cases v2 <;> simp only [RenV] at h
    obtain ⟨h1, rfl⟩ := h
    simp only [Sy.rel] at hr ⊢
    obtain ⟨g, tot, q1, q2⟩ := hr
    exact ⟨g, tot, by rw [pull_blk h1]; exact q1, q2⟩
  | .sl b o n c s, v2, u, h, hr => by
    cases v2 <;> simp only [RenV] at h
    obtain ⟨h1, rfl, rfl, rfl, rfl⟩ := h
    simp only [Sy.rel] at hr ⊢
    obtain ⟨g, tot, cap, q1, q2⟩ := hr
    exact ⟨g, tot, cap, by rw [pull_blk h1]; exact q1, q2⟩
  | .agg cs, v2, u, h, hr => by
    cases v2 <;> simp only [RenV] at h
    simp only [Sy.rel] at hr ⊢
    obtain ⟨l, q1, q2⟩ := hr
    exact ⟨l, q1, RenVs.rels h q2⟩
  | .tup cs, v2, u, h, hr => by
    cases v2 <;> simp only [RenV] at h
    simp only [Sy.rel] at hr ⊢
    obtain ⟨l, q1, q2⟩ := hr
    exact ⟨l, q1, RenVs.rels h q2⟩
  | .fn f a c, v2, u, h, hr => by
    cases v2 <;> simp only [RenV] at h
    obtain ⟨rfl, h1, h2⟩ := h
    simp only [Sy.rel] at hr ⊢
    obtain ⟨l, m, q1, q2, q3⟩ := hr
    exact ⟨l, m, q1, RenVs.rels h1 q2, RenVs.rels h2 q3⟩
  | .view n s cell, v2, u, h, hr => by
    cases v2 <;> simp only [RenV] at h
    obtain ⟨rfl, rfl, h1⟩ := h
    simp only [Sy.rel] at hr ⊢
    obtain ⟨a, cap, q1, q2, q3, q4, q5⟩ := hr
    refine ⟨a, cap, q1, q2, q3, q4, fun hn => ?_⟩
    obtain ⟨g, o, h6, h7⟩ := q5 hn
    refine ⟨g, o, h6, fun i j hi hj => ?_⟩
    obtain ⟨x, h8, h9, h10⟩ := h7 i j hi hj
    exact ⟨x, h8, RenV.rel (h1 i j hi hj) h9, h10⟩
  | .vptr m cell, v2, u, h, hr => by
    cases v2 <;> simp only [RenV] at h
    obtain ⟨rfl, h1⟩ := h
    simp only [Sy.rel] at hr ⊢
    obtain ⟨g, o, q1, q2⟩ := hr
    refine ⟨g, o, q1, fun j hj => ?_⟩
    obtain ⟨x, h8, h9⟩ := q2 j hj
    exact ⟨x, h8, RenV.rel (h1 j hj) h9⟩
  | .own b n s, v2, u, h, hr => by
    cases v2 <;> simp only [RenV] at h
    obtain ⟨h1, rfl, rfl⟩ := h
    simp only [Sy.rel] at hr ⊢
    rcases hr with ⟨q1, q2⟩ | ⟨g, tot, cap, q1, q2⟩
    · exact .inl ⟨by rw [pull_nil h1]; exact q1, q2⟩
    · exact .inr ⟨g, tot, cap, by rw [pull_blk h1]; exact q1, q2⟩
  | .rptr b i s o, v2, u, h, hr => by
    cases v2 <;> simp only [RenV] at h
    obtain ⟨h1, rfl, rfl, rfl⟩ := h
    simp only [Sy.rel] at hr ⊢
    obtain ⟨g, tot, q1, q2⟩ := hr
    exact ⟨g, tot, by rw [pull_blk h1]; exact q1, q2⟩
theorem RenVs.rels {σ : Nat → Option Nat} {ρ : Rho} : ∀ {l l2 : List AV} {u : List Value}, RenVs σ l l2 → rels ρ l u → rels (pull σ ρ) l2 u
  | [], l2, u, h, hr => by
    cases l2 <;> simp only [RenVs] at h
    simpa only [Sy.rels] using hr
  | v :: vs, l2, u, h, hr => by
    cases l2 <;> simp only [RenVs] at h
    simp only [Sy.rels] at hr ⊢
    obtain ⟨x, xs, q1, q2, q3⟩ := hr
    exact ⟨x, xs, q1, RenV.rel h.1 q2, RenVs.rels h.2 q3⟩
end
mutual
theorem RenV.free (σ : Nat → Option Nat) : ∀ {v : AV}, Free v → RenV σ v v
  | .lit _, _ => by simp only [RenV]
  | .esl, _ => by simp only [RenV]
  | .ptr .., h => by simp [Free] at h
  | .sl .., h => by simp [Free] at h
  | .own .., h => by simp [Free] at h
  | .rptr .., h => by simp [Free] at h
  | .agg cs, h => by
    simp only [Free] at h
    simp only [RenV]
    exact RenVs.free σ h
  | .tup cs, h => by
    simp only [Free] at h
    simp only [RenV]
    exact RenVs.free σ h
  | .fn f a b, h => by
    simp only [Free] at h
    simp only [RenV]
    exact ⟨trivial, RenVs.free σ h.1, RenVs.free σ h.2⟩
  | .view n s cell, h => by
    simp only [Free] at h
    simp only [RenV]
    exact ⟨trivial, trivial, fun i j _ _ => RenV.free σ (h i j)⟩
  | .vptr n cell, h => by
    simp only [Free] at h
    simp only [RenV]
    exact ⟨trivial, fun j _ => RenV.free σ (h j)⟩
theorem RenVs.free (σ : Nat → Option Nat) : ∀ {v : List AV}, Frees v → RenVs σ v v
  | [], _ => by simp only [RenVs]
  | v :: vs, h => by
    simp only [Frees] at h
    simp only [RenVs]
    exact ⟨RenV.free σ h.1, RenVs.free σ h.2⟩
end
theorem RenVs.get {σ : Nat → Option Nat} : ∀ {l l2 : List AV}, RenVs σ l l2 → ∀ (i : Nat) (v2 : AV), l2[i]? = some v2 → ∃ v, l[i]? = some v ∧ RenV σ v v2
  | [], l2, h, i, v2, h2 => by
    cases l2 <;> simp only [RenVs] at h
    simp at h2
  | v :: vs, l2, h, i, v2, h2 => by
    cases l2 <;> simp only [RenVs] at h
    cases i with
    | zero => simp at h2; subst h2; exact ⟨v, rfl, h.1⟩
    | succ i => simpa using RenVs.get h.2 i v2 (by simpa using h2)
def RenF (σ : Nat → Option Nat) : Fr → Fr → Prop
  | [], [] => True
  | _ :: F, none :: F2 => RenF σ F F2
  | some v :: F, some v2 :: F2 => RenV σ v v2 ∧ RenF σ F F2
  | _, _ => False
theorem RenF.len {σ : Nat → Option Nat} : ∀ {F F2 : Fr}, RenF σ F F2 → F2.length = F.length
  | [], [], _ => rfl
  | x :: F, none :: F2, h => by
    have : RenF σ F F2 := by cases x <;> simpa only [RenF] using h
    simp [RenF.len this]
  | some v :: F, some v2 :: F2, h => by
    simp only [RenF] at h
    simp [RenF.len h.2]
  | [], _ :: _, h => by simp [RenF] at h
  | _ :: _, [], h => by simp [RenF] at h
  | none :: _, some _ :: _, h => by simp [RenF] at h
theorem RenF.get {σ : Nat → Option Nat} : ∀ {F F2 : Fr}, RenF σ F F2 → ∀ (t : Nat) (v2 : AV), F2[t]? = some (some v2) → ∃ v, F[t]? = some (some v) ∧ RenV σ v v2
  | [], [], _, t, v2, h2 => by simp at h2
  | x :: F, none :: F2, h, t, v2, h2 => by
    have h' : RenF σ F F2 := by cases x <;> simpa only [RenF] using h
    cases t with
    | zero => simp at h2
    | succ t => simpa using RenF.get h' t v2 (by simpa using h2)
  | some v :: F, some w2 :: F2, h, t, v2, h2 => by
    simp only [RenF] at h
    cases t with
    | zero => simp at h2; subst h2; exact ⟨v, rfl, h.1⟩
    | succ t => simpa using RenF.get h.2 t v2 (by simpa using h2)
  | [], _ :: _, h, _, _, _ => by simp [RenF] at h
  | _ :: _, [], h, _, _, _ => by simp [RenF] at h
  | none :: _, some _ :: _, h, _, _, _ => by simp [RenF] at h
theorem RenF.fr {σ : Nat → Option Nat} {ρ : Rho} {F F2 : Fr} {a : Act} (h : RenF σ F F2) (hF : FR ρ F a) : FR (pull σ ρ) F2 a :=
  ⟨by rw [h.len]; exact hF.len, fun t v2 hv => by
    obtain ⟨v, h1, h2⟩ := h.get t v2 hv
    exact h2.rel (hF.val t v h1), hF.defers⟩
def RenR (σ : Nat → Option Nat) : Option Rw → Option Rw → Prop
  | none, none => True
  | some R, some R2 => R2.n = R.n ∧ R2.s = R.s ∧ ∀ i j, i < R2.n → j < R2.s → RenV σ (R.cell i j) (R2.cell i j)
  | _, _ => False
def RenB (σ : Nat → Option Nat) (B B2 : Blk) : Prop := B2.elem = B.elem ∧ RenVs σ B.cells B2.cells ∧ RenR σ B.rows B2.rows
def RenL (σ : Nat → Option Nat) (M : Mem) : List (Option Blk) → Prop
  | [] => True
  | none :: l => RenL σ M l
  | some B2 :: l => (∃ c B, σ l.length = some c ∧ M.get c = some B ∧ RenB σ B B2) ∧ RenL σ M l
structure RenM (σ : Nat → Option Nat) (M M2 : Mem) : Prop where
  top : M2.bs.length = M2.top
  dom : ∀ b c, σ b = some c → b < M2.top
  inj : ∀ b b' c, σ b = some c → σ b' = some c → b = b'
  blks : RenL σ M M2.bs
abbrev nm (l : List Nat) : Nat → Option Nat := fun b => l[b]?
theorem nm_dom {l : List Nat} {n : Nat} (h : l.length ≤ n) : ∀ b c, nm l b = some c → b < n := fun b c hb => Nat.lt_of_lt_of_le (List.getElem?_eq_some_iff.1 hb).1 h
theorem nm_inj {l : List Nat} (h : l.Nodup) : ∀ b b' c, nm l b = some c → nm l b' = some c → b = b' := fun b b' c h1 h2 => by
  obtain ⟨q1, q2⟩ := List.getElem?_eq_some_iff.1 h1
  obtain ⟨q3, q4⟩ := List.getElem?_eq_some_iff.1 h2
  have hp := List.pairwise_iff_getElem.1 h
  rcases Nat.lt_trichotomy b b' with hl | hl | hl
  · exact absurd (q2.trans q4.symm) (hp b b' q1 q3 hl)
  · exact hl
  · exact absurd (q4.trans q2.symm) (hp b' b q3 q1 hl)
theorem RenM.of {l : List Nat} {M M2 : Mem} (h1 : M2.bs.length = M2.top) (h2 : l.length = M2.top) (h3 : l.Nodup) (h4 : RenL (nm l) M M2.bs) : RenM (nm l) M M2 := ⟨h1, nm_dom (by omega), nm_inj h3, h4⟩
theorem RenL.get {σ : Nat → Option Nat} {M : Mem} : ∀ {l : List (Option Blk)}, RenL σ M l → ∀ (i : Nat) (B2 : Blk), l[i]? = some (some B2) → ∃ c B, σ (l.length - 1 - i) = some c ∧ M.get c = some B ∧ RenB σ B B2
  | [], _, i, B2, h2 => by simp at h2
  | none :: l, h, i, B2, h2 => by
    simp only [RenL] at h
    cases i with
    | zero => simp at h2
    | succ i =>
      have := RenL.get h i B2 (by simpa using h2)
      rw [show (none :: l).length - 1 - (i + 1) = l.length - 1 - i by simp only [List.length_cons]; omega]
      exact this
  | some B :: l, h, i, B2, h2 => by
    simp only [RenL] at h
    cases i with
    | zero =>
      simp at h2; subst h2
      rw [show (some B :: l).length - 1 - 0 = l.length by simp]
      exact h.1
    | succ i =>
      have := RenL.get h.2 i B2 (by simpa using h2)
      rw [show (some B :: l).length - 1 - (i + 1) = l.length - 1 - i by simp only [List.length_cons]; omega]
      exact this
theorem RenM.get {σ : Nat → Option Nat} {M M2 : Mem} (h : RenM σ M M2) {b : Nat} {B2 : Blk} (hb : M2.get b = some B2) : b < M2.top ∧ ∃ c B, σ b = some c ∧ M.get c = some B ∧ RenB σ B B2 := by
  have hlt := Mem.get_lt hb
  refine ⟨hlt, ?_⟩
  rw [Mem.get_def, if_pos hlt] at hb
  cases hC : M2.bs[M2.top - 1 - b]? with
  | none => rw [hC] at hb; cases hb
  | some x =>
    cases x with
    | none => rw [hC] at hb; cases hb
    | some C =>
      rw [hC] at hb
      simp at hb; subst hb
      obtain ⟨c, B, h1, h2⟩ := h.blks.get _ _ hC
      rw [h.top, show M2.top - 1 - (M2.top - 1 - b) = b by omega] at h1
      exact ⟨c, B, h1, h2⟩
theorem Holds.ren {σ : Nat → Option Nat} {ρ : Rho} {B B2 : Blk} {cur : Array Value} (h : RenB σ B B2) (hH : Holds ρ B cur) : Holds (pull σ ρ) B2 cur := by
  obtain ⟨h1, h2, h3⟩ := h
  refine ⟨fun i v2 hv => ?_, fun R2 hR i j hi hj => ?_⟩
  · obtain ⟨v, q1, q2⟩ := h2.get i v2 hv
    obtain ⟨u, q3, q4⟩ := hH.1 i v q1
    exact ⟨u, q3, q2.rel q4⟩
  · rw [hR] at h3
    cases hB : B.rows with
    | none => rw [hB] at h3; simp only [RenR] at h3
    | some R =>
      rw [hB] at h3
      simp only [RenR] at h3
      obtain ⟨e1, e2, e3⟩ := h3
      obtain ⟨u, q3, q4, q5⟩ := hH.2 R hB i j (by omega) (by omega)
      exact ⟨u, by rw [e2]; exact q3, (e3 i j hi hj).rel q4, q5⟩
theorem WR.ren {w0 : World} {ρ : Rho} {M M2 : Mem} {w : World} {σ : Nat → Option Nat} (h : WR w0 ρ M w) (hM : RenM σ M M2) : WR w0 (pull σ ρ) M2 w := by
  have dom := hM.dom
  have inj := hM.inj
  have up : ∀ b x, (pull σ ρ) b = some x → ∃ c, σ b = some c ∧ ρ c = some x := fun b x hb => by
    simp only [pull] at hb
    split at hb
    · rename_i c hc; exact ⟨c, hc, hb⟩
    · cases hb
  refine ⟨h.keep, fun b g hb => ?_, fun b hb => ?_, fun b B g tot h1 h2 => ?_, fun b B h1 => ?_, fun b b' B B' g t t' h1 h2 h3 h4 => ?_, h.still, h.first, fun b B g t h1 h2 => ?_⟩
  · obtain ⟨c, hc, _⟩ := up b g hb
    exact dom b c hc
  · have hb' := hb
    simp only [pull] at hb
    split at hb
    · rename_i c hc
      exact ⟨dom b c hc, by rw [pull_blk hc]; exact (h.nild c hb).2⟩
    · cases hb
  · obtain ⟨_, c, C, q1, q2, q3⟩ := hM.get h1
    rw [pull_blk q1] at h2
    obtain ⟨r1, cur, r2, r3, r4⟩ := h.holds q2 h2
    exact ⟨r1, cur, by rw [q3.1]; exact r2, r3, Holds.ren q3 r4⟩
  · obtain ⟨_, c, C, q1, q2, q3⟩ := hM.get h1
    rcases h.has c C q2 with ⟨g, t, e⟩ | ⟨e1, e2, R, e3, e4⟩
    · exact .inl ⟨g, t, by rw [pull_blk q1]; exact e⟩
    · refine .inr ⟨by rw [pull_nil q1]; exact e1, ?_, ?_⟩
      · have := q3.2.1
        rw [e2] at this
        cases hc : B.cells with
        | nil => rfl
        | cons x xs => rw [hc] at this; simp [RenVs] at this
      · have := q3.2.2
        rw [e3] at this
        cases hc : B.rows with
        | none => rw [hc] at this; simp [RenR] at this
        | some R2 => rw [hc] at this; simp only [RenR] at this; exact ⟨R2, rfl, by omega⟩
  · obtain ⟨_, c, C, q1, q2, _⟩ := hM.get h1
    obtain ⟨_, c', C', q1', q2', _⟩ := hM.get h2
    rw [pull_blk q1] at h3
    rw [pull_blk q1'] at h4
    have := h.inj c c' C C' g t t' q2 q2' h3 h4
    subst this
    exact inj b b' c q1 q1'
  · obtain ⟨_, c, C, q1, q2, _⟩ := hM.get h1
    rw [pull_blk q1] at h2
    exact h.apart c C g t q2 h2
def LoopToT (T : Nat) (P : Program) (body : Code) (n : Nat) (F : Fr) (M : Mem) (G : Ex → Fr → Mem → Prop) : Prop := ∀ w0 ρ a w (Q : Exit → Act → World → Prop), FR ρ F a → WR w0 ρ M w →
  (∀ ex F' M' ρ' a' w', G ex F' M' → Ext (cutR T ρ) ρ' → FR ρ' F' a' → WR w0 ρ' M' w' → Q ex.to a' w') → Code.rounds P body Q n a w
theorem Ext.cutR {ρ ρ' : Rho} (T : Nat) (h : Ext ρ ρ') : Ext (cutR T ρ) ρ' := ⟨fun b g hb => (by
    simp only [Sy.cutR] at hb
    split at hb
    · exact h.blk b g hb
    · cases hb), fun b hb => (by
    simp only [Sy.cutR] at hb
    split at hb
    · exact h.nil b hb
    · cases hb), h.still, h.base, h.mine⟩
theorem LoopTo.toT {P : Program} {b : Code} {n : Nat} {F : Fr} {M : Mem} {G : Ex → Fr → Mem → Prop} (T : Nat) (h : LoopTo P b n F M G) : LoopToT T P b n F M G := fun w0 ρ a w Q hF hW hQ => h w0 ρ a w Q hF hW fun ex F' M' ρ' a' w' hg h1 h2 h3 => hQ ex F' M' ρ' a' w' hg (h1.cutR T) h2 h3
theorem LoopToT.to {T : Nat} {P : Program} {b : Code} {n : Nat} {F : Fr} {M : Mem} {G : Ex → Fr → Mem → Prop} (h : LoopToT T P b n F M G) (hT : M.top ≤ T) : LoopTo P b n F M G := fun w0 ρ a w Q hF hW hQ => h w0 ρ a w Q hF hW fun ex F' M' ρ' a' w' hg h1 h2 h3 => hQ ex F' M' ρ' a' w' hg ⟨fun b g hb => h1.blk b g (by
    have := hW.dom b g hb
    simp only [Sy.cutR, if_pos (show b < T by omega)]; exact hb), fun b hb => h1.nil b (by
    have := (hW.nild b hb).1
    simp only [Sy.cutR, if_pos (show b < T by omega)]; exact hb), h1.still, h1.base, h1.mine⟩ h2 h3
theorem LoopToT.mono {T : Nat} {P : Program} {b : Code} {n : Nat} {F : Fr} {M : Mem} {G H : Ex → Fr → Mem → Prop} (h : LoopToT T P b n F M G) (hG : ∀ ex F M, G ex F M → H ex F M) : LoopToT T P b n F M H := fun w0 ρ a w Q hF hW hQ => h w0 ρ a w Q hF hW fun ex F' M' ρ' a' w' hg => hQ ex F' M' ρ' a' w' (hG ex F' M' hg)
theorem LoopToT.nil {T : Nat} {P : Program} {b : Code} {n : Nat} {F : Fr} {M : Mem} {G : Ex → Fr → Mem → Prop} (t : Nat) (e : TypeId) (s : Nat) (cell : Nat → Nat → AV) (hT : T ≤ M.top) (ht : F[t]? = some (some (.lit (.slice none 0 0)))) (h : LoopToT T P b n (F.set t (some (.own M.top 0 s))) (M.push ⟨[], e, some ⟨0, s, cell⟩⟩) G) : LoopToT T P b n F M G := fun w0 ρ a w Q hF hW hQ => by
  obtain ⟨h1, h2, h3⟩ := hW.virt e s cell
  refine h w0 _ a w Q ⟨by rw [List.length_set]; exact hF.len, fun t' v hv => ?_, hF.defers⟩ h3 fun ex F' M' ρ' a' w' hg q1 q2 q3 => hQ ex F' M' ρ' a' w' hg ?_ q2 q3
  · rw [List.getElem?_set] at hv
    by_cases e1 : t = t'
    · subst e1
      simp only [if_true] at hv
      split at hv
      · simp at hv; subst hv
        have := hF.val t _ ht
        simp only [rel] at this ⊢
        exact .inl ⟨h2, trivial, this⟩
      · cases hv
    · rw [if_neg e1] at hv
      exact (hF.val t' v hv).ext h1
  · exact ⟨fun b g hb => q1.blk b g (by
      simp only [Sy.cutR] at hb ⊢
      split at hb
      · rename_i hlt; rw [if_pos hlt]; exact h1.blk b g hb
      · cases hb), fun b hb => q1.nil b (by
      simp only [Sy.cutR] at hb ⊢
      split at hb
      · rename_i hlt; rw [if_pos hlt]; exact h1.nil b hb
      · cases hb), fun g o v hv => q1.still g o v (h1.still g o v hv), q1.base.trans h1.base, q1.mine.trans h1.mine⟩
theorem LoopToT.renG {T : Nat} {P : Program} {b : Code} {n : Nat} {F F2 : Fr} {M M2 : Mem} {G : Ex → Fr → Mem → Prop} (σ : Nat → Option Nat) (id : ∀ b, b < T → σ b = some b) (hF2 : RenF σ F F2) (hM : RenM σ M M2) (h : LoopToT T P b n F2 M2 G) : LoopToT T P b n F M G := fun w0 ρ a w Q hF hW hQ => by
  refine h w0 _ a w Q (hF2.fr hF) (hW.ren hM) fun ex F' M' ρ' a' w' hg q1 q2 q3 => hQ ex F' M' ρ' a' w' hg ⟨fun b g hb => q1.blk b g ?_, fun b hb => q1.nil b ?_, q1.still, q1.base, q1.mine⟩ q2 q3
  · simp only [Sy.cutR] at hb ⊢
    split at hb
    · rename_i hlt; rw [if_pos hlt]; show (pull σ ρ) b = _; rw [pull_blk (id b hlt)]; exact hb
    · cases hb
  · simp only [Sy.cutR] at hb ⊢
    split at hb
    · rename_i hlt; rw [if_pos hlt]; show (pull σ ρ).nil b = _; rw [pull_nil (id b hlt)]; exact hb
    · cases hb
theorem nm_id {l : List Nat} {T : Nat} (h0 : l.take T = List.range T) : ∀ b, b < T → nm l b = some b := fun b hb => by
  have : (l.take T)[b]? = some b := by rw [h0]; simp [hb]
  rwa [List.getElem?_take, if_pos hb] at this
theorem LoopToT.ren {T : Nat} {P : Program} {b : Code} {n : Nat} {F F2 : Fr} {M M2 : Mem} {G : Ex → Fr → Mem → Prop} (l : List Nat) (h0 : l.take T = List.range T) (hF2 : RenF (nm l) F F2) (hM : RenM (nm l) M M2) (h : LoopToT T P b n F2 M2 G) : LoopToT T P b n F M G := LoopToT.renG (nm l) (nm_id h0) hF2 hM h
def EndT (T : Nat) (P : Program) (body : Code) (n : Nat) (G : Ex → Fr → Mem → Prop) (ex : Ex) (F : Fr) (M : Mem) : Prop := match ex with
  | .norm => LoopToT T P body n F M G
  | .exit id => G (.exit id) F M
  | .ret => G .ret F M
theorem roundT {P : Program} (hP : Plainly P) (hm : P.follows .mixedOrders = true) (T : Nat) (l : List (Con P)) (lp : List (Lp P)) (k m : Nat) (f : FuncId) (key : Nat) {fn : Func} {c : Code} (hf : P.funcs[f]? = some fn) (hb : fn.body = some c) (hin : Nat.beq (loopsIn P f key).length 1 = true) (p : List Bool) {n : Nat} {F : Fr} {M : Mem} (d : D) (t : Tr (Ex × Fr × Mem)) {G : Ex → Fr → Mem → Prop}
    (h : codeK P (table l) (callK P (table l) (lpOf lp) k m) (lpOf lp f) k (theBody P f key) F M d (fun ex F' M' _ => .leaf (ex, maskF p F', M')) = t)
    (ht : t.Ok fun r => EndT T P (theBody P f key) n G r.1 r.2.1 r.2.2) : LoopToT T P (theBody P f key) (n + 1) F M G := fun w0 ρ a w Q hF hW hQ => by
  subst h
  rw [rounds_succ]
  refine codeK_sound hP hm (table_ok l) (callK_ok hP hm (table_ok l) (lps_ok lp) k m) k _ (body_ok lp hf hb hin) hF hW ht fun ex F' M' d' ρ' a' w' h0 h1 h2 h3 => ?_
  cases ex with
  | norm => exact h0 w0 _ a' w' Q (h2.mask p) h3 fun ex2 F2 M2 ρ2 a2 w2 g r1 r2 r3 => hQ ex2 F2 M2 ρ2 a2 w2 g ⟨fun b g hb => r1.blk b g (by
      simp only [Sy.cutR] at hb ⊢
      split at hb
      · rename_i hlt; rw [if_pos hlt]; exact h1.blk b g hb
      · cases hb), fun b hb => r1.nil b (by
      simp only [Sy.cutR] at hb ⊢
      split at hb
      · rename_i hlt; rw [if_pos hlt]; exact h1.nil b hb
      · cases hb), fun g o v hv => r1.still g o v (h1.still g o v hv), r1.base.trans h1.base, r1.mine.trans h1.mine⟩ r2 r3
  | exit id => exact hQ (.exit id) _ _ _ a' w' h0 (h1.cutR T) (h2.mask p) h3
  | ret => exact hQ .ret _ _ _ a' w' h0 (h1.cutR T) (h2.mask p) h3
end Go.Proofs.Ytlmanlpgknhfpaa.Sy
namespace Go.Proofs.Ytlmanlpgknhfpaa.Sy
open Go Go.RowKit
noncomputable def frz (keep : Bool) (M : Mem) (ρ : Rho) (w : World) : Nat → Nat → Option Value := fun g o => by
  classical
  exact if ∃ b B t, M.get b = some B ∧ ρ b = some (g, t) ∧ ρ.mine g = false then w.cell? ⟨g, o, none⟩ else match keep with | true => ρ.still g o | false => none
def ofS (st : Nat → Nat → Option Value) : Rho := ⟨fun _ => none, fun _ => false, st, st, fun _ => false⟩
def MineT (T : Nat) (M : Mem) (ρ : Rho) : Prop := ∀ g, ρ.mine g = true → ∃ b t B, b < T ∧ M.get b = some B ∧ ρ b = some (g, t)
def Frz (keep : Bool) (T : Nat) (M : Mem) (v v0 : AV) : Prop := ∀ w0 ρ w u, WR w0 ρ M w → MineT T M ρ → rel ρ v u → rel (ofS (frz keep M ρ w)) v0 u
def Frzs (keep : Bool) (T : Nat) (M : Mem) : List AV → List AV → Prop
  | [], [] => True
  | v :: l, v0 :: l0 => Frz keep T M v v0 ∧ Frzs keep T M l l0
  | _, _ => False
theorem frz_still {w0 : World} {ρ : Rho} {M : Mem} {w : World} (hW : WR w0 ρ M w) {g o : Nat} {x : Value} (h : ρ.still g o = some x) : frz true M ρ w g o = some x := by
  unfold frz
  split
  · exact hW.still g o x h
  · exact h
theorem frz_own {w0 : World} {ρ : Rho} {M : Mem} {w : World} {T : Nat} (hW : WR w0 ρ M w) (hm : MineT T M ρ) {keep : Bool} {b g t o : Nat} {B : Blk} (hb : M.get b = some B) (hg : ρ b = some (g, t)) (hT : T ≤ b) : frz keep M ρ w g o = w.cell? ⟨g, o, none⟩ := by
  unfold frz
  rw [if_pos]
  refine ⟨b, B, t, hb, hg, ?_⟩
  cases h : ρ.mine g with
  | false => rfl
  | true =>
    obtain ⟨b', t', B', q1, q2, q3⟩ := hm g h
    have := hW.inj b b' B B' g t t' hb q2 hg q3
    omega
theorem Frz.lit (keep : Bool) (T : Nat) (M : Mem) (v : Value) : Frz keep T M (.lit v) (.lit v) := fun w0 ρ w u hW hm hr => by simpa only [rel] using hr
theorem Frz.free (T : Nat) (M : Mem) {v : AV} (hf : Free v) : Frz true T M v v := fun w0 ρ w u hW hm hr => rel.free (fun g o x h => frz_still hW h) hf hr
theorem Frzs.rels {keep : Bool} {T : Nat} {M : Mem} : ∀ {l l0 : List AV}, Frzs keep T M l l0 → ∀ {w0 ρ w us}, WR w0 ρ M w → MineT T M ρ → rels ρ l us → rels (ofS (frz keep M ρ w)) l0 us
  | [], l0, h, w0, ρ, w, us, hW, hm, hr => by
    cases l0 <;> simp only [Frzs] at h
    simpa only [Sy.rels] using hr
  | v :: l, l0, h, w0, ρ, w, us, hW, hm, hr => by
    cases l0 <;> simp only [Frzs] at h
    simp only [Sy.rels] at hr ⊢
    obtain ⟨x, xs, q1, q2, q3⟩ := hr
    exact ⟨x, xs, q1, h.1 w0 ρ w x hW hm q2, Frzs.rels h.2 hW hm q3⟩
theorem Frz.agg {keep : Bool} {T : Nat} {M : Mem} {l l0 : List AV} (h : Frzs keep T M l l0) : Frz keep T M (.agg l) (.agg l0) := fun w0 ρ w u hW hm hr => by
  simp only [rel] at hr ⊢
  obtain ⟨us, q1, q2⟩ := hr
  exact ⟨us, q1, h.rels hW hm q2⟩
theorem Frz.tup {keep : Bool} {T : Nat} {M : Mem} {l l0 : List AV} (h : Frzs keep T M l l0) : Frz keep T M (.tup l) (.tup l0) := fun w0 ρ w u hW hm hr => by
  simp only [rel] at hr ⊢
  obtain ⟨us, q1, q2⟩ := hr
  exact ⟨us, q1, h.rels hW hm q2⟩
theorem Frz.own {keep : Bool} {T : Nat} {M : Mem} {b n s : Nat} {B : Blk} {R : Rw} {cell : Nat → Nat → AV} (hT : T ≤ b) (hb : M.get b = some B) (hR : B.rows = some R) (hn : n ≤ R.n) (hs : R.s = s) (hc : ∀ i j, i < n → j < s → Frz keep T M (R.cell i j) (cell i j)) : Frz keep T M (.own b n s) (.view n s cell) := fun w0 ρ w u hW hm hr => by
  simp only [rel] at hr ⊢
  rcases hr with ⟨_, rfl, rfl⟩ | ⟨g, tot, cap, hg, rfl, h1, h2, h3⟩
  · exact ⟨none, 0, rfl, Nat.le_refl _, by unfold maxLen; omega, fun _ => rfl, fun h => by omega⟩
  · obtain ⟨q2, cur, q3, q4, q5⟩ := hW.holds hb hg
    refine ⟨_, cap, rfl, h1, h2, (fun h => by cases h), fun _ => ⟨g, 0, rfl, fun i j hi hj => ?_⟩⟩
    obtain ⟨x, r1, r2, r3⟩ := q5.2 R hR i j (by omega) (by omega)
    refine ⟨x, ?_, hc i j hi hj w0 ρ w x hW hm r2, r3⟩
    show frz keep M ρ w g _ = _
    rw [frz_own hW hm hb hg hT, cell_at q3, Nat.zero_add, ← hs]; exact r1
theorem Frz.nil (keep : Bool) (T : Nat) (M : Mem) (s : Nat) (cell : Nat → Nat → AV) : Frz keep T M (.lit (.slice none 0 0)) (.view 0 s cell) := fun w0 ρ w u hW hm hr => by
  simp only [rel] at hr ⊢
  exact ⟨none, 0, hr, Nat.le_refl _, Nat.zero_le _, fun _ => rfl, fun h => absurd h (by omega)⟩
theorem Frz.sub {keep : Bool} {T : Nat} {M : Mem} {v v0 v1 : AV} (h : Frz keep T M v v0) (hs : Sub v0 v1) : Frz keep T M v v1 := fun w0 ρ w u hW hm hr => hs _ _ (h w0 ρ w u hW hm hr)
def startK (keep : Bool) (ρ : Rho) (w : World) : Rho := match keep with | true => ofS ρ.still | false => rho0 w
theorem startK_start {w0 : World} {ρ : Rho} {M : Mem} {w : World} (hW : WR w0 ρ M w) (keep : Bool) : WR w (startK keep ρ w) ⟨0, 0, []⟩ w := by
  cases keep with
  | false => exact WR.start w
  | true => exact ⟨Keep.refl _ _, fun _ _ h => by simp [startK, ofS] at h, fun _ h => by simp [startK, ofS] at h, fun b B _ _ h => by simp [Mem.get_def] at h, fun b B h => by simp [Mem.get_def] at h, fun b b' B B' g t t' h => by simp [Mem.get_def] at h,
    fun g o v h => hW.still g o v h, fun g o v _ _ h => h, fun b B g t h => by simp [Mem.get_def] at h⟩
def ConvK (keep : Bool) (M : Mem) (args args1 : List AV) : Prop := ∀ (w0 : World) (ρ : Rho) (w : World) (us : List Value), WR w0 ρ M w → rels ρ args us → rels (startK keep ρ w) args1 us
theorem ConvK.free (M : Mem) {args : List AV} (h : Frees args) : ConvK true M args args := fun w0 ρ w us hW hr => rels.free (ρ := ρ) (ρ' := startK true ρ w) (fun _ _ _ h => h) h hr
theorem CallTo.frz {P : Program} {f : FuncId} {args args1 : List AV} {v0 : AV} {keep : Bool} {M : Mem} (h : CallTo P f args1 ⟨0, 0, []⟩ fun v M' => Frz keep 0 M' v v0) (hc : ConvK keep M args args1) (hf : Free v0) : CallTo P f args M fun v M' => v = v0 ∧ M' = M := fun w0 ρ us w hr hW => by
  refine (h w (startK keep ρ w) us w (hc w0 ρ w us hW hr) (startK_start hW keep)).mono ?_
  rintro e w' ⟨ρ', u, v, M', rfl, hE, hv, hW', hG⟩
  have hmine : ∀ g, ρ'.mine g = false := fun g => by rw [hE.mine]; cases keep <;> rfl
  have hbelow : Below w.heap.size w w' := by
    have := hW'.keep
    rw [show ρ'.mine = fun _ => false from funext hmine] at this
    exact Keep.below this
  obtain ⟨q1, q2⟩ := hW.grown hbelow (fun g o => if w.heap.size ≤ g then w'.cell? ⟨g, o, none⟩ else none) (fun g o v hv => by
    split at hv
    · rename_i hh; exact ⟨hh, hv⟩
    · cases hv)
  refine ⟨_, u, v0, M, rfl, q1, rel.free (fun g o x hx => ?_) hf (hG w ρ' w' u hW' (fun g hg => by rw [hmine] at hg; cases hg) hv), q2, rfl, rfl⟩
  have new : ∀ {g o x}, w.heap.size ≤ g → w'.cell? ⟨g, o, none⟩ = some x → (more ρ fun g o => if w.heap.size ≤ g then w'.cell? ⟨g, o, none⟩ else none).still g o = some x := fun {g o x} hg hx => by
    simp only [more]
    rw [if_pos hg, hx]
    cases hs : ρ.still g o with
    | none => rfl
    | some y => have := hW.still_lt hs; omega
  have hx : Sy.frz keep M' ρ' w' g o = some x := hx
  unfold Sy.frz at hx
  split at hx
  · rename_i hh
    obtain ⟨b, B, t, r1, r2, r3⟩ := hh
    obtain ⟨r4, _⟩ := hW'.holds r1 r2
    rcases r4 with r4 | r4
    · exact new r4 hx
    · rw [hmine] at r4; cases r4
  · cases keep with
    | false => cases hx
    | true =>
      rcases Nat.lt_or_ge g w.heap.size with hg | hg
      · have h1 := hW'.first g o x hg (hmine g) hx
        rw [hE.base] at h1
        have h2 : ρ.still g o = some x := h1
        simp only [more, h2]; rfl
      · exact new hg (hW'.still g o x hx)
theorem CallTo.frz0 {P : Program} {f : FuncId} {args : List AV} {v0 : AV} (h : CallTo P f args ⟨0, 0, []⟩ fun v M' => Frz true 0 M' v v0) (ha : Frees args) (hf : Free v0) : CallTo P f args ⟨0, 0, []⟩ fun v _ => v = v0 :=
  (CallTo.frz (M := ⟨0, 0, []⟩) h (ConvK.free _ ha) hf).mono fun v M' hv => hv.1
theorem rels.ext0' {ρ ρ' : Rho} (h1 : ρ'.blk = ρ.blk) (h2 : ρ'.nil = ρ.nil) (h3 : ρ'.still = ρ.still) {l : List AV} {us : List Value} (h : rels ρ l us) : rels ρ' l us := rels.ext0 ⟨fun b g hb => by rw [h1]; exact hb, fun b hb => by rw [h2]; exact hb, fun g o v hv => by rw [h3]; exact hv⟩ h
theorem rel.ext0' {ρ ρ' : Rho} (h1 : ρ'.blk = ρ.blk) (h2 : ρ'.nil = ρ.nil) (h3 : ρ'.still = ρ.still) {v : AV} {u : Value} (h : rel ρ v u) : rel ρ' v u := rel.ext0 ⟨fun b g hb => by rw [h1]; exact hb, fun b hb => by rw [h2]; exact hb, fun g o v hv => by rw [h3]; exact hv⟩ h
theorem Frzs.get {keep : Bool} {T : Nat} {M : Mem} : ∀ {l l0 : List AV}, Frzs keep T M l l0 → ∀ (i : Nat) (v0 : AV), l0[i]? = some v0 → ∃ v, l[i]? = some v ∧ Frz keep T M v v0
  | [], l0, h, i, v0, h2 => by
    cases l0 <;> simp only [Frzs] at h
    simp at h2
  | v :: vs, l0, h, i, v0, h2 => by
    cases l0 <;> simp only [Frzs] at h
    cases i with
    | zero => simp at h2; subst h2; exact ⟨v, rfl, h.1⟩
    | succ i => simpa using Frzs.get h.2 i v0 (by simpa using h2)
theorem Frees.get : ∀ {l : List AV}, Frees l → ∀ (i : Nat) (v : AV), l[i]? = some v → Free v
  | [], _, i, v, h2 => by simp at h2
  | x :: l, h, i, v, h2 => by
    simp only [Frees] at h
    cases i with
    | zero => simp at h2; subst h2; exact h.1
    | succ i => exact Frees.get h.2 i v (by simpa using h2)
theorem CallTo.frame1 {P : Program} {f : FuncId} {args args1 : List AV} {v0 : AV} {M : Mem} {b : Nat} {B0 B B' : Blk} (h : CallTo P f args1 ⟨1, 0, [some B]⟩ fun v M' => Frz true 1 M' v v0 ∧ ∃ B2, M'.get 0 = some B2 ∧ B2.elem = B'.elem ∧ Frzs true 1 M' B2.cells B'.cells)
    (hargs : RenVs (nm [b]) args args1) (hb : M.get b = some B0) (hB0 : RenB (nm [b]) B0 B) (h0 : B0.rows = none) (hB' : B'.rows = none) (hel : B'.elem = B0.elem) (hfc : Frees B'.cells) (hf : Free v0) :
    CallTo P f args M fun v M' => v = v0 ∧ M' = M.put b (some B') := fun w0 ρ us w hr hW => by
  obtain ⟨g0, tot, hg⟩ : ∃ g t, ρ b = some (g, t) := by
    rcases hW.has b B0 hb with h1 | ⟨_, _, R, h2, _⟩
    · exact h1
    · rw [h0] at h2; cases h2
  obtain ⟨hm0, cur, hcur, hsz, hH⟩ := hW.holds hb hg
  have hglt : g0 < w.heap.size := (Array.getElem?_eq_some_iff.1 hcur).1
  let ρ1 : Rho := { pull (nm [b]) ρ with base := ρ.still, mine := fun k => k == g0 }
  have p0 : ρ1 0 = some (g0, tot) := by show (pull (nm [b]) ρ) 0 = _; rw [pull_blk (σ := nm [b]) (b := 0) (c := b) rfl]; exact hg
  have pn : ∀ k, ρ1 (k + 1) = none := fun k => rfl
  have nn : ∀ k, ρ1.nil k = false := fun k => by
    cases k with
    | zero =>
      show ρ.nil b = false
      cases hn : ρ.nil b with
      | false => rfl
      | true => have := (hW.nild b hn).2; rw [hg] at this; cases this
    | succ k => rfl
  have g1 : ∀ k C, Mem.get ⟨1, 0, [some B]⟩ k = some C → k = 0 ∧ C = B := fun k C hk => by
    have := Mem.get_lt hk
    obtain rfl : k = 0 := by simp only at this; omega
    exact ⟨rfl, by rw [Mem.get_def] at hk; simp at hk; exact hk.symm⟩
  have hst : WR w ρ1 ⟨1, 0, [some B]⟩ w := by
    refine ⟨Keep.refl _ _, fun k x hk => ?_, fun k hk => (by rw [nn] at hk; cases hk), fun k C g t h1 h2 => ?_, fun k C h1 => ?_, fun k k' C C' g t t' h1 h2 h3 h4 => (g1 k C h1).1.trans (g1 k' C' h2).1.symm, fun g o v hv => hW.still g o v hv, fun g o v _ _ hv => hv, fun k C g t h1 h2 o => ?_⟩
    · cases k with
      | zero => show 0 < 1; omega
      | succ k => rw [pn] at hk; cases hk
    · obtain ⟨rfl, rfl⟩ := g1 k C h1
      rw [p0] at h2
      simp at h2
      obtain ⟨rfl, rfl⟩ := h2
      obtain ⟨c1, c2⟩ : Holds (pull (nm [b]) ρ) C cur := Holds.ren hB0 hH
      refine ⟨.inr (by show (g0 == g0) = true; simp), cur, by rw [hB0.1]; exact hcur, hsz, fun i v hv => ?_, fun R hR i j hi hj => ?_⟩
      · obtain ⟨u, q1, q2⟩ := c1 i v hv
        exact ⟨u, q1, rel.ext0' (ρ := pull (nm [b]) ρ) (ρ' := ρ1) rfl rfl rfl q2⟩
      · obtain ⟨u, q1, q2, q3⟩ := c2 R hR i j hi hj
        exact ⟨u, q1, rel.ext0' (ρ := pull (nm [b]) ρ) (ρ' := ρ1) rfl rfl rfl q2, q3⟩
    · obtain ⟨rfl, rfl⟩ := g1 k C h1
      exact .inl ⟨g0, tot, p0⟩
    · obtain ⟨rfl, rfl⟩ := g1 k C h1
      rw [p0] at h2
      simp at h2
      obtain ⟨rfl, rfl⟩ := h2
      exact hW.apart b B0 g0 tot hb hg o
  refine (h w ρ1 us w (rels.ext0' (ρ := pull (nm [b]) ρ) (ρ' := ρ1) rfl rfl rfl (hargs.rels hr)) hst).mono ?_
  rintro e w' ⟨ρ', u, v, M', rfl, hE, hv, hW', hG, B2, hB2, hel2, hcells⟩
  have hmine : ∀ g, ρ'.mine g = (g == g0) := fun g => by rw [hE.mine]
  have p0' : ρ' 0 = some (g0, tot) := hE.blk 0 _ p0
  have hMT : MineT 1 M' ρ' := fun g hg1 => by
    rw [hmine] at hg1
    obtain rfl : g = g0 := by simpa using hg1
    exact ⟨0, tot, B2, by omega, hB2, p0'⟩
  obtain ⟨_, cur', hcur', hsz', hH'⟩ := hW'.holds hB2 p0'
  have hold : ∀ k, k < w.heap.size → k ≠ g0 → w'.heap[k]? = w.heap[k]? := fun k hk hne => hW'.keep.block k hk (by rw [hmine]; simpa using hne)
  let st : Nat → Nat → Option Value := fun g o => if w.heap.size ≤ g then w'.cell? ⟨g, o, none⟩ else none
  have new : ∀ {g o x}, w.heap.size ≤ g → w'.cell? ⟨g, o, none⟩ = some x → (more ρ st).still g o = some x := fun {g o x} hg hx => by
    simp only [more, st]
    rw [if_pos hg, hx]
    cases hs : ρ.still g o with
    | none => rfl
    | some y => have := hW.still_lt hs; omega
  have hsub : ∀ g o x, (ofS (Sy.frz true M' ρ' w')).still g o = some x → (more ρ st).still g o = some x := fun g o x hx => by
    have hx : Sy.frz true M' ρ' w' g o = some x := hx
    unfold Sy.frz at hx
    split at hx
    · rename_i hh
      obtain ⟨b, B, t, r1, r2, r3⟩ := hh
      obtain ⟨r4, _⟩ := hW'.holds r1 r2
      rcases r4 with r4 | r4
      · exact new r4 hx
      · rw [r3] at r4; cases r4
    · rcases Nat.lt_or_ge g w.heap.size with hg1 | hg1
      · by_cases hgg : g = g0
        · subst hgg
          have hx : ρ'.still g o = some x := hx
          rw [hW'.apart 0 B2 g tot hB2 p0' o] at hx
          cases hx
        · have h1 := hW'.first g o x hg1 (by rw [hmine]; simpa using hgg) hx
          rw [hE.base] at h1
          have h2 : ρ.still g o = some x := h1
          simp only [more, h2]; rfl
      · exact new hg1 (hW'.still g o x hx)
  have hEm : Ext ρ (more ρ st) := ⟨fun _ _ h => h, fun _ h => h, fun g o v hv => by simp [more, hv], rfl, rfl⟩
  have hlt := Mem.get_lt hb
  have key : ∀ x C, (M.put b (some B')).get x = some C → (x = b ∧ C = B') ∨ (x ≠ b ∧ M.get x = some C) := fun x C hx => by
    rcases Mem.get_put hlt hx with ⟨rfl, e⟩ | e
    · simp at e; exact .inl ⟨rfl, e.symm⟩
    · exact .inr e
  have ne0 : ∀ {x C g t}, x ≠ b → M.get x = some C → ρ x = some (g, t) → g ≠ g0 := fun {x C g t} hx hC hg1 e => by
    subst e
    exact hx (hW.inj x b C B0 g t tot hC hb hg1 hg)
  have ltw : ∀ {x C g t}, M.get x = some C → ρ x = some (g, t) → g < w.heap.size := fun {x C g t} h1 h2 => by
    obtain ⟨_, c, h3, _⟩ := hW.blk x C g t h1 h2
    exact (Array.getElem?_eq_some_iff.1 h3).1
  refine ⟨more ρ st, u, v0, M.put b (some B'), rfl, hEm, rel.free hsub hf (hG w ρ' w' u hW' hMT hv), ?_, rfl, rfl⟩
  refine ⟨⟨hW'.keep.os.trans hW.keep.os, hW'.keep.tape.trans hW.keep.tape, hW'.keep.output.trans hW.keep.output, Nat.le_trans hW.keep.size hW'.keep.size, fun k hk hmk => ?_⟩, hW.dom, hW.nild, fun x C g t h1 h2 => ?_, fun x C h1 => ?_, fun x x' C C' g t t' h1 h2 h3 h4 => ?_, fun g o v hv => ?_, fun g o v hg1 hmg hv => ?_, fun x C g t h1 h2 o => ?_⟩
  · have hne : k ≠ g0 := fun e => by
      subst e
      rcases hm0 with hm0 | hm0
      · omega
      · have : ρ.mine k = false := hmk
        rw [hm0] at this; cases this
    rw [hold k (Nat.lt_of_lt_of_le hk hW.keep.size) hne]
    exact hW.keep.block k hk hmk
  · rcases key x C h1 with ⟨rfl, rfl⟩ | ⟨hx, hC⟩
    · have h2 : ρ x = some (g, t) := h2
      rw [hg] at h2
      simp at h2
      obtain ⟨rfl, rfl⟩ := h2
      refine ⟨hm0, cur', by rw [← hel2]; exact hcur', hsz', fun i v0 hi => ?_, fun R hR => by rw [hB'] at hR; cases hR⟩
      obtain ⟨v1, s1, s2⟩ := hcells.get i v0 hi
      obtain ⟨y, s3, s4⟩ := hH'.1 i v1 s1
      refine ⟨y, s3, rel.free hsub ?_ (s2 w ρ' w' y hW' hMT s4)⟩
      exact Frees.get hfc i v0 hi
    · obtain ⟨q2, c, q3, q4, q5⟩ := hW.holds hC h2
      exact ⟨q2, c, by rw [hold g (ltw hC h2) (ne0 hx hC h2)]; exact q3, q4, q5.ext hEm⟩
  · rcases key x C h1 with ⟨rfl, rfl⟩ | ⟨hx, hC⟩
    · exact .inl ⟨g0, tot, hg⟩
    · exact hW.has x C hC
  · rcases key x C h1 with ⟨rfl, rfl⟩ | ⟨hx, hC⟩ <;> rcases key x' C' h2 with ⟨rfl, rfl⟩ | ⟨hx', hC'⟩
    · rfl
    · exact hW.inj _ _ _ _ g t t' hb hC' h3 h4
    · exact hW.inj _ _ _ _ g t t' hC hb h3 h4
    · exact hW.inj _ _ _ _ g t t' hC hC' h3 h4
  · simp only [more, Option.or_eq_some_iff] at hv
    rcases hv with hv | ⟨_, hv⟩
    · have hl := hW.still_lt hv
      have hne : g ≠ g0 := fun e => by
        subst e
        rw [hW.apart b B0 g tot hb hg o] at hv
        cases hv
      have h2 := hW.still g o v hv
      simp only [World.cell?] at h2 ⊢
      rw [hold g hl hne]; exact h2
    · simp only [st] at hv
      split at hv
      · exact hv
      · cases hv
  · simp only [more, Option.or_eq_some_iff] at hv
    rcases hv with hv | ⟨_, hv⟩
    · exact hW.first g o v hg1 hmg hv
    · simp only [st] at hv
      split at hv
      · have := hW.keep.size
        omega
      · cases hv
  · simp only [more, Option.or_eq_none_iff]
    rcases key x C h1 with ⟨rfl, rfl⟩ | ⟨hx, hC⟩
    · have h2 : ρ x = some (g, t) := h2
      refine ⟨hW.apart x B0 g t hb h2 o, ?_⟩
      simp only [st]
      rw [if_neg (by have := ltw hb h2; omega)]
    · have h2 : ρ x = some (g, t) := h2
      refine ⟨hW.apart x C g t hC h2 o, ?_⟩
      simp only [st]
      rw [if_neg (by have := ltw hC h2; omega)]
end Go.Proofs.Ytlmanlpgknhfpaa.Sy
namespace Go.Proofs.Ytlmanlpgknhfpaa.Sy
open Go Go.RowKit
noncomputable def sub (σ : Nat → Option Nat) (ρ : Rho) : Rho := { pull σ ρ with base := ρ.still, mine := fun g => @decide (∃ b c t, σ b = some c ∧ ρ c = some (g, t)) (Classical.propDecidable _) }
theorem sub_mine {σ : Nat → Option Nat} {ρ : Rho} {g : Nat} : (sub σ ρ).mine g = true ↔ ∃ b c t, σ b = some c ∧ ρ c = some (g, t) := by
  simp only [sub]
  exact @decide_eq_true_iff _ (Classical.propDecidable _)
theorem sub_notmine {σ : Nat → Option Nat} {ρ : Rho} {g : Nat} (h : ¬ ∃ b c t, σ b = some c ∧ ρ c = some (g, t)) : (sub σ ρ).mine g = false := by
  cases e : (sub σ ρ).mine g with
  | false => rfl
  | true => exact absurd (sub_mine.1 e) h
theorem rel.pull_sub {σ : Nat → Option Nat} {ρ : Rho} {v : AV} {u : Value} (h : rel (pull σ ρ) v u) : rel (sub σ ρ) v u := rel.ext0' (ρ := pull σ ρ) (ρ' := sub σ ρ) rfl rfl rfl h
theorem rels.pull_sub {σ : Nat → Option Nat} {ρ : Rho} {v : List AV} {u : List Value} (h : rels (pull σ ρ) v u) : rels (sub σ ρ) v u := rels.ext0' (ρ := pull σ ρ) (ρ' := sub σ ρ) rfl rfl rfl h
theorem FR.pull_sub {σ : Nat → Option Nat} {ρ : Rho} {F : Fr} {a : Act} (h : FR (pull σ ρ) F a) : FR (sub σ ρ) F a := ⟨h.len, fun t v hv => (h.val t v hv).pull_sub, h.defers⟩
theorem Holds.ext0 {ρ ρ' : Rho} {B : Blk} {cur : Array Value} (h : Holds ρ B cur) (he : Ext0 ρ ρ') : Holds ρ' B cur :=
  ⟨fun i v hv => by obtain ⟨u, h1, h2⟩ := h.1 i v hv; exact ⟨u, h1, rel.ext0 he h2⟩, fun R hR i j hi hj => by obtain ⟨u, h1, h2, h3⟩ := h.2 R hR i j hi hj; exact ⟨u, h1, rel.ext0 he h2, h3⟩⟩
def Live (σ : Nat → Option Nat) (Mc : Mem) : Prop := ∀ b c, σ b = some c → ∃ B, Mc.get b = some B
theorem WR.lt_of {w0 : World} {ρ : Rho} {M : Mem} {w : World} (h : WR w0 ρ M w) {b g t : Nat} {B : Blk} (h1 : M.get b = some B) (h2 : ρ b = some (g, t)) : g < w.heap.size := by
  obtain ⟨_, c, h3, _⟩ := h.blk b B g t h1 h2
  exact (Array.getElem?_eq_some_iff.1 h3).1
theorem WR.enter {w0 : World} {ρ : Rho} {M Mc : Mem} {w : World} {σ : Nat → Option Nat} (h : WR w0 ρ M w) (hM : RenM σ M Mc) : WR w (sub σ ρ) Mc w := by
  have hr := h.ren hM
  refine ⟨Keep.refl _ _, hr.dom, hr.nild, fun b B g tot h1 h2 => ?_, hr.has, hr.inj, hr.still, fun g o v _ _ hv => hv, hr.apart⟩
  obtain ⟨_, cur, r2, r3, r4⟩ := hr.holds h1 h2
  refine ⟨.inr (sub_mine.2 ?_), cur, r2, r3, Holds.ext0 r4 ⟨fun _ _ h => h, fun _ h => h, fun _ _ _ h => h⟩⟩
  have h2' : (pull σ ρ) b = some (g, tot) := h2
  simp only [pull] at h2'
  split at h2'
  · rename_i c hc; exact ⟨b, c, tot, hc, h2'⟩
  · cases h2'
def join (τ : Nat → Option Nat) (M : Mem) (ρ ρ2 : Rho) : Rho :=
  { blk := fun b => if b < M.top then ρ b else match τ b with | some c => ρ2 c | none => none, nil := fun b => if b < M.top then ρ.nil b else match τ b with | some c => ρ2.nil c | none => false, still := ρ2.still, base := ρ.base, mine := ρ.mine }
structure Join (T : Nat) (σ τ : Nat → Option Nat) (M M2 M' : Mem) : Prop where
  top : M.top ≤ M'.top
  dom : ∀ b c, τ b = some c → b < M'.top
  old : ∀ b c, b < M.top → τ b = some c → c < T ∧ σ c = some b
  inj : ∀ b b' c, τ b = some c → τ b' = some c → b = b'
  blk : ∀ b B', M'.get b = some B' → (b < M.top ∧ (∀ c, σ c ≠ some b) ∧ M.get b = some B') ∨ ∃ c B, τ b = some c ∧ M2.get c = some B ∧ RenB τ B B'
theorem WR.leave {w0 : World} {ρ : Rho} {M Mc : Mem} {w : World} {σ τ : Nat → Option Nat} {T : Nat} (h : WR w0 ρ M w) (hM : RenM σ M Mc) (hl : Live σ Mc) {ρ2 : Rho} {M2 M' : Mem} {w2 : World} (hc : WR w ρ2 M2 w2) (hE : Ext (cutR T (sub σ ρ)) ρ2) (hJ : Join T σ τ M M2 M') :
    Ext ρ (join τ M ρ ρ2) ∧ WR w0 (join τ M ρ ρ2) M' w2 ∧ Ext0 (pull τ ρ2) (join τ M ρ ρ2) := by
  have liveM : ∀ b c, σ b = some c → ∃ B, M.get c = some B := fun b c hb => by
    obtain ⟨B2, h1⟩ := hl b c hb
    obtain ⟨_, c', B, h2, h3, _⟩ := hM.get h1
    rw [hb] at h2
    simp at h2
    subst h2
    exact ⟨B, h3⟩
  have m2 : ρ2.mine = (sub σ ρ).mine := hE.mine
  have b2 : ρ2.base = ρ.still := hE.base
  have up : ∀ {b c x}, c < T → σ c = some b → ρ b = some x → ρ2 c = some x := fun {b c x} hT hs hx => hE.blk c x (by
    simp only [cutR, if_pos hT]
    show (pull σ ρ) c = _
    rw [pull_blk hs]; exact hx)
  have upn : ∀ {b c}, c < T → σ c = some b → ρ.nil b = true → ρ2.nil c = true := fun {b c} hT hs hx => hE.nil c (by
    simp only [cutR, if_pos hT]
    show (pull σ ρ).nil c = _
    rw [pull_nil hs]; exact hx)
  have down : ∀ {b c x}, b < M.top → τ b = some c → ρ2 c = some x → ρ b = some x := fun {b c x} hb hτ hx => by
    obtain ⟨hT, hs⟩ := hJ.old b c hb hτ
    obtain ⟨B, hB⟩ := liveM c b hs
    rcases h.has b B hB with ⟨g, t, e⟩ | ⟨e, _⟩
    · have := up hT hs e
      rw [hx] at this
      rw [e]; exact this.symm
    · have := (hc.nild c (upn hT hs e)).2
      rw [hx] at this; cases this
  have downn : ∀ {b c}, b < M.top → τ b = some c → ρ2.nil c = true → ρ.nil b = true := fun {b c} hb hτ hx => by
    obtain ⟨hT, hs⟩ := hJ.old b c hb hτ
    obtain ⟨B, hB⟩ := liveM c b hs
    rcases h.has b B hB with ⟨g, t, e⟩ | ⟨e, _⟩
    · have h1 := up hT hs e
      rw [(hc.nild c hx).2] at h1; cases h1
    · exact e
  have jn : ∀ {b c}, τ b = some c → ∀ x, ρ2 c = some x → (join τ M ρ ρ2) b = some x := fun {b c} hτ x hx => by
    simp only [join]
    split
    · rename_i hb; exact down hb hτ hx
    · rw [hτ]; exact hx
  have jnn : ∀ {b c}, τ b = some c → ρ2.nil c = true → (join τ M ρ ρ2).nil b = true := fun {b c} hτ hx => by
    simp only [join]
    split
    · rename_i hb; exact downn hb hτ hx
    · rw [hτ]; exact hx
  have hE0 : Ext0 (pull τ ρ2) (join τ M ρ ρ2) := ⟨fun b x hb => (by
    simp only [pull] at hb
    split at hb
    · rename_i c hτ; exact jn hτ x hb
    · cases hb), fun b hb => (by
    simp only [pull] at hb
    split at hb
    · rename_i c hτ; exact jnn hτ hb
    · cases hb), fun _ _ _ hv => hv⟩
  have hEx : Ext ρ (join τ M ρ ρ2) := ⟨fun b x hb => (by simp only [join, if_pos (h.dom b x hb)]; exact hb), fun b hb => (by simp only [join, if_pos (h.nild b hb).1]; exact hb), fun g o v hv => hE.still g o v hv, rfl, rfl⟩
  have mineW : ∀ {g}, (sub σ ρ).mine g = true → g < w.heap.size ∧ (w0.heap.size ≤ g ∨ ρ.mine g = true) := fun {g} hg => by
    obtain ⟨b, c, t, h1, h2⟩ := sub_mine.1 hg
    obtain ⟨B, hB⟩ := liveM b c h1
    exact ⟨h.lt_of hB h2, (h.holds hB h2).1⟩
  have same : ∀ {g}, g < w.heap.size → (sub σ ρ).mine g = false → w2.heap[g]? = w.heap[g]? := fun {g} h1 h2 => hc.keep.block g h1 (by rw [m2]; exact h2)
  have aside : ∀ {b B g t}, M.get b = some B → (∀ c, σ c ≠ some b) → ρ b = some (g, t) → (sub σ ρ).mine g = false := fun {b B g t} h1 h2 h3 => sub_notmine fun ⟨b', c, t', q1, q2⟩ => by
    obtain ⟨B', hB'⟩ := liveM b' c q1
    have := h.inj b c B B' g t t' h1 hB' h3 q2
    subst this
    exact h2 b' q1
  refine ⟨hEx, ⟨⟨hc.keep.os.trans h.keep.os, hc.keep.tape.trans h.keep.tape, hc.keep.output.trans h.keep.output, Nat.le_trans h.keep.size hc.keep.size, fun k hk hmk => ?_⟩, fun b x hb => ?_, fun b hb => ?_, fun b B' g tot h1 h2 => ?_, fun b B' h1 => ?_, fun b b' B B' g t t' h1 h2 h3 h4 => ?_, fun g o v hv => hc.still g o v hv, fun g o v hg hmg hv => ?_, fun b B' g t h1 h2 o => ?_⟩, hE0⟩
  · have hmk : ρ.mine k = false := hmk
    have hn : (sub σ ρ).mine k = false := by
      cases e : (sub σ ρ).mine k with
      | false => rfl
      | true =>
        rcases (mineW e).2 with q | q
        · omega
        · rw [hmk] at q; cases q
    rw [same (Nat.lt_of_lt_of_le hk h.keep.size) hn]
    exact h.keep.block k hk hmk
  · simp only [join] at hb
    split at hb
    · have := hJ.top; omega
    · split at hb
      · rename_i c hτ; exact hJ.dom b c hτ
      · cases hb
  · simp only [join] at hb
    split at hb
    · rename_i hlt
      have := hJ.top
      exact ⟨by omega, by simp only [join, if_pos hlt]; exact (h.nild b hb).2⟩
    · rename_i hlt
      split at hb
      · rename_i c hτ
        exact ⟨hJ.dom b c hτ, by simp only [join, if_neg hlt, hτ]; exact (hc.nild c hb).2⟩
      · cases hb
  · rcases hJ.blk b B' h1 with ⟨q1, q2, q3⟩ | ⟨c, B, q1, q2, q3⟩
    · have h2' : ρ b = some (g, tot) := by simpa only [join, if_pos q1] using h2
      obtain ⟨r1, cur, r2, r3, r4⟩ := h.holds q3 h2'
      exact ⟨r1, cur, by rw [same (h.lt_of q3 h2') (aside q3 q2 h2')]; exact r2, r3, r4.ext hEx⟩
    · have h2' : ρ2 c = some (g, tot) := by
        simp only [join] at h2
        split at h2
        · rename_i hlt
          obtain ⟨hT, hs⟩ := hJ.old b c hlt q1
          exact up hT hs h2
        · rw [q1] at h2; exact h2
      obtain ⟨r1, cur, r2, r3, r4⟩ := hc.holds q2 h2'
      refine ⟨?_, cur, by rw [q3.1]; exact r2, r3, Holds.ext0 (Holds.ren q3 r4) hE0⟩
      rcases r1 with r1 | r1
      · exact .inl (Nat.le_trans h.keep.size r1)
      · rw [m2] at r1
        exact (mineW r1).2
  · rcases hJ.blk b B' h1 with ⟨q1, q2, q3⟩ | ⟨c, B, q1, q2, q3⟩
    · rcases h.has b B' q3 with ⟨g, t, e⟩ | ⟨e, e2⟩
      · exact .inl ⟨g, t, hEx.blk _ _ e⟩
      · exact .inr ⟨hEx.nil _ e, e2⟩
    · rcases hc.has c B q2 with ⟨g, t, e⟩ | ⟨e, e2, R, e3, e4⟩
      · exact .inl ⟨g, t, jn q1 _ e⟩
      · refine .inr ⟨jnn q1 e, ?_, ?_⟩
        · have := q3.2.1
          rw [e2] at this
          cases hcs : B'.cells with
          | nil => rfl
          | cons x xs => rw [hcs] at this; simp [RenVs] at this
        · have := q3.2.2
          rw [e3] at this
          cases hcs : B'.rows with
          | none => rw [hcs] at this; simp [RenR] at this
          | some R2 => rw [hcs] at this; simp only [RenR] at this; exact ⟨R2, rfl, by omega⟩
  · have red : ∀ {b B g t}, M'.get b = some B → (join τ M ρ ρ2) b = some (g, t) → (b < M.top ∧ (∀ c, σ c ≠ some b) ∧ M.get b = some B ∧ ρ b = some (g, t)) ∨ ∃ c B0, τ b = some c ∧ M2.get c = some B0 ∧ ρ2 c = some (g, t) := fun {b B g t} h1 h2 => by
      rcases hJ.blk b B h1 with ⟨q1, q2, q3⟩ | ⟨c, B0, q1, q2, q3⟩
      · exact .inl ⟨q1, q2, q3, by simpa only [join, if_pos q1] using h2⟩
      · refine .inr ⟨c, B0, q1, q2, ?_⟩
        simp only [join] at h2
        split at h2
        · rename_i hlt
          obtain ⟨hT, hs⟩ := hJ.old b c hlt q1
          exact up hT hs h2
        · rw [q1] at h2; exact h2
    have no : ∀ {b B g t c B0 t'}, M.get b = some B → (∀ c, σ c ≠ some b) → ρ b = some (g, t) → M2.get c = some B0 → ρ2 c = some (g, t') → False := fun {b B g t c B0 t'} p1 p2 p3 p4 p5 => by
      rcases (hc.holds p4 p5).1 with r | r
      · have := h.lt_of p1 p3; omega
      · rw [m2, aside p1 p2 p3] at r; cases r
    rcases red h1 h3 with ⟨p1, p2, p3, p4⟩ | ⟨c, B0, p1, p2, p3⟩ <;> rcases red h2 h4 with ⟨s1, s2, s3, s4⟩ | ⟨c', B0', s1, s2, s3⟩
    · exact h.inj b b' B B' g t t' p3 s3 p4 s4
    · exact (no p3 p2 p4 s2 s3).elim
    · exact (no s3 s2 s4 p2 p3).elim
    · have := hc.inj c c' B0 B0' g t t' p2 s2 p3 s3
      subst this
      exact hJ.inj b b' c p1 s1
  · have hmg : ρ.mine g = false := hmg
    have hn : (sub σ ρ).mine g = false := by
      cases e : (sub σ ρ).mine g with
      | false => rfl
      | true =>
        rcases (mineW e).2 with q | q
        · omega
        · rw [hmg] at q; cases q
    have h1 := hc.first g o v (Nat.lt_of_lt_of_le hg h.keep.size) (by rw [m2]; exact hn) hv
    rw [b2] at h1
    exact h.first g o v hg hmg h1
  · rcases hJ.blk b B' h1 with ⟨q1, q2, q3⟩ | ⟨c, B, q1, q2, q3⟩
    · have h2' : ρ b = some (g, t) := by simpa only [join, if_pos q1] using h2
      cases e : ρ2.still g o with
      | none => exact e
      | some v =>
        have h1 := hc.first g o v (h.lt_of q3 h2') (by rw [m2]; exact aside q3 q2 h2') e
        rw [b2, h.apart b B' g t q3 h2' o] at h1
        cases h1
    · have h2' : ρ2 c = some (g, t) := by
        simp only [join] at h2
        split at h2
        · rename_i hlt
          obtain ⟨hT, hs⟩ := hJ.old b c hlt q1
          exact up hT hs h2
        · rw [q1] at h2; exact h2
      exact hc.apart c B g t q2 h2' o
theorem LoopToT.frame {T : Nat} {P : Program} {b : Code} {n : Nat} {F Fc : Fr} {M Mc : Mem} {G G' : Ex → Fr → Mem → Prop} {σ : Nat → Option Nat} (h : LoopToT T P b n Fc Mc G) (hF : RenF σ F Fc) (hM : RenM σ M Mc) (hl : Live σ Mc)
    (hG : ∀ ex F2 M2, G ex F2 M2 → ∃ τ F' M', G' ex F' M' ∧ RenF τ F2 F' ∧ Join T σ τ M M2 M') : LoopTo P b n F M G' := fun w0 ρ a w Q hFR hW hQ =>
  h w (sub σ ρ) a w Q ((hF.fr hFR).pull_sub) (hW.enter hM) fun ex F2 M2 ρ2 a2 w2 hg hE hF2 hW2 => by
    obtain ⟨τ, F', M', q1, q2, q3⟩ := hG ex F2 M2 hg
    obtain ⟨r1, r2, r3⟩ := hW.leave hM hl hW2 hE q3
    have hF3 := q2.fr hF2
    exact hQ ex F' M' _ a2 w2 q1 r1 ⟨hF3.len, fun t v hv => rel.ext0 r3 (hF3.val t v hv), hF3.defers⟩ r2
theorem CallTo.frameG {P : Program} {f : FuncId} {args argc : List AV} {M Mc : Mem} {G G' : AV → Mem → Prop} {σ : Nat → Option Nat} (h : CallTo P f argc Mc G) (hA : RenVs σ args argc) (hM : RenM σ M Mc) (hl : Live σ Mc)
    (hG : ∀ v M2, G v M2 → ∃ τ v' M', G' v' M' ∧ RenV τ v v' ∧ Join Mc.top σ τ M M2 M') : CallTo P f args M G' := fun w0 ρ us w hr hW => by
  refine (h w (sub σ ρ) us w ((hA.rels hr).pull_sub) (hW.enter hM)).mono ?_
  rintro e w2 ⟨ρ2, u, v, M2, rfl, hE, hv, hW2, hg⟩
  obtain ⟨τ, v', M', q1, q2, q3⟩ := hG v M2 hg
  obtain ⟨r1, r2, r3⟩ := hW.leave hM hl hW2 (hE.cutR _) q3
  exact ⟨_, u, v', M', rfl, r1, rel.ext0 r3 (q2.rel hv), r2, q1⟩
def RG (T : Nat) (G : Ex → Fr → Mem → Prop) (ex : Ex) (F : Fr) (M : Mem) : Prop := ∃ F2 M2 l, l.take T = List.range T ∧ RenF (nm l) F F2 ∧ RenM (nm l) M M2 ∧ G ex F2 M2
theorem LoopToT.out {T : Nat} {P : Program} {b : Code} {n : Nat} {F : Fr} {M : Mem} {G : Ex → Fr → Mem → Prop} (h : LoopToT T P b n F M (RG T G)) : LoopToT T P b n F M G := fun w0 ρ a w Q hF hW hQ => h w0 ρ a w Q hF hW fun ex F' M' ρ' a' w' ⟨F2, M2, l, h0, r1, r2, hg⟩ q1 q2 q3 => by
  have id := nm_id h0
  refine hQ ex F2 M2 (pull (nm l) ρ') a' w' hg ⟨fun b g hb => ?_, fun b hb => ?_, q1.still, q1.base, q1.mine⟩ (r1.fr q2) (q3.ren r2)
  · have hlt : b < T := by
      simp only [Sy.cutR] at hb
      split at hb
      · assumption
      · cases hb
    rw [pull_blk (id b hlt)]
    exact q1.blk b g hb
  · have hlt : b < T := by
      simp only [Sy.cutR] at hb
      split at hb
      · assumption
      · cases hb
    rw [pull_nil (id b hlt)]
    exact q1.nil b hb
theorem LoopTo.stampB {P : Program} {b : Code} {n : Nat} {F : Fr} {T s : Nat} {bs : List (Option Blk)} {G : Ex → Fr → Mem → Prop} (s' : Nat) (h : LoopTo P b n F ⟨T, s', bs⟩ G) : LoopTo P b n F ⟨T, s, bs⟩ G := fun w0 ρ a w Q hF hW hQ => h w0 ρ a w Q hF (hW.restamp s') hQ
theorem WR.swap {w0 : World} {ρ : Rho} {M M' : Mem} {w : World} (h : WR w0 ρ M w) (ht : M.top ≤ M'.top) (hs : ∀ b B', M'.get b = some B' → ∃ B, M.get b = some B ∧ B'.elem = B.elem ∧ (∀ cur, Holds ρ B cur → Holds ρ B' cur) ∧ (B' = B ∨ B.cells ≠ [])) : WR w0 ρ M' w := by
  refine ⟨h.keep, fun b g hb => Nat.lt_of_lt_of_le (h.dom b g hb) ht, fun b hb => ⟨Nat.lt_of_lt_of_le (h.nild b hb).1 ht, (h.nild b hb).2⟩, fun b B' g tot h1 h2 => ?_, fun b B' h1 => ?_, fun b b' B B' g t t' h1 h2 h3 h4 => ?_, h.still, h.first, fun b B' g t h1 h2 => ?_⟩
  · obtain ⟨B, q1, q2, q3, _⟩ := hs b B' h1
    obtain ⟨r1, cur, r2, r3, r4⟩ := h.holds q1 h2
    exact ⟨r1, cur, by rw [q2]; exact r2, r3, q3 cur r4⟩
  · obtain ⟨B, q1, q2, q3, q4⟩ := hs b B' h1
    rcases h.has b B q1 with e | ⟨e1, e2, e3⟩
    · exact .inl e
    · rcases q4 with rfl | q4
      · exact .inr ⟨e1, e2, e3⟩
      · exact absurd e2 q4
  · obtain ⟨B1, q1, _⟩ := hs b B h1
    obtain ⟨B2, q2, _⟩ := hs b' B' h2
    exact h.inj b b' B1 B2 g t t' q1 q2 h3 h4
  · obtain ⟨B, q1, _⟩ := hs b B' h1
    exact h.apart b B g t q1 h2
end Go.Proofs.Ytlmanlpgknhfpaa.Sy
namespace Go.Proofs.Ytlmanlpgknhfpaa
open Go Go.RowKit Pl Sy
def limT (n : Nat) : Prop := n ≤ 1000000
namespace Sy
def kcell (L : List TokV) : Nat → Nat → AV := fun i j => .lit ((TokV.cells (L.getD i tok0)).getD j undef)
def CellIs (n : Nat) (cell : Nat → Nat → AV) (L : List TokV) : Prop := n = L.length ∧ ∀ i j, i < n → j < 3 → cell i j = kcell L i j
def TokRows (n : Nat) (cell : Nat → Nat → AV) : Prop := ∃ L, CellIs n cell L
theorem CellIs.rows {n : Nat} {cell : Nat → Nat → AV} {L : List TokV} (h : CellIs n cell L) : TokRows n cell := ⟨L, h⟩
theorem CellIs.kc (L : List TokV) : CellIs L.length (kcell L) L := ⟨rfl, fun _ _ _ _ => rfl⟩
theorem CellIs.app {n m : Nat} {c d : Nat → Nat → AV} {L X : List TokV} (h : CellIs n c L) (h' : CellIs m d X) : CellIs (n + m) (appc n c d) (L ++ X) := ⟨by rw [List.length_append, h.1, h'.1], fun i j hi hj => by
  have hn := h.1
  have hg : (L ++ X).getD i tok0 = if i < n then L.getD i tok0 else X.getD (i - n) tok0 := by
    split
    · rename_i hlt
      rw [List.getD_eq_getElem?_getD, List.getElem?_append_left (by omega), ← List.getD_eq_getElem?_getD]
    · rename_i hlt
      rw [List.getD_eq_getElem?_getD, List.getElem?_append_right (by omega), ← hn, ← List.getD_eq_getElem?_getD]
  have hk : kcell (L ++ X) i j = if i < n then kcell L i j else kcell X (i - n) j := by
    unfold kcell
    rw [hg]
    split <;> rfl
  rw [hk]
  by_cases hlt : i < n
  · rw [appc_lt hlt, h.2 i j hlt hj, if_pos hlt]
  · rw [appc_ge (by omega), h'.2 (i - n) j (by omega) hj, if_neg hlt]⟩
theorem CellIs.app2 {n m : Nat} {c : Nat → Nat → AV} {L X : List TokV} (h : CellIs n c L) (hm : X.length = m) : CellIs (n + m) (appc n c (kcell X)) (L ++ X) := by subst hm; exact h.app (CellIs.kc X)
theorem CellIs.cast {n : Nat} {c : Nat → Nat → AV} {L L' : List TokV} (h : CellIs n c L) (e : L = L') : CellIs n c L' := e ▸ h
theorem TokRows.kc (L : List TokV) : TokRows L.length (kcell L) := (CellIs.kc L).rows
theorem TokRows.app {n m : Nat} {c : Nat → Nat → AV} {X : List TokV} (h : TokRows n c) (hm : X.length = m) : TokRows (n + m) (appc n c (kcell X)) := h.elim fun L hL => (hL.app2 hm).rows
theorem CellIs.one (k : Int) (s : ByteArray) (n : Int) {c : Nat → Nat → AV} (hc : ∀ j, j < 3 → c 0 j = [int k, .lit (.string s), int n].getD j (.lit undef)) : CellIs 1 c [⟨k, s, n⟩] := ⟨rfl, fun i j hi hj => by
  obtain rfl : i = 0 := by omega
  rw [hc j hj]
  rcases j with _ | _ | _ | j
  · rfl
  · rfl
  · rfl
  · omega⟩
theorem CellIs.free {n : Nat} {c : Nat → Nat → AV} {L : List TokV} (h : CellIs n c L) (σ : Nat → Option Nat) {i j : Nat} (hi : i < n) (hj : j < 3) : RenV σ (c i j) (kcell L i j) := by
  rw [h.2 i j hi hj]; exact rfl
theorem CellIs.free' {n : Nat} {c : Nat → Nat → AV} {L : List TokV} (h : CellIs n c L) (σ : Nat → Option Nat) {i j : Nat} (hi : i < n) (hj : j < 3) {d : Nat → Nat → AV} (hd : CellIs n d L) : RenV σ (c i j) (d i j) := by
  rw [h.2 i j hi hj, hd.2 i j hi hj]; exact rfl
abbrev wB (b n : Nat) : Blk := ⟨[.own b n 3], 48, none⟩
abbrev rowB (n : Nat) (cell : Nat → Nat → AV) : Blk := ⟨[], 40, some ⟨n, 3, cell⟩⟩
abbrev wM (L : List TokV) : Mem := ⟨2, 0, [some (rowB L.length (kcell L)), some (wB 1 L.length)]⟩
def WrEnd (M' : Mem) (L : List TokV) : Prop := ∃ b n cell, M'.get 0 = some (wB b n) ∧ M'.get b = some (rowB n cell) ∧ b ≠ 0 ∧ CellIs n cell L
structure WX where
  wb : Nat
  b : Nat
  n : Nat
  m : Nat
  cell : Nat → Nat → AV
  rest : List AV
def wGet3 (wb b n : Nat) (rest : List AV) : Option Blk → Option WX
  | some ⟨[], e, some R⟩ => match Nat.beq e 40 && Nat.beq R.s 3 with
    | true => some ⟨wb, b, n, R.n, R.cell, rest⟩
    | false => none
  | _ => none
noncomputable def wGet2 (M : Mem) (wb : Nat) (rest : List AV) : Option Blk → Option WX
  | some ⟨[.own b n s], e, none⟩ => match Nat.beq s 3 && Nat.beq e 48 with
    | true => wGet3 wb b n rest (M.get b)
    | false => none
  | _ => none
noncomputable def wGet (args : List AV) (M : Mem) : Option WX := match args with
  | .ptr wb 0 :: rest => wGet2 M wb rest (M.get wb)
  | _ => none
theorem wGet2_ok {M : Mem} {wb : Nat} {rest : List AV} {x : WX} (h : wGet2 M wb rest (M.get wb) = some x) : x.wb = wb ∧ x.rest = rest ∧ M.get x.wb = some (wB x.b x.n) ∧ M.get x.b = some (rowB x.m x.cell) := by
  cases hg : M.get wb with
  | none => rw [hg] at h; cases h
  | some B =>
    rw [hg] at h
    unfold wGet2 at h
    split at h
    · rename_i b n s e heq
      simp at heq
      subst heq
      split at h
      · rename_i hb
        simp only [Bool.and_eq_true] at hb
        obtain ⟨h1, h2⟩ := hb
        have h1 := Nat.eq_of_beq_eq_true h1
        have h2 := Nat.eq_of_beq_eq_true h2
        subst h1 h2
        cases hg2 : M.get b with
        | none => rw [hg2] at h; cases h
        | some B2 =>
          rw [hg2] at h
          unfold wGet3 at h
          split at h
          · rename_i e R heq
            simp at heq
            subst heq
            split at h
            · rename_i hb
              simp only [Bool.and_eq_true] at hb
              obtain ⟨h1, h2⟩ := hb
              have h1 := Nat.eq_of_beq_eq_true h1
              have h2 := Nat.eq_of_beq_eq_true h2
              simp at h
              subst h
              refine ⟨rfl, rfl, hg, ?_⟩
              rw [hg2, h1]
              obtain ⟨rn, rs, rc⟩ := R
              simp only at h2
              subst h2
              rfl
            · cases h
          · cases h
      · cases h
    · cases h
noncomputable def wRes (M : Mem) (wb b n : Nat) (cell : Nat → Nat → AV) (X : List TokV) : Mem := ((M.put b none).put wb (some (wB M.top (n + X.length)))).push (rowB (n + X.length) (appc n cell (kcell X)))
theorem wRes_get {M : Mem} {wb b n : Nat} {cell : Nat → Nat → AV} {X : List TokV} {B0 B1 : Blk} (h0 : M.get wb = some B0) (h1 : M.get b = some B1) (hne : wb ≠ b) {x : Nat} {B' : Blk} (h : (wRes M wb b n cell X).get x = some B') :
    (x = M.top ∧ B' = rowB (n + X.length) (appc n cell (kcell X))) ∨ (x = wb ∧ B' = wB M.top (n + X.length)) ∨ (x < M.top ∧ x ≠ wb ∧ x ≠ b ∧ M.get x = some B') := by
  have hw := Mem.get_lt h0
  have hb := Mem.get_lt h1
  unfold wRes at h
  rcases Mem.get_push h with ⟨h2, h3⟩ | ⟨h2, h3⟩
  · exact .inl ⟨h2, h3⟩
  · have h2' : x < M.top := h2
    rcases Mem.get_put (M := M.put b none) (b := wb) hw h3 with ⟨rfl, e⟩ | ⟨e1, e2⟩
    · simp at e; exact .inr (.inl ⟨rfl, e.symm⟩)
    · rcases Mem.get_put hb e2 with ⟨_, e3⟩ | ⟨e3, e4⟩
      · cases e3
      · exact .inr (.inr ⟨h2', e1, e3, e4⟩)
theorem limT.room {n : Nat} (h : limT n) : Nat.ble (n * 32) 140737488355328 = true ∧ Nat.ble n 17592186044416 = true := by
  unfold limT at h
  constructor <;> (rw [Nat.ble_eq]; omega)
end Sy
theorem Sy.room_ok {n m : Nat} (h : limT (n + m)) : (Bool.true && ((Nat.ble n n) && ((Nat.ble ((n + m) * 32) 140737488355328) && (Nat.ble (n + m) 17592186044416)))) = true := by
  obtain ⟨h1, h2⟩ := limT.room h
  rw [h1, h2, show Nat.ble n n = true by rw [Nat.ble_eq]; omega]; rfl
theorem Sy.put_t (L : List TokV) (k : Int) (s : ByteArray) (n : Int) (hl : limT (L.length + 1)) : CallTo Try.prog 16 [.ptr 0 0, int k, .lit (.string s), int n] (wM L) fun v M' => v = .tup [] ∧ WrEnd M' (L ++ [⟨k, s, n⟩]) :=
  to (G := fun r => r.1 = .tup [] ∧ WrEnd r.2 (L ++ [⟨k, s, n⟩])) [] [] 400 30 (.yes .done) (.need (Bool.true && ((@Nat.ble (L).length (L).length) && ((@Nat.ble (((L).length + 1) * 32) 140737488355328) && (@Nat.ble ((L).length + 1) 17592186044416)))) (.leaf ((@AV.tup []), (@Mem.mk ((2 + 1) + 1) ((0 + 1) + 1) ((some (@Blk.mk [] 40 (some (@Rw.mk ((L).length + 1) 3 (@appc (L).length (@kcell L) (fun x350686 => (fun x581365 => (@getA (@List.take _ 3 ((int k) :: ((@AV.lit (@Value.string s)) :: ((int n) :: [])))) ((x350686 * 3) + x581365))))))))) :: [(some (@Blk.mk ((int k) :: ((@AV.lit (@Value.string s)) :: ((int n) :: []))) 40 none)), none, (some (@Blk.mk [(@AV.own (2 + 1) ((L).length + 1) 3)] 48 none))]))))) (by kernel_rfl) (need_t (room_ok hl) ⟨rfl, 3, _, _, rfl, rfl, by decide, (CellIs.kc L).app (CellIs.one k s n fun j hj => by
    rcases j with _ | _ | _ | j
    · rfl
    · rfl
    · rfl
    · omega)⟩)
structure PutY where
  k : Int
  s : ByteArray
  n : Int
end Go.Proofs.Ytlmanlpgknhfpaa
namespace Go.Proofs.Ytlmanlpgknhfpaa
namespace Pl
def begB (c : Int) : Bool := decide (97 ≤ c) && decide (c ≤ 122) || decide (65 ≤ c) && decide (c ≤ 90) || decide (c = 95) || decide (128 ≤ c)
def goesB (c : Int) : Bool := begB c || decide (48 ≤ c) && decide (c ≤ 57) || decide (c = 45)
def startsL (l : List UInt8) : Bool :=
  match l with
  | [] => false
  | [c] => !decide ((c.toNat : Int) = 45) && begB c.toNat
  | c :: d :: _ => if (c.toNat : Int) = 45 then begB d.toNat || decide ((d.toNat : Int) = 45) else begB c.toNat
def nameL (l : List UInt8) : Bool := startsL l && l.all (fun c => goesB c.toNat) && decide (l.length ≤ 32)
theorem all_step {α : Type} (f : α → Bool) (l : List α) (k : Nat) (hk : k < l.length) (h : (l.take k).all f = true) :
    (f l[k] = true → (l.take (k + 1)).all f = true) ∧ (f l[k] = false → l.all f = false) := by
  have e : l.take (k + 1) = l.take k ++ [l[k]] := List.take_succ_eq_append_getElem hk
  constructor
  · intro hf; rw [e, List.all_append, h]; simp [hf]
  · intro hf
    have : l.all f = (l.take (k + 1) ++ l.drop (k + 1)).all f := by rw [List.take_append_drop]
    rw [this, List.all_append, e, List.all_append]; simp [hf]
end Pl
end Go.Proofs.Ytlmanlpgknhfpaa
namespace Go.Proofs.Ytlmanlpgknhfpaa
namespace Pl
def idxF {α : Type} (g : α → Bool) : List α → Nat → Int
  | [], _ => -1
  | x :: xs, n => if g x then n else idxF g xs (n + 1)
theorem idxF_any {α : Type} (g : α → Bool) : ∀ (xs : List α) (n : Nat), decide (0 ≤ idxF g xs n) = xs.any g
  | [], n => by simp [idxF]
  | x :: xs, n => by
    have e : idxF g (x :: xs) n = if g x then (n : Int) else idxF g xs (n + 1) := rfl
    have ih := idxF_any g xs (n + 1)
    by_cases h : g x = true
    · rw [if_pos h] at e; simp only [e, List.any_cons, h]; simp
    · rw [if_neg h] at e; simp only [e, ih, List.any_cons]; simp [h]
end Pl
end Go.Proofs.Ytlmanlpgknhfpaa
namespace Go.Proofs.Ytlmanlpgknhfpaa
namespace Pl
def hold (x : Int) : Int := if 1073741824 < x then 1073741824 else if x < -1073741824 then -1073741824 else x
end Pl
end Go.Proofs.Ytlmanlpgknhfpaa
namespace Go.Proofs.Ytlmanlpgknhfpaa
namespace Pl
end Pl
end Go.Proofs.Ytlmanlpgknhfpaa
namespace Go.Proofs.Ytlmanlpgknhfpaa
open Go.RowKit Pl
theorem hold_p (x : Int) (w : World) : Calls Try.prog 89 #[.int .i64 x] w fun e w' => e = .returned (.int .i64 (hold x)) ∧ w = w' := by
  go_enter Try.func89, Try.ntmps89
  go_wp2
  all_goals
    go_ret
    exact ⟨ret_int (by unfold hold; omega), rfl⟩
end Go.Proofs.Ytlmanlpgknhfpaa
namespace Go.Proofs.Ytlmanlpgknhfpaa
open Go Go.RowKit Pl Sy
structure QNodeV where
  kind : Int
  count : Int
  feat : Int
  lo : Int
  ln : Int
  ld : Int
  ho : Int
  hn : Int
  hd : Int
def QNodeV.cells (q : QNodeV) : List Value := [.int .i64 q.kind, .int .i64 q.count, .int .i64 q.feat, .int .i64 q.lo, .int .i64 q.ln, .int .i64 q.ld, .int .i64 q.ho, .int .i64 q.hn, .int .i64 q.hd]
def QNodeV.zero : QNodeV := ⟨0, 0, 0, 0, 0, 0, 0, 0, 0⟩
instance : Inhabited QNodeV := ⟨QNodeV.zero⟩
abbrev Sy.qa (k c f lo ln ld ho hn hd : Int) : AV := .agg [int k, int c, int f, int lo, int ln, int ld, int ho, int hn, int hd]
noncomputable abbrev Sy.cHoldP : Con Try.prog := int1 89 (fun x => int (hold x)) (fun _ => trivial) fun x => old (us := [.int .i64 x]) (hold_p x)
def valOk (f o n d : Int) : Bool := decide ((f = 5 ∧ 1 ≤ n ∧ n ≤ 1073741824 ∧ 1 ≤ d ∧ d ≤ 1073741824) ∨ (f ≠ 5 ∧ f = 6 ∧ o = 3 ∧ (n = 1 ∨ n = 2) ∧ d = 0) ∨ (f ≠ 5 ∧ f ≠ 6 ∧ n = hold n ∧ d = 0))
theorem Sy.value_q (f o n e : Int) : CallTo Try.prog 83 [int f, .agg [int o, int n, int e]] M0 fun v _ => v = boo (valOk f o n e) :=
  toV [cHoldP] [] 400 30 (.br (.br (.auto 2 (.br (.auto 2 (.br (.auto 2 .done) (.auto 2 .done))) (.auto 6 .done))) (.auto 10 .done)) (.br (.br (.auto 2 (.br (.auto 4 (.br (.auto 2 .done) (.auto 2 .done))) (.auto 8 .done))) (.auto 11 .done)) (.br (.auto 2 .done) (.auto 2 .done)))) (.fork (eqI f (5 : Int)) (.fork (leI (1 : Int) n) (.fork (leI n (1073741824 : Int)) (.fork (leI (1 : Int) e) (.leaf (boo (leI e (1073741824 : Int)))) (.leaf (boo false))) (.leaf (boo false))) (.leaf (boo false))) (.fork (eqI f (6 : Int)) (.fork (eqI o (3 : Int)) (.fork (!(eqI n (1 : Int))) (.fork (eqI n (2 : Int)) (.leaf (boo (eqI e (0 : Int)))) (.leaf (boo false))) (.leaf (boo (eqI e (0 : Int))))) (.leaf (boo false))) (.fork (eqI n (@Pl.hold n)) (.leaf (boo (eqI e (0 : Int)))) (.leaf (boo false))))) (by kernel_rfl) (by
    unfold valOk
    simp only [Tr.Ok, eqI_t, eqI_f, leI_t, leI_f, eqI_d, leI_d, boo_iff, int_iff, decide_eq_true_eq, decide_eq_false_iff_not, Bool.not_eq_true', Bool.not_eq_false', Bool.false_eq_true, Bool.and_eq_true, Bool.or_eq_true, iff_false, false_iff, iff_true, true_iff]
    repeat' (first | (intro _) | apply And.intro)
    all_goals (first | omega | grind))
noncomputable abbrev Sy.cValue : Con Try.prog := ints4 83 [0, 4] (fun f o n e => boo (valOk f o n e)) (fun _ _ _ _ => trivial) Sy.value_q
def fitsV (f lo ln ld ho hn hd : Int) : Bool :=
  decide ((ho = 0 ∧ hn = 0 ∧ hd = 0 ∧ lo = 0 ∧ ln = 0 ∧ ld = 0) ∨ (¬ (ho = 0 ∧ hn = 0 ∧ hd = 0) ∧ 1 ≤ ho ∧ ho ≤ 5 ∧ valOk f ho hn hd = true ∧
    ((lo = 0 ∧ ln = 0 ∧ ld = 0) ∨ ((((lo = 1 ∨ lo = 2) ∧ (ho = 1 ∨ ho = 2)) ∨ ((lo = 4 ∨ lo = 5) ∧ (ho = 4 ∨ ho = 5))) ∧ f ≠ 6 ∧ valOk f lo ln ld = true))))
theorem Sy.fits_q (k c f lo ln ld ho hn hd : Int) : CallTo Try.prog 62 [qa k c f lo ln ld ho hn hd] M0 fun v _ => v = boo (fitsV f lo ln ld ho hn hd) :=
  toV [cValue] [] 400 30 (.br .done (.br (.auto 3 (.br (.auto 5 (.br .done (.br .done (.br (.auto 1 (.br (.auto 2 (.br (.auto 2 (.br (.auto 2 (.br (.auto 2 (.br (.auto 2 (.br (.auto 4 (.br (.auto 2 (.br (.auto 4 .done) (.auto 4 .done))) (.auto 8 .done))) (.auto 8 (.br (.auto 4 .done) (.auto 4 .done))))) (.auto 15 .done))) (.auto 6 (.br (.auto 4 (.br (.auto 2 (.br (.auto 4 .done) (.auto 4 .done))) (.auto 8 .done))) (.auto 8 (.br (.auto 4 .done) (.auto 4 .done))))))) (.auto 13 (.br (.auto 4 .done) (.auto 4 .done))))) (.auto 17 (.br (.auto 4 .done) (.auto 4 .done))))) (.auto 7 (.br (.auto 2 (.br (.auto 2 (.br (.auto 4 (.br (.auto 2 (.br (.auto 4 .done) (.auto 4 .done))) (.auto 8 .done))) (.auto 8 (.br (.auto 4 .done) (.auto 4 .done))))) (.auto 15 .done))) (.auto 6 (.br (.auto 4 (.br (.auto 2 (.br (.auto 4 .done) (.auto 4 .done))) (.auto 8 .done))) (.auto 8 (.br (.auto 4 .done) (.auto 4 .done))))))))) (.auto 5 (.br (.auto 2 (.br (.auto 2 (.br (.auto 2 (.br (.auto 2 (.br (.auto 4 (.br (.auto 2 (.br (.auto 4 .done) (.auto 4 .done))) (.auto 8 .done))) (.auto 8 (.br (.auto 4 .done) (.auto 4 .done))))) (.auto 15 .done))) (.auto 6 (.br (.auto 4 (.br (.auto 2 (.br (.auto 4 .done) (.auto 4 .done))) (.auto 8 .done))) (.auto 8 (.br (.auto 4 .done) (.auto 4 .done))))))) (.auto 13 (.br (.auto 4 .done) (.auto 4 .done))))) (.auto 17 (.br (.auto 4 .done) (.auto 4 .done))))))))) (.auto 6 .done))) (.auto 11 .done))) (.fork ((eqI ho (0 : Int)) && ((eqI hn (0 : Int)) && ((eqI hd (0 : Int)) && true))) (.leaf (boo ((eqI lo (0 : Int)) && ((eqI ln (0 : Int)) && ((eqI ld (0 : Int)) && true))))) (.fork (!(!(leI (1 : Int) ho))) (.fork (!(!(leI ho (5 : Int)))) (.fork (!(@valOk f ho hn hd)) (.leaf (boo false)) (.fork ((eqI lo (0 : Int)) && ((eqI ln (0 : Int)) && ((eqI ld (0 : Int)) && true))) (.leaf (boo true)) (.fork (!(eqI lo (1 : Int))) (.fork (eqI lo (2 : Int)) (.fork (!(eqI ho (1 : Int))) (.fork (!(eqI ho (2 : Int))) (.fork (!(eqI lo (4 : Int))) (.fork (eqI lo (5 : Int)) (.fork (!(eqI ho (4 : Int))) (.fork (eqI ho (5 : Int)) (.fork (!(eqI f (6 : Int))) (.leaf (boo (@valOk f lo ln ld))) (.leaf (boo false))) (.leaf (boo false))) (.fork (!(eqI f (6 : Int))) (.leaf (boo (@valOk f lo ln ld))) (.leaf (boo false)))) (.leaf (boo false))) (.fork (!(eqI ho (4 : Int))) (.fork (eqI ho (5 : Int)) (.fork (!(eqI f (6 : Int))) (.leaf (boo (@valOk f lo ln ld))) (.leaf (boo false))) (.leaf (boo false))) (.fork (!(eqI f (6 : Int))) (.leaf (boo (@valOk f lo ln ld))) (.leaf (boo false))))) (.fork (!(eqI f (6 : Int))) (.leaf (boo (@valOk f lo ln ld))) (.leaf (boo false)))) (.fork (!(eqI f (6 : Int))) (.leaf (boo (@valOk f lo ln ld))) (.leaf (boo false)))) (.fork (!(eqI lo (4 : Int))) (.fork (eqI lo (5 : Int)) (.fork (!(eqI ho (4 : Int))) (.fork (eqI ho (5 : Int)) (.fork (!(eqI f (6 : Int))) (.leaf (boo (@valOk f lo ln ld))) (.leaf (boo false))) (.leaf (boo false))) (.fork (!(eqI f (6 : Int))) (.leaf (boo (@valOk f lo ln ld))) (.leaf (boo false)))) (.leaf (boo false))) (.fork (!(eqI ho (4 : Int))) (.fork (eqI ho (5 : Int)) (.fork (!(eqI f (6 : Int))) (.leaf (boo (@valOk f lo ln ld))) (.leaf (boo false))) (.leaf (boo false))) (.fork (!(eqI f (6 : Int))) (.leaf (boo (@valOk f lo ln ld))) (.leaf (boo false)))))) (.fork (!(eqI ho (1 : Int))) (.fork (!(eqI ho (2 : Int))) (.fork (!(eqI lo (4 : Int))) (.fork (eqI lo (5 : Int)) (.fork (!(eqI ho (4 : Int))) (.fork (eqI ho (5 : Int)) (.fork (!(eqI f (6 : Int))) (.leaf (boo (@valOk f lo ln ld))) (.leaf (boo false))) (.leaf (boo false))) (.fork (!(eqI f (6 : Int))) (.leaf (boo (@valOk f lo ln ld))) (.leaf (boo false)))) (.leaf (boo false))) (.fork (!(eqI ho (4 : Int))) (.fork (eqI ho (5 : Int)) (.fork (!(eqI f (6 : Int))) (.leaf (boo (@valOk f lo ln ld))) (.leaf (boo false))) (.leaf (boo false))) (.fork (!(eqI f (6 : Int))) (.leaf (boo (@valOk f lo ln ld))) (.leaf (boo false))))) (.fork (!(eqI f (6 : Int))) (.leaf (boo (@valOk f lo ln ld))) (.leaf (boo false)))) (.fork (!(eqI f (6 : Int))) (.leaf (boo (@valOk f lo ln ld))) (.leaf (boo false))))))) (.leaf (boo false))) (.leaf (boo false)))) (by kernel_rfl) (by
    unfold fitsV
    simp only [Tr.Ok, eqI_t, eqI_f, leI_t, leI_f, eqI_d, leI_d, boo_iff, int_iff, decide_eq_true_eq, decide_eq_false_iff_not, Bool.not_eq_true', Bool.not_eq_false', Bool.false_eq_true, Bool.and_eq_true, Bool.or_eq_true, iff_false, false_iff, iff_true, true_iff]
    repeat' (first | (intro _) | apply And.intro)
    all_goals (first | omega | grind))
noncomputable abbrev Sy.cFits : Con Try.prog := ints9 62 [10] (fun k c f lo ln ld ho hn hd => boo (fitsV f lo ln ld ho hn hd)) (fun _ _ _ _ _ _ _ _ _ => trivial) Sy.fits_q
def rightV (k c f lo ln ld ho hn hd : Int) : Bool :=
  decide ((k = 4 ∧ c = 0 ∧ 1 ≤ f ∧ f ≤ 6 ∧ fitsV f lo ln ld ho hn hd = true) ∨ (k ≠ 4 ∧ f = 0 ∧ lo = 0 ∧ ln = 0 ∧ ld = 0 ∧ ho = 0 ∧ hn = 0 ∧ hd = 0 ∧ ((k = 3 ∧ c = 1) ∨ ((k = 1 ∨ k = 2) ∧ 2 ≤ c))))
theorem Sy.right_q (k c f lo ln ld ho hn hd : Int) : CallTo Try.prog 35 [qa k c f lo ln ld ho hn hd] M0 fun v _ => v = boo (rightV k c f lo ln ld ho hn hd) :=
  toV [cFits] [] 400 30 (.br (.br (.auto 2 (.br (.auto 2 (.br (.auto 1 .done) (.auto 1 .done))) (.auto 5 .done))) (.auto 9 .done)) (.br (.auto 3 (.br (.auto 3 (.br .done (.br .done (.br (.auto 2 (.br (.auto 2 .done) (.auto 2 .done))) (.auto 6 .done))))) (.auto 4 .done))) (.auto 9 .done))) (.fork (eqI k (4 : Int)) (.fork (eqI c (0 : Int)) (.fork (leI (1 : Int) f) (.fork (leI f (6 : Int)) (.leaf (boo (@fitsV f lo ln ld ho hn hd))) (.leaf (boo false))) (.leaf (boo false))) (.leaf (boo false))) (.fork (!(!(eqI f (0 : Int)))) (.fork (!(!((eqI lo (0 : Int)) && ((eqI ln (0 : Int)) && ((eqI ld (0 : Int)) && true))))) (.fork (!((eqI ho (0 : Int)) && ((eqI hn (0 : Int)) && ((eqI hd (0 : Int)) && true)))) (.leaf (boo false)) (.fork (eqI k (3 : Int)) (.leaf (boo (eqI c (1 : Int)))) (.fork (!(eqI k (1 : Int))) (.fork (eqI k (2 : Int)) (.leaf (boo (leI (2 : Int) c))) (.leaf (boo false))) (.leaf (boo (leI (2 : Int) c)))))) (.leaf (boo false))) (.leaf (boo false)))) (by kernel_rfl) (by
    unfold rightV
    simp only [Tr.Ok, eqI_t, eqI_f, leI_t, leI_f, eqI_d, leI_d, boo_iff, int_iff, decide_eq_true_eq, decide_eq_false_iff_not, Bool.not_eq_true', Bool.not_eq_false', Bool.false_eq_true, Bool.and_eq_true, Bool.or_eq_true, iff_false, false_iff, iff_true, true_iff]
    repeat' (first | (intro _) | apply And.intro)
    all_goals (first | omega | grind))
noncomputable abbrev Sy.cRight1 : Con Try.prog := ints9 35 [10] (fun k c f lo ln ld ho hn hd => boo (rightV k c f lo ln ld ho hn hd)) (fun _ _ _ _ _ _ _ _ _ => trivial) Sy.right_q
end Go.Proofs.Ytlmanlpgknhfpaa
namespace Go.Proofs.Ytlmanlpgknhfpaa
open Go Go.RowKit Pl Sy
def hasI (k c : Int) : Int := if k = 1 ∨ k = 2 then (if c < 0 then 0 else c) else if k = 3 then 1 else if k = 4 then 0 else -1
theorem Sy.has_q (k c f lo ln ld ho hn hd : Int) : CallTo Try.prog 60 [qa k c f lo ln ld ho hn hd] M0 fun v _ => v = int (hasI k c) :=
  toV [] [] 400 30 (.br (.auto 0 .done) (.br .done (.br .done (.br .done .done)))) (.fork (eqI k (1 : Int)) (.leaf (int (if (c < (0 : Int)) then (0 : Int) else c))) (.fork (eqI k (2 : Int)) (.leaf (int (if (c < (0 : Int)) then (0 : Int) else c))) (.fork (eqI k (3 : Int)) (.leaf (int (1 : Int))) (.fork (eqI k (4 : Int)) (.leaf (int (0 : Int))) (.leaf (int (-1 : Int))))))) (by kernel_rfl) (by
    unfold hasI
    simp only [Tr.Ok, eqI_t, eqI_f, leI_t, leI_f, eqI_d, leI_d, boo_iff, int_iff, decide_eq_true_eq, decide_eq_false_iff_not, Bool.not_eq_true', Bool.not_eq_false', Bool.false_eq_true, Bool.and_eq_true, Bool.or_eq_true, iff_false, false_iff, iff_true, true_iff]
    repeat' (first | (intro _) | apply And.intro)
    all_goals (first | omega | grind))
noncomputable abbrev Sy.cHas : Con Try.prog := ints9 60 [10] (fun k c f lo ln ld ho hn hd => int (hasI k c)) (fun _ _ _ _ _ _ _ _ _ => trivial) Sy.has_q
abbrev Sy.qview (xs : List QNodeV) : AV := viewOf QNodeV.cells QNodeV.zero 9 xs
abbrev Sy.query (s : ByteArray) (xs : List QNodeV) : AV := .agg [.lit (.string s), qview xs]
namespace Sy
abbrev spanM (s : ByteArray) (xs : List QNodeV) : Mem := (@Mem.mk 1 0 [(some (@Blk.mk [(@AV.lit (@Value.string s)), (@qview xs)] 24 none))])
abbrev spanF (s : ByteArray) (xs : List QNodeV) (i left : Int) : Fr := [some ((@query s xs)), some ((int i)), some ((@AV.ptr 0 0)), none, some ((int (0 : Int))), some (int left), none, some ((boo false)), none, none, none, none, none, none, none, none, none, none, none, none, none, none, none, none, none, none, none, none, none, none, none, none, none, none, none, none, none, none, none, none]
abbrev spanE (s : ByteArray) (xs : List QNodeV) (i : Int) : Fr := [some ((@query s xs)), some ((int i)), some ((@AV.ptr 0 0)), none, some ((int (0 : Int))), none, none, some ((boo false)), none, none, none, none, none, none, none, none, none, none, none, none, none, none, none, none, none, none, none, none, none, none, none, none, none, none, none, none, none, none, none, none]
abbrev spanN (s : ByteArray) (xs : List QNodeV) : Fr := [some ((@query s xs)), none, some ((@AV.ptr 0 0)), none, some ((int (0 : Int))), none, none, some ((boo false)), none, none, none, none, none, none, none, none, none, none, none, none, none, none, none, none, none, none, none, none, none, none, none, none, none, none, none, none, none, none, none, none]
end Sy
def spanL (N : Int) : List QNodeV → Int → Option Nat
  | [], left => if left ≤ 0 then some 0 else none
  | n :: l, left => if left ≤ 0 then some 0 else if hasI n.kind n.count < 0 then none else (spanL N l (left + (if N < hasI n.kind n.count then N else hasI n.kind n.count) - 1)).map (· + 1)
theorem hasI_le (k c : Int) : -1 ≤ hasI k c := by unfold hasI; repeat' split <;> omega
theorem getD_at {α : Type} (pre l : List α) (x z : α) (i : Int) (hi : i = pre.length) : (pre ++ x :: l).getD i.toNat z = x := by
  subst hi
  simp
theorem Sy.span_loop (s : ByteArray) (xs : List QNodeV) (hx : xs.length ≤ 1000) : ∀ (l pre : List QNodeV) (i left : Int), xs = pre ++ l → i = pre.length → 0 ≤ left → left ≤ 1 + 1000 * i →
    LoopTo Try.prog (theBody Try.prog 32 5) (l.length + 1) (spanF s xs i left) (spanM s xs) fun ex F M => M = spanM s xs ∧ match spanL xs.length l left with
      | some k => ex = .exit 0 ∧ ∃ lf, F = spanF s xs (i + k) lf
      | none => ex = .ret ∧ ∃ j lf, F = spanF s xs j lf := by
  intro l
  induction l with
  | nil =>
    intro pre i left hxs hi h0 h1
    have hl : xs.length = pre.length := by rw [hxs]; simp
    refine roundL [cHas] [] 400 30 32 5 Try.func32 rfl (by kernel_rfl) [true, true, true, false, true, true, false, true, false, false, false, false, false, false, false, false, false, false, false, false, false, false, false, false, false, false, false, false, false, false, false, false, false, false, false, false, false, false, false, false] (.br (.br (.auto 2 (.yes (.auto 3 (.br .done (.yes .done))))) (.auto 7 .done)) .done) (.fork (!(leI left (0 : Int))) (.fork (!(leI (((xs).length : Nat) : Int) i)) (.need (@inR i (xs).length) (.fork (!(leI (0 : Int) (@hasI ((xs.getD (i).toNat QNodeV.zero)).kind ((xs.getD (i).toNat QNodeV.zero)).count))) (.leaf (Ex.ret, ([(some (@query s xs)), (some (int i)), (some (@AV.ptr 0 0)), none, (some (int (0 : Int))), (some (int left)), none, (some (boo false)), none, none, none, none, none, none, none, none, none, none, none, none, none, none, none, none, none, none, none, none, none, none, none, none, none, none, none, none, none, none, none, none], (@Mem.mk 1 0 [(some (@Blk.mk [(@AV.lit (@Value.string s)), (@qview xs)] 24 none))])))) (.need (@inR i (xs).length) (.leaf (Ex.norm, ([(some (@query s xs)), (some (int (w64 (i + (1 : Int))))), (some (@AV.ptr 0 0)), none, (some (int (0 : Int))), (some (int (w64 (left + (w64 ((if ((((xs).length : Nat) : Int) < (@hasI ((xs.getD (i).toNat QNodeV.zero)).kind ((xs.getD (i).toNat QNodeV.zero)).count)) then (((xs).length : Nat) : Int) else (@hasI ((xs.getD (i).toNat QNodeV.zero)).kind ((xs.getD (i).toNat QNodeV.zero)).count)) - (1 : Int))))))), none, (some (boo false)), none, none, none, none, none, none, none, none, none, none, none, none, none, none, none, none, none, none, none, none, none, none, none, none, none, none, none, none, none, none, none, none], (@Mem.mk 1 0 [(some (@Blk.mk [(@AV.lit (@Value.string s)), (@qview xs)] 24 none))]))))))) (.leaf (Ex.ret, ([(some (@query s xs)), (some (int i)), (some (@AV.ptr 0 0)), none, (some (int (0 : Int))), (some (int left)), none, (some (boo false)), none, none, none, none, none, none, none, none, none, none, none, none, none, none, none, none, none, none, none, none, none, none, none, none, none, none, none, none, none, none, none, none], (@Mem.mk 1 0 [(some (@Blk.mk [(@AV.lit (@Value.string s)), (@qview xs)] 24 none))]))))) (.leaf ((@Ex.exit 0), ([(some (@query s xs)), (some (int i)), (some (@AV.ptr 0 0)), none, (some (int (0 : Int))), (some (int left)), none, (some (boo false)), none, none, none, none, none, none, none, none, none, none, none, none, none, none, none, none, none, none, none, none, none, none, none, none, none, none, none, none, none, none, none, none], (@Mem.mk 1 0 [(some (@Blk.mk [(@AV.lit (@Value.string s)), (@qview xs)] 24 none))]))))) (by kernel_rfl) ?_
    simp only [Tr.Ok, spanL, eqI_t, eqI_f, leI_t, leI_f, Bool.not_eq_true', Bool.not_eq_false']
    refine ⟨fun h => ⟨fun h' => ?_, fun h' => ?_⟩, fun h => ?_⟩
    · omega
    · rw [if_neg (by omega)]
      refine ⟨?_, ?_, i, left, ?_⟩ <;> first | rfl | trivial
    · rw [if_pos (by omega)]
      refine ⟨?_, ?_, left, ?_⟩ <;> first | rfl | trivial | simp
  | cons n l ih =>
    intro pre i left hxs hi h0 h1
    have hl : xs.length = pre.length + l.length + 1 := by rw [hxs]; simp; omega
    have hg : xs.getD i.toNat QNodeV.zero = n := by rw [hxs]; exact getD_at _ _ _ _ _ hi
    refine roundL [cHas] [] 400 30 32 5 Try.func32 rfl (by kernel_rfl) [true, true, true, false, true, true, false, true, false, false, false, false, false, false, false, false, false, false, false, false, false, false, false, false, false, false, false, false, false, false, false, false, false, false, false, false, false, false, false, false] (.br (.br (.auto 2 (.yes (.auto 3 (.br .done (.yes .done))))) (.auto 7 .done)) .done) (.fork (!(leI left (0 : Int))) (.fork (!(leI (((xs).length : Nat) : Int) i)) (.need (@inR i (xs).length) (.fork (!(leI (0 : Int) (@hasI ((xs.getD (i).toNat QNodeV.zero)).kind ((xs.getD (i).toNat QNodeV.zero)).count))) (.leaf (Ex.ret, ([(some (@query s xs)), (some (int i)), (some (@AV.ptr 0 0)), none, (some (int (0 : Int))), (some (int left)), none, (some (boo false)), none, none, none, none, none, none, none, none, none, none, none, none, none, none, none, none, none, none, none, none, none, none, none, none, none, none, none, none, none, none, none, none], (@Mem.mk 1 0 [(some (@Blk.mk [(@AV.lit (@Value.string s)), (@qview xs)] 24 none))])))) (.need (@inR i (xs).length) (.leaf (Ex.norm, ([(some (@query s xs)), (some (int (w64 (i + (1 : Int))))), (some (@AV.ptr 0 0)), none, (some (int (0 : Int))), (some (int (w64 (left + (w64 ((if ((((xs).length : Nat) : Int) < (@hasI ((xs.getD (i).toNat QNodeV.zero)).kind ((xs.getD (i).toNat QNodeV.zero)).count)) then (((xs).length : Nat) : Int) else (@hasI ((xs.getD (i).toNat QNodeV.zero)).kind ((xs.getD (i).toNat QNodeV.zero)).count)) - (1 : Int))))))), none, (some (boo false)), none, none, none, none, none, none, none, none, none, none, none, none, none, none, none, none, none, none, none, none, none, none, none, none, none, none, none, none, none, none, none, none], (@Mem.mk 1 0 [(some (@Blk.mk [(@AV.lit (@Value.string s)), (@qview xs)] 24 none))]))))))) (.leaf (Ex.ret, ([(some (@query s xs)), (some (int i)), (some (@AV.ptr 0 0)), none, (some (int (0 : Int))), (some (int left)), none, (some (boo false)), none, none, none, none, none, none, none, none, none, none, none, none, none, none, none, none, none, none, none, none, none, none, none, none, none, none, none, none, none, none, none, none], (@Mem.mk 1 0 [(some (@Blk.mk [(@AV.lit (@Value.string s)), (@qview xs)] 24 none))]))))) (.leaf ((@Ex.exit 0), ([(some (@query s xs)), (some (int i)), (some (@AV.ptr 0 0)), none, (some (int (0 : Int))), (some (int left)), none, (some (boo false)), none, none, none, none, none, none, none, none, none, none, none, none, none, none, none, none, none, none, none, none, none, none, none, none, none, none, none, none, none, none, none, none], (@Mem.mk 1 0 [(some (@Blk.mk [(@AV.lit (@Value.string s)), (@qview xs)] 24 none))]))))) (by kernel_rfl) ?_
    have hr : inR i xs.length = true := by rw [inR_t]; omega
    have hh := hasI_le n.kind n.count
    simp only [Tr.Ok, hg, hr, spanL, eqI_t, eqI_f, leI_t, leI_f, Bool.not_eq_true', Bool.not_eq_false', true_and]
    refine ⟨fun h => ⟨fun h' => ⟨fun h2 => ?_, fun h2 => ?_⟩, fun h' => ?_⟩, fun h => ?_⟩
    · rw [if_neg (show ¬ left ≤ 0 by omega), if_pos (show hasI n.kind n.count < 0 by omega)]
      exact ⟨i, left, rfl⟩
    · rw [if_neg (show ¬ left ≤ 0 by omega), if_neg (show ¬ hasI n.kind n.count < 0 by omega)]
      generalize hm : (if (xs.length : Int) < hasI n.kind n.count then (xs.length : Int) else hasI n.kind n.count) = m at *
      have hm' : 0 ≤ m ∧ m ≤ 1000 := by subst hm; split <;> omega
      rw [w64_in (r := i + 1) (by omega), w64_in (r := m - 1) (by omega), w64_in (r := left + (m - 1)) (by omega)]
      have := ih (pre ++ [n]) (i + 1) (left + (m - 1)) (by rw [hxs]; simp) (by simp; omega) (by omega) (by omega)
      refine this.mono fun ex F M hg => ?_
      rw [show left + m - 1 = left + (m - 1) by omega]
      refine ⟨hg.1, ?_⟩
      have hg2 := hg.2
      cases hs : spanL xs.length l (left + (m - 1)) with
      | none => rw [hs] at hg2; exact hg2
      | some k =>
        rw [hs] at hg2
        obtain ⟨q1, lf, q2⟩ := hg2
        exact ⟨q1, lf, by rw [q2, show i + 1 + (k : Int) = i + ((k + 1 : Nat) : Int) by omega]⟩
    · omega
    · rw [if_pos (show left ≤ 0 by omega)]
      exact ⟨left, by simp⟩
theorem Sy.span_loop2 (s : ByteArray) (xs : List QNodeV) (i left : Int) (h3 : xs.length < i) (h4 : 1 ≤ left) : LoopTo Try.prog (theBody Try.prog 32 5) (0 + 1) (spanF s xs i left) (spanM s xs) fun ex F M => M = spanM s xs ∧ ex = .ret ∧ F = spanF s xs i left := by
  refine roundL [cHas] [] 400 30 32 5 Try.func32 rfl (by kernel_rfl) [true, true, true, false, true, true, false, true, false, false, false, false, false, false, false, false, false, false, false, false, false, false, false, false, false, false, false, false, false, false, false, false, false, false, false, false, false, false, false, false] (.br (.br (.auto 2 (.yes (.auto 3 (.br .done (.yes .done))))) (.auto 7 .done)) .done) (.fork (!(leI left (0 : Int))) (.fork (!(leI (((xs).length : Nat) : Int) i)) (.need (@inR i (xs).length) (.fork (!(leI (0 : Int) (@hasI ((xs.getD (i).toNat QNodeV.zero)).kind ((xs.getD (i).toNat QNodeV.zero)).count))) (.leaf (Ex.ret, ([(some (@query s xs)), (some (int i)), (some (@AV.ptr 0 0)), none, (some (int (0 : Int))), (some (int left)), none, (some (boo false)), none, none, none, none, none, none, none, none, none, none, none, none, none, none, none, none, none, none, none, none, none, none, none, none, none, none, none, none, none, none, none, none], (@Mem.mk 1 0 [(some (@Blk.mk [(@AV.lit (@Value.string s)), (@qview xs)] 24 none))])))) (.need (@inR i (xs).length) (.leaf (Ex.norm, ([(some (@query s xs)), (some (int (w64 (i + (1 : Int))))), (some (@AV.ptr 0 0)), none, (some (int (0 : Int))), (some (int (w64 (left + (w64 ((if ((((xs).length : Nat) : Int) < (@hasI ((xs.getD (i).toNat QNodeV.zero)).kind ((xs.getD (i).toNat QNodeV.zero)).count)) then (((xs).length : Nat) : Int) else (@hasI ((xs.getD (i).toNat QNodeV.zero)).kind ((xs.getD (i).toNat QNodeV.zero)).count)) - (1 : Int))))))), none, (some (boo false)), none, none, none, none, none, none, none, none, none, none, none, none, none, none, none, none, none, none, none, none, none, none, none, none, none, none, none, none, none, none, none, none], (@Mem.mk 1 0 [(some (@Blk.mk [(@AV.lit (@Value.string s)), (@qview xs)] 24 none))]))))))) (.leaf (Ex.ret, ([(some (@query s xs)), (some (int i)), (some (@AV.ptr 0 0)), none, (some (int (0 : Int))), (some (int left)), none, (some (boo false)), none, none, none, none, none, none, none, none, none, none, none, none, none, none, none, none, none, none, none, none, none, none, none, none, none, none, none, none, none, none, none, none], (@Mem.mk 1 0 [(some (@Blk.mk [(@AV.lit (@Value.string s)), (@qview xs)] 24 none))]))))) (.leaf ((@Ex.exit 0), ([(some (@query s xs)), (some (int i)), (some (@AV.ptr 0 0)), none, (some (int (0 : Int))), (some (int left)), none, (some (boo false)), none, none, none, none, none, none, none, none, none, none, none, none, none, none, none, none, none, none, none, none, none, none, none, none, none, none, none, none, none, none, none, none], (@Mem.mk 1 0 [(some (@Blk.mk [(@AV.lit (@Value.string s)), (@qview xs)] 24 none))]))))) (by kernel_rfl) ?_
  simp only [Tr.Ok, eqI_t, eqI_f, leI_t, leI_f, Bool.not_eq_true', Bool.not_eq_false']
  refine ⟨fun h => ⟨fun h' => ?_, fun h' => ?_⟩, fun h => ?_⟩
  · omega
  · refine ⟨?_, ?_, ?_⟩ <;> first | rfl | trivial
  · omega
noncomputable abbrev Sy.spanRes (s : ByteArray) (xs : List QNodeV) (x : Int × Int) : Tr (Ex × Fr × Mem) :=
  .fork (isSo ((spanL xs.length (xs.drop x.1.toNat) x.2).isSome = true)) (.leaf (.exit 0, spanE s xs (x.1 + ((spanL xs.length (xs.drop x.1.toNat) x.2).getD 0 : Nat)), spanM s xs)) (.leaf (.ret, spanN s xs, spanM s xs))
noncomputable abbrev Sy.spanLp (s : ByteArray) (xs : List QNodeV) : Lp Try.prog where
  f := 32
  key := 5
  S := formS (fun F M => match slotI F 1, slotI F 5 with | some i, some l => some (i, l) | _, _ => none) (fun x => spanF s xs x.1 x.2) (fun _ => spanM s xs) (fun x => xs.length ≤ 1000 ∧ 0 ≤ x.1 ∧ ((x.1 ≤ xs.length ∧ 0 ≤ x.2 ∧ x.2 ≤ 1 + 1000 * x.1) ∨ (xs.length < x.1 ∧ 1 ≤ x.2))) (spanRes s xs) [true, true, true, false, true, true, false, true, false, false, false, false, false, false, false, false, false, false, false, false, false, false, false, false, false, false, false, false, false, false, false, false, false, false, false, false, false, false, false, false]
  one := by kernel_rfl
  ok := formS_ok fun x ⟨h1, h2, h3⟩ => by
    rcases h3 with ⟨h3, h4, h5⟩ | ⟨h3, h4⟩
    · refine ⟨(xs.drop x.1.toNat).length + 1, ?_⟩
      have h6 := Sy.span_loop s xs h1 (xs.drop x.1.toNat) (xs.take x.1.toNat) x.1 x.2 (by simp) (by simp; omega) h4 h5
      cases hs : spanL xs.length (xs.drop x.1.toNat) x.2 with
      | none =>
        refine (h6.out [true, false, true, false, true, false, false, true, false, false, false, false, false, false, false, false, false, false, false, false, false, false, false, false, false, false, false, false, false, false, false, false, false, false, false, false, false, false, false, false]).mono fun ex F M hg => .inr ⟨by simp [hs, isSo], ?_⟩
        obtain ⟨F0, ⟨hM, hg⟩, rfl⟩ := hg
        rw [hs] at hg
        obtain ⟨rfl, j, lf, rfl⟩ := hg
        rw [hM]; rfl
      | some k =>
        refine (h6.out [true, true, true, false, true, false, false, true, false, false, false, false, false, false, false, false, false, false, false, false, false, false, false, false, false, false, false, false, false, false, false, false, false, false, false, false, false, false, false, false]).mono fun ex F M hg => .inl ⟨by simp [hs, isSo], ?_⟩
        obtain ⟨F0, ⟨hM, hg⟩, rfl⟩ := hg
        rw [hs] at hg
        obtain ⟨rfl, lf, rfl⟩ := hg
        rw [hM, hs]; rfl
    · have h6 := Sy.span_loop2 s xs x.1 x.2 h3 h4
      have hn : spanL xs.length (xs.drop x.1.toNat) x.2 = none := by
        rw [List.drop_eq_nil_of_le (by omega)]
        unfold spanL
        rw [if_neg (by omega)]
      refine ⟨0 + 1, (h6.out [true, false, true, false, true, false, false, true, false, false, false, false, false, false, false, false, false, false, false, false, false, false, false, false, false, false, false, false, false, false, false, false, false, false, false, false, false, false, false, false]).mono fun ex F M hg => .inr ⟨by simp [hn, isSo], ?_⟩⟩
      obtain ⟨F0, ⟨hM, rfl, rfl⟩, rfl⟩ := hg
      rw [hM]; rfl
def spanI (xs : List QNodeV) (i : Int) : Int := if i < 0 then 0 else match spanL xs.length (xs.drop i.toNat) 1 with
  | some k => i + k
  | none => 0
theorem Sy.span_q (s : ByteArray) (xs : List QNodeV) (hx : xs.length ≤ 1000) (i : Int) : CallTo Try.prog 32 [Sy.query s xs, int i] M0 fun v _ => v = int (spanI xs i) :=
  toV [cHas] [spanLp s xs] 400 30 (.br .done (.br .done .done)) (.fork (!(leI (0 : Int) i)) (.leaf (int (0 : Int))) (.need (@isSo (@And (((some (@query s xs)) :: (some (int i)) :: [(some (@AV.ptr 0 0)), none, (some (int (0 : Int))), (some (int (1 : Int))), none, (some (boo false)), none, none, none, none, none, none, none, none, none, none, none, none, none, none, none, none, none, none, none, none, none, none, none, none, none, none, none, none, none, none, none, none]) = [(some (@query s xs)), (some (int i)), (some (@AV.ptr 0 0)), none, (some (int (0 : Int))), (some (int (Int.ofNat 1))), none, (some (boo false)), none, none, none, none, none, none, none, none, none, none, none, none, none, none, none, none, none, none, none, none, none, none, none, none, none, none, none, none, none, none, none, none]) ((@Mem.mk 1 0 [(some (@Blk.mk [(@AV.lit (@Value.string s)), (@qview xs)] 24 none))]) = (@Mem.mk 1 0 [(some (@Blk.mk [(@AV.lit (@Value.string s)), (@qview xs)] 24 none))])))) (.need (@isSo (@And ((xs).length ≤ 1000) (@And ((0 : Int) ≤ i) (@Or (@And (i ≤ (((xs).length : Nat) : Int)) (@And ((0 : Int) ≤ (Int.ofNat 1)) ((Int.ofNat 1) ≤ ((1 : Int) + ((1000 : Int) * i))))) (@And ((((xs).length : Nat) : Int) < i) ((1 : Int) ≤ (Int.ofNat 1))))))) (.fork (@isSo ((@Option.isSome _ (@spanL (((xs).length : Nat) : Int) (@List.drop _ (i).toNat xs) (Int.ofNat 1))) = true)) (.leaf (int (i + (((@Option.getD _ (@spanL (((xs).length : Nat) : Int) (@List.drop _ (i).toNat xs) (Int.ofNat 1)) 0) : Nat) : Int)))) (.leaf (int (0 : Int))))))) (by kernel_rfl) (by
    simp only [Tr.Ok, isSo_t, isSo_f, leI_t, leI_f, Bool.not_eq_true', Bool.not_eq_false', int_iff, spanI]
    refine ⟨fun h => ?_, fun h => ⟨by first | exact ⟨rfl, rfl⟩ | exact ⟨trivial, trivial⟩ | trivial, ⟨hx, h, ?_⟩, fun h2 => ?_, fun h2 => ?_⟩⟩
    · rw [if_pos (by omega)]
    · show (i ≤ xs.length ∧ (0 : Int) ≤ 1 ∧ (1 : Int) ≤ 1 + 1000 * i) ∨ ((xs.length : Int) < i ∧ (1 : Int) ≤ 1)
      omega
    · rw [if_neg (by omega)]
      cases hs : spanL xs.length (xs.drop i.toNat) 1 with
      | none => rw [show (Int.ofNat 1) = (1 : Int) from rfl, hs] at h2; cases h2
      | some k => rfl
    · rw [if_neg (by omega)]
      cases hs : spanL xs.length (xs.drop i.toNat) 1 with
      | none => rfl
      | some k => rw [show (Int.ofNat 1) = (1 : Int) from rfl, hs] at h2; exact absurd rfl h2)
end Go.Proofs.Ytlmanlpgknhfpaa
namespace Go.Proofs.Ytlmanlpgknhfpaa
open Go Go.RowKit Pl Sy
theorem Sy.scan {α : Type} {P : Program} {body : Code} (xs : List α) (g : α → Bool) (d : α) (F E : Int → Fr) (M : Mem)
    (step : ∀ (k : Int) (n : Nat) (G : Ex → Fr → Mem → Prop), 0 ≤ k → k ≤ xs.length → (k < xs.length → g (xs.getD k.toNat d) = false → LoopTo P body n (F (k + 1)) M G) → (k < xs.length → g (xs.getD k.toNat d) = true → G .ret (E k) M) → (k = xs.length → G (.exit 0) (F k) M) → LoopTo P body (n + 1) (F k) M G) :
    LoopTo P body (xs.length + 1) (F 0) M fun ex F' M' => M' = M ∧ ((0 ≤ Pl.idxF g xs 0 ∧ ex = .ret ∧ F' = E (Pl.idxF g xs 0)) ∨ (Pl.idxF g xs 0 = -1 ∧ ex = .exit 0 ∧ F' = F xs.length)) := by
  have key : ∀ (l pre : List α) (k : Int), xs = pre ++ l → k = pre.length → LoopTo P body (l.length + 1) (F k) M fun ex F' M' => M' = M ∧ ((0 ≤ Pl.idxF g l pre.length ∧ ex = .ret ∧ F' = E (Pl.idxF g l pre.length)) ∨ (Pl.idxF g l pre.length = -1 ∧ ex = .exit 0 ∧ F' = F xs.length)) := by
    intro l
    induction l with
    | nil =>
      intro pre k h hk
      have hl : xs.length = pre.length := by rw [h]; simp
      refine step k _ _ (by omega) (by omega) (fun h1 _ => by omega) (fun h1 _ => by omega) (fun h1 => ⟨rfl, .inr ⟨rfl, rfl, by rw [h1]⟩⟩)
    | cons x l ih =>
      intro pre k h hk
      have hl : xs.length = pre.length + l.length + 1 := by rw [h]; simp; omega
      have hg : xs.getD k.toNat d = x := by rw [h]; exact getD_at _ _ _ _ _ hk
      refine step k _ _ (by omega) (by omega) (fun h1 h2 => ?_) (fun h1 h2 => ⟨rfl, .inl ?_⟩) (fun h1 => by omega)
      · rw [hg] at h2
        have e : Pl.idxF g (x :: l) pre.length = Pl.idxF g l (pre ++ [x]).length := by
          show (if g x then _ else _) = _
          rw [if_neg (by rw [h2]; simp)]
          simp
        rw [e]
        exact ih (pre ++ [x]) (k + 1) (by rw [h]; simp) (by simp; omega)
      · rw [hg] at h2
        have e : Pl.idxF g (x :: l) pre.length = (pre.length : Int) := by
          show (if g x then _ else _) = _
          rw [if_pos h2]
        rw [e, hk]
        exact ⟨by omega, rfl, rfl⟩
  exact key xs [] 0 rfl rfl
def idxN (g : Nat → Bool) (n : Nat) : Int := Pl.idxF g (List.range n) 0
def anyN (g : Nat → Bool) (n : Nat) : Bool := (List.range n).any g
theorem anyN_idx (g : Nat → Bool) (n : Nat) : leI 0 (idxN g n) = anyN g n := by rw [leI_eq]; exact Pl.idxF_any g _ 0
theorem Sy.scanN {P : Program} {body : Code} (m : Nat) (g : Nat → Bool) (F E : Int → Fr) (M : Mem)
    (step : ∀ (k : Int) (n : Nat) (G : Ex → Fr → Mem → Prop), 0 ≤ k → k ≤ m → (k < m → g k.toNat = false → LoopTo P body n (F (k + 1)) M G) → (k < m → g k.toNat = true → G .ret (E k) M) → (k = m → G (.exit 0) (F k) M) → LoopTo P body (n + 1) (F k) M G) :
    LoopTo P body (m + 1) (F 0) M fun ex F' M' => M' = M ∧ ((0 ≤ idxN g m ∧ ex = .ret ∧ F' = E (idxN g m)) ∨ (idxN g m = -1 ∧ ex = .exit 0 ∧ F' = F m)) := by
  have h := scan (P := P) (body := body) (List.range m) g 0 F E M fun k n G h0 h1 c1 c2 c3 => by
    simp only [List.length_range] at h1 c1 c2 c3
    have e : k < m → (List.range m).getD k.toNat 0 = k.toNat := fun h => by
      rw [List.getD_eq_getElem?_getD, List.getElem?_eq_getElem (by simp; omega)]
      simp
    exact step k n G h0 h1 (fun a b => c1 a (by rw [e a]; exact b)) (fun a b => c2 a (by rw [e a]; exact b)) c3
  simp only [List.length_range] at h
  exact h
end Go.Proofs.Ytlmanlpgknhfpaa
namespace Go.Proofs.Ytlmanlpgknhfpaa
open Go Go.RowKit Pl Sy
def limB (n : Nat) : Prop := n ≤ 100000000
def blankB (c : Int) : Bool := eqI c 32 || (eqI c 9 || (eqI c 10 || (eqI c 12 || eqI c 13)))
theorem Sy.bl_t (c : Int) : CallTo Try.prog 50 [.lit (.int .u8 c)] M0 fun v _ => v = boo (blankB c) :=
  toV [] [] 400 30 (.br (.auto 1 (.br (.auto 1 (.br (.auto 1 (.br (.auto 1 .done) (.auto 1 .done))) (.auto 4 .done))) (.auto 7 .done))) (.auto 10 .done)) (.fork (!(eqI c (32 : Int))) (.fork (!(eqI c (9 : Int))) (.fork (!(eqI c (10 : Int))) (.fork (!(eqI c (12 : Int))) (.leaf (boo (eqI c (13 : Int)))) (.leaf (boo true))) (.leaf (boo true))) (.leaf (boo true))) (.leaf (boo true))) (by kernel_rfl) (by
    unfold blankB
    repeat' (first | refine fork_ok (fun _ => ?_) (fun _ => ?_))
    all_goals refine leaf_boo ?_
    all_goals simp_all)
theorem Sy.beg_t (c : Int) : CallTo Try.prog 67 [.lit (.int .u8 c)] M0 fun v _ => v = boo (begB c) :=
  toV [] [] 400 30 (.br (.auto 1 (.br (.auto 1 (.br (.auto 3 (.br (.auto 1 (.br (.auto 1 .done) (.auto 1 .done))) (.auto 4 .done))) (.auto 6 (.br (.auto 1 .done) (.auto 1 .done))))) (.auto 11 .done))) (.auto 4 (.br (.auto 3 (.br (.auto 1 (.br (.auto 1 .done) (.auto 1 .done))) (.auto 4 .done))) (.auto 6 (.br (.auto 1 .done) (.auto 1 .done)))))) (.fork (leI (97 : Int) c) (.fork (!(leI c (122 : Int))) (.fork (leI (65 : Int) c) (.fork (!(leI c (90 : Int))) (.fork (!(eqI c (95 : Int))) (.leaf (boo (leI (128 : Int) c))) (.leaf (boo true))) (.leaf (boo true))) (.fork (!(eqI c (95 : Int))) (.leaf (boo (leI (128 : Int) c))) (.leaf (boo true)))) (.leaf (boo true))) (.fork (leI (65 : Int) c) (.fork (!(leI c (90 : Int))) (.fork (!(eqI c (95 : Int))) (.leaf (boo (leI (128 : Int) c))) (.leaf (boo true))) (.leaf (boo true))) (.fork (!(eqI c (95 : Int))) (.leaf (boo (leI (128 : Int) c))) (.leaf (boo true))))) (by kernel_rfl) (by
    repeat' (first
      | refine fork_ok (fun _ => ?_) (fun _ => ?_)
      | refine need_so ⟨rfl, by (first | assumption | trivial | (try simp only [eqI_t, eqI_f, leI_t, leI_f, inR_t, inR_f, isSo_t, isSo_f, eqI_d, leI_d, decide_eq_true_eq, decide_eq_false_iff_not, Bool.not_eq_true', Bool.not_eq_false', Bool.false_eq_true, Bool.and_eq_true, Bool.or_eq_true, Bool.not_not, iff_false, false_iff, iff_true, true_iff] at *) <;> first | omega | grind)⟩ ?_
      | refine need_so (by (first | assumption | trivial | (try simp only [eqI_t, eqI_f, leI_t, leI_f, inR_t, inR_f, isSo_t, isSo_f, eqI_d, leI_d, decide_eq_true_eq, decide_eq_false_iff_not, Bool.not_eq_true', Bool.not_eq_false', Bool.false_eq_true, Bool.and_eq_true, Bool.or_eq_true, Bool.not_not, iff_false, false_iff, iff_true, true_iff] at *) <;> first | omega | grind)) ?_
      | refine need_t (by (first | assumption | trivial | (try simp only [eqI_t, eqI_f, leI_t, leI_f, inR_t, inR_f, isSo_t, isSo_f, eqI_d, leI_d, decide_eq_true_eq, decide_eq_false_iff_not, Bool.not_eq_true', Bool.not_eq_false', Bool.false_eq_true, Bool.and_eq_true, Bool.or_eq_true, Bool.not_not, iff_false, false_iff, iff_true, true_iff] at *) <;> first | omega | grind)) ?_)
    all_goals (first | refine leaf_boo ?_ | refine leaf_int ?_)
    all_goals (unfold begB; try simp only [eqI_t, eqI_f, leI_t, leI_f, inR_t, inR_f, isSo_t, isSo_f, eqI_d, leI_d, decide_eq_true_eq, decide_eq_false_iff_not, Bool.not_eq_true', Bool.not_eq_false', Bool.false_eq_true, Bool.and_eq_true, Bool.or_eq_true, Bool.not_not, iff_false, false_iff, iff_true, true_iff] at *)
    all_goals (first | omega | grind))
def u8_get (args : List AV) : Option Int := match args with | [.lit (.int .u8 c)] => some c | _ => none
noncomputable abbrev Sy.cBlank : Con Try.prog := atX 50 (fun args => match args with | [.lit (.int .u8 c)] => some c | _ => none) (fun c => [.lit (.int .u8 c)]) (fun c => boo (blankB c)) (fun _ => True) fun c _ => ⟨⟨⟨trivial, trivial⟩, trivial⟩, bl_t c⟩
noncomputable abbrev Sy.cBeg : Con Try.prog := atX 67 (fun args => match args with | [.lit (.int .u8 c)] => some c | _ => none) (fun c => [.lit (.int .u8 c)]) (fun c => boo (begB c)) (fun _ => True) fun c _ => ⟨⟨⟨trivial, trivial⟩, trivial⟩, beg_t c⟩
theorem Sy.goe_t (c : Int) : CallTo Try.prog 68 [.lit (.int .u8 c)] M0 fun v _ => v = boo (goesB c) :=
  toV [cBeg] [] 400 30 (.yes (.br (.auto 1 (.br (.auto 3 (.br (.auto 1 .done) (.auto 1 .done))) (.auto 6 .done))) (.auto 8 .done))) (.need (@isSo (@And ((@HAppend.hAppend _ _ _ _ (@HAppend.hAppend _ _ _ _ [] [(@AV.lit (@Value.int IntKind.u8 c))]) []) = [(@AV.lit (@Value.int IntKind.u8 c))]) True)) (.fork (!(@Pl.begB c)) (.fork (leI (48 : Int) c) (.fork (!(leI c (57 : Int))) (.leaf (boo (eqI c (45 : Int)))) (.leaf (boo true))) (.leaf (boo (eqI c (45 : Int))))) (.leaf (boo true)))) (by kernel_rfl) (by
    unfold goesB
    refine need_so ⟨rfl, trivial⟩ ?_
    generalize begB c = B
    exact (by
    repeat' (first
      | refine fork_ok (fun _ => ?_) (fun _ => ?_)
      | refine need_so ⟨rfl, by (first | assumption | trivial | (try simp only [eqI_t, eqI_f, leI_t, leI_f, inR_t, inR_f, isSo_t, isSo_f, eqI_d, leI_d, decide_eq_true_eq, decide_eq_false_iff_not, Bool.not_eq_true', Bool.not_eq_false', Bool.false_eq_true, Bool.and_eq_true, Bool.or_eq_true, Bool.not_not, iff_false, false_iff, iff_true, true_iff] at *) <;> first | omega | grind)⟩ ?_
      | refine need_so (by (first | assumption | trivial | (try simp only [eqI_t, eqI_f, leI_t, leI_f, inR_t, inR_f, isSo_t, isSo_f, eqI_d, leI_d, decide_eq_true_eq, decide_eq_false_iff_not, Bool.not_eq_true', Bool.not_eq_false', Bool.false_eq_true, Bool.and_eq_true, Bool.or_eq_true, Bool.not_not, iff_false, false_iff, iff_true, true_iff] at *) <;> first | omega | grind)) ?_
      | refine need_t (by (first | assumption | trivial | (try simp only [eqI_t, eqI_f, leI_t, leI_f, inR_t, inR_f, isSo_t, isSo_f, eqI_d, leI_d, decide_eq_true_eq, decide_eq_false_iff_not, Bool.not_eq_true', Bool.not_eq_false', Bool.false_eq_true, Bool.and_eq_true, Bool.or_eq_true, Bool.not_not, iff_false, false_iff, iff_true, true_iff] at *) <;> first | omega | grind)) ?_)
    all_goals (first | refine leaf_boo ?_ | refine leaf_int ?_)
    all_goals (try simp only [eqI_t, eqI_f, leI_t, leI_f, inR_t, inR_f, isSo_t, isSo_f, eqI_d, leI_d, decide_eq_true_eq, decide_eq_false_iff_not, Bool.not_eq_true', Bool.not_eq_false', Bool.false_eq_true, Bool.and_eq_true, Bool.or_eq_true, Bool.not_not, iff_false, false_iff, iff_true, true_iff] at *)
    all_goals (first | omega | grind)))
noncomputable abbrev Sy.cGoe : Con Try.prog := atX 68 (fun args => match args with | [.lit (.int .u8 c)] => some c | _ => none) (fun c => [.lit (.int .u8 c)]) (fun c => boo (goesB c)) (fun _ => True) fun c _ => ⟨⟨⟨trivial, trivial⟩, trivial⟩, goe_t c⟩
namespace Sy
abbrev blsF (s : ByteArray) (a m : Int) : Fr := (some ((@AV.lit (@Value.string s))) :: some (int a) :: none :: none :: some ((int (0 : Int))) :: some (int m) :: (nn15 []))
abbrev runF (s : ByteArray) (a m : Int) : Fr := (some ((@AV.lit (@Value.string s))) :: some (int a) :: none :: none :: some ((int (0 : Int))) :: some (int m) :: (nn15 []))
abbrev digF (s : ByteArray) (a m : Int) : Fr := (some ((@AV.lit (@Value.string s))) :: some (int a) :: none :: none :: some ((int (0 : Int))) :: some (int m) :: (nn21 []))
end Sy
noncomputable def upI (g : Int → Bool) (s : ByteArray) (a : Int) : Int := (hops (fun j => !g (byteAt s j)) (fun j => j + 1) s.size a.toNat : Nat)
theorem upI_step (g : Int → Bool) (s : ByteArray) (a : Int) (h0 : 0 ≤ a) : upI g s a = if a < s.size ∧ g (byteAt s a.toNat) = true then upI g s (a + 1) else a := by
  unfold upI
  rw [hops_step (fun k _ => Nat.lt_succ_self k)]
  by_cases h : a < s.size ∧ g (byteAt s a.toNat) = true
  · rw [if_pos h, if_pos ⟨by omega, by rw [h.2]; rfl⟩, show (a + 1).toNat = a.toNat + 1 by omega]
  · rw [if_neg h, if_neg (fun ⟨q1, q2⟩ => h ⟨by omega, by simpa using q2⟩)]
    omega
theorem upI_le (g : Int → Bool) (s : ByteArray) (a : Int) (h0 : 0 ≤ a) (h : a ≤ s.size) : a ≤ upI g s a ∧ upI g s a ≤ s.size := by
  have := hops1_le (fun j => !g (byteAt s j)) s.size a.toNat (by omega)
  unfold upI
  omega
theorem span_scan {P : Program} {body : Code} (s : ByteArray) (g : Int → Bool) (F : Int → Int → Fr) (hs : limB s.size)
    (step : ∀ (a m : Int) (n : Nat) (G : Ex → Fr → Mem → Prop), 0 ≤ a → a ≤ s.size → 0 ≤ m → m ≤ a → (a < s.size → g (byteAt s a.toNat) = true → LoopTo P body n (F (a + 1) (m + 1)) M0 G) → (¬ (a < s.size ∧ g (byteAt s a.toNat) = true) → G (.exit 0) (F a m) M0) → LoopTo P body (n + 1) (F a m) M0 G) :
    ∀ (k : Nat) (a m : Int), s.size - a.toNat ≤ k → 0 ≤ a → a ≤ s.size → 0 ≤ m → m ≤ a → LoopTo P body (k + 1) (F a m) M0 fun ex F' M' => ex = .exit 0 ∧ M' = M0 ∧ F' = F (upI g s a) (m + (upI g s a - a)) := by
  intro k
  induction k with
  | zero =>
    intro a m h1 h2 h3 h4 h5
    refine step a m 0 _ h2 h3 h4 h5 (fun h => absurd h (by omega)) (fun h => ⟨rfl, rfl, ?_⟩)
    rw [upI_step g s a h2, if_neg h, show m + (a - a) = m by omega]
  | succ k ih =>
    intro a m h1 h2 h3 h4 h5
    refine step a m (k + 1) _ h2 h3 h4 h5 (fun q1 q2 => ?_) (fun h => ⟨rfl, rfl, ?_⟩)
    · refine (ih (a + 1) (m + 1) (by omega) (by omega) (by omega) (by omega) (by omega)).mono fun ex F' M' ⟨e1, e2, e3⟩ => ⟨e1, e2, ?_⟩
      rw [upI_step g s a h2, if_pos ⟨q1, q2⟩, e3, show m + 1 + (upI g s (a + 1) - (a + 1)) = m + (upI g s (a + 1) - a) by omega]
    · rw [upI_step g s a h2, if_neg h, show m + (a - a) = m by omega]
noncomputable def spnI (g : Int → Bool) (s : ByteArray) (a : Int) : Int := upI g s a - a
def digB (c : Int) : Bool := leI 48 c && leI c 57
theorem Sy.bls_scan (s : ByteArray) (hs : limB s.size) (a : Int) (h0 : 0 ≤ a) (h1 : a ≤ s.size) : LoopTo Try.prog (theBody Try.prog 51 3) (s.size + 1) (blsF s a 0) M0 fun ex F' M' => ex = .exit 0 ∧ M' = M0 ∧ F' = blsF s (upI blankB s a) (spnI blankB s a) := by
  unfold limB at hs
  refine (span_scan s blankB (fun a m => blsF s a m) hs (fun a m n G q0 q1 q2 q3 c1 c2 => ?_) s.size a 0 (by omega) h0 h1 (by omega) h0).mono fun ex F' M' ⟨e1, e2, e3⟩ => ⟨e1, e2, by rw [e3]; unfold spnI; rw [show (0 : Int) + (upI blankB s a - a) = upI blankB s a - a by omega]⟩
  refine roundL [cBlank] [] 400 30 51 3 Try.func51 rfl (by kernel_rfl) (true :: true :: false :: false :: true :: true :: (ff15 [])) (.br (.auto 1 (.yes (.auto 0 (.yes (.auto 0 (.br .done .done)))))) (.auto 4 .done)) (let e1 := (@AV.lit (@Value.int IntKind.u8 (@byteAt s (a).toNat))); let e2 := (some (@AV.lit (@Value.string s))); (.fork (!(leI (((@ByteArray.size s) : Nat) : Int) a)) (.need (@inR a (@ByteArray.size s)) (.need (@isSo (@And ((@HAppend.hAppend _ _ _ _ (@HAppend.hAppend _ _ _ _ [] [e1]) []) = [e1]) True)) (.fork (@blankB (@byteAt s (a).toNat)) (.leaf (Ex.norm, ((e2 :: (some (int (w64 (a + (1 : Int))))) :: none :: none :: (some (int (0 : Int))) :: (some (int (w64 (m + (1 : Int))))) :: (nn15 [])), (@Mem.mk 0 0 [])))) (.leaf ((@Ex.exit 0), ((e2 :: (some (int a)) :: none :: none :: (some (int (0 : Int))) :: (some (int m)) :: (nn15 [])), (@Mem.mk 0 0 []))))))) (.leaf ((@Ex.exit 0), ((e2 :: (some (int a)) :: none :: none :: (some (int (0 : Int))) :: (some (int m)) :: (nn15 [])), (@Mem.mk 0 0 [])))))) (by kernel_rfl) ?_
  refine fork_ok (fun h => ?_) (fun h => ?_)
  · simp only [Bool.not_eq_true', Bool.not_eq_false', leI_t, leI_f, eqI_t, eqI_f, inR_t, inR_f, isSo_t, isSo_f] at h
    have hr : inR a s.size = true := by rw [inR_t]; omega
    refine need_t hr (need_so ⟨rfl, trivial⟩ (fork_ok (fun h2 => ?_) (fun h2 => c2 (fun x => by rw [h2] at x; exact absurd x.2 (by simp)))))
    rw [w64_in (r := a + 1) (by omega), w64_in (r := m + 1) (by omega)]
    exact c1 (by omega) h2
  · simp only [Bool.not_eq_true', Bool.not_eq_false', leI_t, leI_f, eqI_t, eqI_f, inR_t, inR_f, isSo_t, isSo_f] at h
    exact c2 (fun x => by omega)
namespace Sy
noncomputable abbrev lp_bls (s : ByteArray) : Lp Try.prog where
  f := 51
  key := 3
  S := formS (fun F M => slotI F 1) (fun a => blsF s a 0) (fun _ => M0) (fun a => limB s.size ∧ 0 ≤ a ∧ a ≤ s.size) (fun a => .leaf (.exit 0, blsF s (upI blankB s a) (spnI blankB s a), M0)) (true :: true :: false :: false :: true :: true :: (ff15 []))
  one := by kernel_rfl
  ok := formS_ok fun a ⟨h1, h2, h3⟩ => by
    refine ⟨s.size + 1, ?_⟩
    refine (Sy.bls_scan s h1 a h2 h3).mono fun ex F M hg => ?_
    obtain ⟨rfl, rfl, rfl⟩ := hg
    rfl
end Sy
theorem Sy.bls_t (s : ByteArray) (hs : limB s.size) (a : Int) (h0 : 0 ≤ a) (h1 : a ≤ s.size) : CallTo Try.prog 51 [.lit (.string s), int a] M0 fun v _ => v = int (spnI blankB s a) :=
  toV [] [lp_bls s] 400 30 .done (.need (@isSo (@And (((some (@AV.lit (@Value.string s))) :: (some (int a)) :: (none :: none :: (some (int (0 : Int))) :: (some (int (0 : Int))) :: (nn15 []))) = ((some (@AV.lit (@Value.string s))) :: (some (int a)) :: none :: none :: (some (int (0 : Int))) :: (some (int (0 : Int))) :: (nn15 []))) ((@Mem.mk 0 0 []) = M0))) (.need (@isSo (@And ((@ByteArray.size s) ≤ 100000000) (@And ((0 : Int) ≤ a) (a ≤ (((@ByteArray.size s) : Nat) : Int))))) (.leaf (int (@spnI blankB s a))))) (by kernel_rfl) (need_so ⟨rfl, rfl⟩ (need_so ⟨hs, h0, h1⟩ rfl))
theorem Sy.run_scan (s : ByteArray) (hs : limB s.size) (a : Int) (h0 : 0 ≤ a) (h1 : a ≤ s.size) : LoopTo Try.prog (theBody Try.prog 39 3) (s.size + 1) (runF s a 0) M0 fun ex F' M' => ex = .exit 0 ∧ M' = M0 ∧ F' = runF s (upI goesB s a) (spnI goesB s a) := by
  unfold limB at hs
  refine (span_scan s goesB (fun a m => runF s a m) hs (fun a m n G q0 q1 q2 q3 c1 c2 => ?_) s.size a 0 (by omega) h0 h1 (by omega) h0).mono fun ex F' M' ⟨e1, e2, e3⟩ => ⟨e1, e2, by rw [e3]; unfold spnI; rw [show (0 : Int) + (upI goesB s a - a) = upI goesB s a - a by omega]⟩
  refine roundL [cGoe] [] 400 30 39 3 Try.func39 rfl (by kernel_rfl) (true :: true :: false :: false :: true :: true :: (ff15 [])) (.br (.auto 1 (.yes (.auto 0 (.yes (.auto 0 (.br .done .done)))))) (.auto 4 .done)) (let e1 := (@AV.lit (@Value.int IntKind.u8 (@byteAt s (a).toNat))); let e2 := (some (@AV.lit (@Value.string s))); (.fork (!(leI (((@ByteArray.size s) : Nat) : Int) a)) (.need (@inR a (@ByteArray.size s)) (.need (@isSo (@And ((@HAppend.hAppend _ _ _ _ (@HAppend.hAppend _ _ _ _ [] [e1]) []) = [e1]) True)) (.fork (@Pl.goesB (@byteAt s (a).toNat)) (.leaf (Ex.norm, ((e2 :: (some (int (w64 (a + (1 : Int))))) :: none :: none :: (some (int (0 : Int))) :: (some (int (w64 (m + (1 : Int))))) :: (nn15 [])), (@Mem.mk 0 0 [])))) (.leaf ((@Ex.exit 0), ((e2 :: (some (int a)) :: none :: none :: (some (int (0 : Int))) :: (some (int m)) :: (nn15 [])), (@Mem.mk 0 0 []))))))) (.leaf ((@Ex.exit 0), ((e2 :: (some (int a)) :: none :: none :: (some (int (0 : Int))) :: (some (int m)) :: (nn15 [])), (@Mem.mk 0 0 [])))))) (by kernel_rfl) ?_
  refine fork_ok (fun h => ?_) (fun h => ?_)
  · simp only [Bool.not_eq_true', Bool.not_eq_false', leI_t, leI_f, eqI_t, eqI_f, inR_t, inR_f, isSo_t, isSo_f] at h
    have hr : inR a s.size = true := by rw [inR_t]; omega
    refine need_t hr (need_so ⟨rfl, trivial⟩ (fork_ok (fun h2 => ?_) (fun h2 => c2 (fun x => by rw [h2] at x; exact absurd x.2 (by simp)))))
    rw [w64_in (r := a + 1) (by omega), w64_in (r := m + 1) (by omega)]
    exact c1 (by omega) h2
  · simp only [Bool.not_eq_true', Bool.not_eq_false', leI_t, leI_f, eqI_t, eqI_f, inR_t, inR_f, isSo_t, isSo_f] at h
    exact c2 (fun x => by omega)
namespace Sy
noncomputable abbrev lp_run (s : ByteArray) : Lp Try.prog where
  f := 39
  key := 3
  S := formS (fun F M => slotI F 1) (fun a => runF s a 0) (fun _ => M0) (fun a => limB s.size ∧ 0 ≤ a ∧ a ≤ s.size) (fun a => .leaf (.exit 0, runF s (upI goesB s a) (spnI goesB s a), M0)) (true :: true :: false :: false :: true :: true :: (ff15 []))
  one := by kernel_rfl
  ok := formS_ok fun a ⟨h1, h2, h3⟩ => by
    refine ⟨s.size + 1, ?_⟩
    refine (Sy.run_scan s h1 a h2 h3).mono fun ex F M hg => ?_
    obtain ⟨rfl, rfl, rfl⟩ := hg
    rfl
end Sy
theorem Sy.run_t (s : ByteArray) (hs : limB s.size) (a : Int) (h0 : 0 ≤ a) (h1 : a ≤ s.size) : CallTo Try.prog 39 [.lit (.string s), int a] M0 fun v _ => v = int (spnI goesB s a) :=
  toV [] [lp_run s] 400 30 .done (.need (@isSo (@And (((some (@AV.lit (@Value.string s))) :: (some (int a)) :: (none :: none :: (some (int (0 : Int))) :: (some (int (0 : Int))) :: (nn15 []))) = ((some (@AV.lit (@Value.string s))) :: (some (int a)) :: none :: none :: (some (int (0 : Int))) :: (some (int (0 : Int))) :: (nn15 []))) ((@Mem.mk 0 0 []) = M0))) (.need (@isSo (@And ((@ByteArray.size s) ≤ 100000000) (@And ((0 : Int) ≤ a) (a ≤ (((@ByteArray.size s) : Nat) : Int))))) (.leaf (int (@spnI Pl.goesB s a))))) (by kernel_rfl) (need_so ⟨rfl, rfl⟩ (need_so ⟨hs, h0, h1⟩ rfl))
theorem Sy.dig_scan (s : ByteArray) (hs : limB s.size) (a : Int) (h0 : 0 ≤ a) (h1 : a ≤ s.size) : LoopTo Try.prog (theBody Try.prog 79 3) (s.size + 1) (digF s a 0) M0 fun ex F' M' => ex = .exit 0 ∧ M' = M0 ∧ F' = digF s (upI digB s a) (spnI digB s a) := by
  unfold limB at hs
  refine (span_scan s digB (fun a m => digF s a m) hs (fun a m n G q0 q1 q2 q3 c1 c2 => ?_) s.size a 0 (by omega) h0 h1 (by omega) h0).mono fun ex F' M' ⟨e1, e2, e3⟩ => ⟨e1, e2, by rw [e3]; unfold spnI; rw [show (0 : Int) + (upI digB s a - a) = upI digB s a - a by omega]⟩
  refine roundL [] [] 400 30 79 3 Try.func79 rfl (by kernel_rfl) (true :: true :: false :: false :: true :: true :: (ff21 [])) (.br (.auto 1 (.yes (.auto 1 (.br (.auto 1 (.yes (.auto 1 (.br .done .done)))) (.auto 4 .done))))) (.auto 9 .done)) (let e1 := (some (@AV.lit (@Value.string s))); (.fork (!(leI (((@ByteArray.size s) : Nat) : Int) a)) (.need (@inR a (@ByteArray.size s)) (.fork (leI (48 : Int) (@byteAt s (a).toNat)) (.need (@inR a (@ByteArray.size s)) (.fork (leI (@byteAt s (a).toNat) (57 : Int)) (.leaf (Ex.norm, ((e1 :: (some (int (w64 (a + (1 : Int))))) :: none :: none :: (some (int (0 : Int))) :: (some (int (w64 (m + (1 : Int))))) :: (nn21 [])), (@Mem.mk 0 0 [])))) (.leaf ((@Ex.exit 0), ((e1 :: (some (int a)) :: none :: none :: (some (int (0 : Int))) :: (some (int m)) :: (nn21 [])), (@Mem.mk 0 0 [])))))) (.leaf ((@Ex.exit 0), ((e1 :: (some (int a)) :: none :: none :: (some (int (0 : Int))) :: (some (int m)) :: (nn21 [])), (@Mem.mk 0 0 [])))))) (.leaf ((@Ex.exit 0), ((e1 :: (some (int a)) :: none :: none :: (some (int (0 : Int))) :: (some (int m)) :: (nn21 [])), (@Mem.mk 0 0 [])))))) (by kernel_rfl) ?_
  refine fork_ok (fun h => ?_) (fun h => ?_)
  · simp only [Bool.not_eq_true', Bool.not_eq_false', leI_t, leI_f, eqI_t, eqI_f, inR_t, inR_f, isSo_t, isSo_f] at h
    have hr : inR a s.size = true := by rw [inR_t]; omega
    refine need_t hr (fork_ok (fun h2 => need_t hr (fork_ok (fun h3 => ?_) (fun h3 => c2 (fun x => by unfold digB at x; rw [h3] at x; simp at x)))) (fun h2 => c2 (fun x => by unfold digB at x; rw [h2] at x; simp at x)))
    rw [w64_in (r := a + 1) (by omega), w64_in (r := m + 1) (by omega)]
    exact c1 (by omega) (by unfold digB; rw [h2, h3]; rfl)
  · simp only [Bool.not_eq_true', Bool.not_eq_false', leI_t, leI_f, eqI_t, eqI_f, inR_t, inR_f, isSo_t, isSo_f] at h
    exact c2 (fun x => by omega)
namespace Sy
noncomputable abbrev lp_dig (s : ByteArray) : Lp Try.prog where
  f := 79
  key := 3
  S := formS (fun F M => slotI F 1) (fun a => digF s a 0) (fun _ => M0) (fun a => limB s.size ∧ 0 ≤ a ∧ a ≤ s.size) (fun a => .leaf (.exit 0, digF s (upI digB s a) (spnI digB s a), M0)) (true :: true :: false :: false :: true :: true :: (ff21 []))
  one := by kernel_rfl
  ok := formS_ok fun a ⟨h1, h2, h3⟩ => by
    refine ⟨s.size + 1, ?_⟩
    refine (Sy.dig_scan s h1 a h2 h3).mono fun ex F M hg => ?_
    obtain ⟨rfl, rfl, rfl⟩ := hg
    rfl
end Sy
theorem Sy.dig_t (s : ByteArray) (hs : limB s.size) (a : Int) (h0 : 0 ≤ a) (h1 : a ≤ s.size) : CallTo Try.prog 79 [.lit (.string s), int a] M0 fun v _ => v = int (spnI digB s a) :=
  toV [] [lp_dig s] 400 30 .done (.need (@isSo (@And (((some (@AV.lit (@Value.string s))) :: (some (int a)) :: (none :: none :: (some (int (0 : Int))) :: (some (int (0 : Int))) :: (nn21 []))) = ((some (@AV.lit (@Value.string s))) :: (some (int a)) :: none :: none :: (some (int (0 : Int))) :: (some (int (0 : Int))) :: (nn21 []))) ((@Mem.mk 0 0 []) = M0))) (.need (@isSo (@And ((@ByteArray.size s) ≤ 100000000) (@And ((0 : Int) ≤ a) (a ≤ (((@ByteArray.size s) : Nat) : Int))))) (.leaf (int (@spnI digB s a))))) (by kernel_rfl) (need_so ⟨rfl, rfl⟩ (need_so ⟨hs, h0, h1⟩ rfl))
end Go.Proofs.Ytlmanlpgknhfpaa
namespace Go.Proofs.Ytlmanlpgknhfpaa
open Go Go.RowKit Pl Sy
noncomputable abbrev Sy.cRun (s : ByteArray) : Con Try.prog := atX 39 (fun args => match args with | [_, .lit (.int _ a)] => some a | _ => none) (fun a => [.lit (.string s), int a]) (fun a => int (spnI goesB s a)) (fun a => limB s.size ∧ 0 ≤ a ∧ a ≤ s.size) fun a h => ⟨⟨⟨trivial, trivial, trivial⟩, trivial⟩, run_t s h.1 a h.2.1 h.2.2⟩
noncomputable abbrev Sy.cBls (s : ByteArray) : Con Try.prog := atX 51 (fun args => match args with | [_, .lit (.int _ a)] => some a | _ => none) (fun a => [.lit (.string s), int a]) (fun a => int (spnI blankB s a)) (fun a => limB s.size ∧ 0 ≤ a ∧ a ≤ s.size) fun a h => ⟨⟨⟨trivial, trivial, trivial⟩, trivial⟩, bls_t s h.1 a h.2.1 h.2.2⟩
noncomputable abbrev Sy.cDig (s : ByteArray) : Con Try.prog := atX 79 (fun args => match args with | [_, .lit (.int _ a)] => some a | _ => none) (fun a => [.lit (.string s), int a]) (fun a => int (spnI digB s a)) (fun a => limB s.size ∧ 0 ≤ a ∧ a ≤ s.size) fun a h => ⟨⟨⟨trivial, trivial, trivial⟩, trivial⟩, dig_t s h.1 a h.2.1 h.2.2⟩
noncomputable def startsI (s : ByteArray) (a : Int) : Bool := !leI s.size a && (if eqI (byteAt s a.toNat) 45 = true then !leI s.size (a + 1) && (begB (byteAt s (a + 1).toNat) || eqI (byteAt s (a + 1).toNat) 45) else begB (byteAt s a.toNat))
theorem Sy.sta_t (s : ByteArray) (hs : limB s.size) (a : Int) (h0 : 0 ≤ a) (h1 : a ≤ s.size) : CallTo Try.prog 38 [.lit (.string s), int a] M0 fun v _ => v = boo (startsI s a) := by
  unfold limB at hs
  refine toV [cBeg] [] 400 30 (.br .done (.yes (.br (.br (.auto 2 (.yes (.auto 0 (.yes (.auto 0 (.br (.auto 2 (.yes (.auto 3 .done))) (.auto 6 .done))))))) (.auto 11 .done)) (.yes (.yes .done))))) (let e1 := (@ByteArray.size s); let e2 := (@byteAt s (a).toNat); let e3 := (w64 (a + (1 : Int))); let e4 := (@byteAt s (e3).toNat); let e5 := (@AV.lit (@Value.int IntKind.u8 e4)); let e6 := (@AV.lit (@Value.int IntKind.u8 e2)); (.fork (leI ((e1 : Nat) : Int) a) (.leaf (boo false)) (.need (@inR a e1) (.fork (eqI e2 (45 : Int)) (.fork (!(leI ((e1 : Nat) : Int) e3)) (.need (@inR e3 e1) (.need (@isSo (@And ((@HAppend.hAppend _ _ _ _ (@HAppend.hAppend _ _ _ _ [] [e5]) []) = [e5]) True)) (.fork (!(@Pl.begB e4)) (.need (@inR e3 e1) (.leaf (boo (eqI e4 (45 : Int))))) (.leaf (boo true))))) (.leaf (boo false))) (.need (@inR a e1) (.need (@isSo (@And ((@HAppend.hAppend _ _ _ _ (@HAppend.hAppend _ _ _ _ [] [e6]) []) = [e6]) True)) (.leaf (boo (@Pl.begB e2))))))))) (by kernel_rfl) ?_
  conv => zeta
  unfold startsI
  rw [w64_in (r := a + 1) (by omega)]
  refine fork_ok (fun q => by rw [q]; exact rfl) (fun q => ?_)
  have ha : a < s.size := by simp only [Bool.not_eq_true', Bool.not_eq_false', leI_t, leI_f, eqI_t, eqI_f, inR_t, inR_f, isSo_t, isSo_f] at q; omega
  have hr : inR a s.size = true := by rw [inR_t]; omega
  rw [q]
  refine need_t hr (fork_ok (fun e => ?_) (fun e => ?_))
  · rw [e]
    refine fork_ok (fun f => ?_) (fun f => ?_)
    · have hr2 : inR (a + 1) s.size = true := by simp only [Bool.not_eq_true', Bool.not_eq_false', leI_t, leI_f, eqI_t, eqI_f, inR_t, inR_f, isSo_t, isSo_f] at f; rw [inR_t]; omega
      refine need_t hr2 (need_so ⟨rfl, trivial⟩ (fork_ok (fun g => need_t hr2 ?_) (fun g => ?_)))
      · refine leaf_boo ?_
        simp only [Bool.not_eq_true'] at f g
        rw [f, g]; simp
      · refine leaf_boo ?_
        simp only [Bool.not_eq_true', Bool.not_eq_false'] at f g
        rw [f, g]; simp
    · refine leaf_boo ?_
      simp only [Bool.not_eq_false'] at f
      rw [f]; simp
  · rw [e]
    refine need_t hr (need_so ⟨rfl, trivial⟩ ?_)
    refine leaf_boo ?_
    simp
noncomputable abbrev Sy.cSta (s : ByteArray) : Con Try.prog := atX 38 (fun args => match args with | [_, .lit (.int _ a)] => some a | _ => none) (fun a => [.lit (.string s), int a]) (fun a => boo (startsI s a)) (fun a => limB s.size ∧ 0 ≤ a ∧ a ≤ s.size) fun a h => ⟨⟨⟨trivial, trivial, trivial⟩, trivial⟩, sta_t s h.1 a h.2.1 h.2.2⟩
def hsI (s t : ByteArray) (a : Int) : Bool := leI t.size (s.size - a) && bytesEq (s.extract a.toNat (a + t.size).toNat).data.toList t.data.toList
theorem Sy.hst_t (s t : ByteArray) (hs : limB s.size) (ht : limB t.size) (a : Int) (h0 : 0 ≤ a) (h1 : a ≤ s.size) : CallTo Try.prog 48 [.lit (.string s), int a, .lit (.string t)] M0 fun v _ => v = boo (hsI s t a) := by
  unfold limB at hs ht
  have hx : (fun (at_ : Int) => True) a := trivial
  generalize hat : a = at_ at *
  refine toV [] [] 400 30 (.br (.auto 5 (.yes (.auto 2 .done))) (.auto 8 .done)) (.fork (leI (((@ByteArray.size t) : Nat) : Int) (w64 ((((@ByteArray.size s) : Nat) : Int) - at_))) (.need ((leI (0 : Int) at_) && ((leI at_ (w64 (at_ + (((@ByteArray.size t) : Nat) : Int)))) && (leI (w64 (at_ + (((@ByteArray.size t) : Nat) : Int))) (((@ByteArray.size s) : Nat) : Int)))) (.leaf (boo (@bytesEq (@Array.toList _ (@ByteArray.data (@ByteArray.extract s (at_).toNat ((w64 (at_ + (((@ByteArray.size t) : Nat) : Int)))).toNat))) (@Array.toList _ (@ByteArray.data t)))))) (.leaf (boo false))) (by kernel_rfl) ?_
  conv => zeta
  unfold hsI
  rw [w64_in (r := (s.size : Int) - at_) (by omega), w64_in (r := at_ + (t.size : Int)) (by omega)]
  refine fork_ok (fun q => ?_) (fun q => ?_)
  · refine need_t (by simp only [Bool.not_eq_true', Bool.not_eq_false', leI_t, leI_f, eqI_t, eqI_f, inR_t, inR_f, isSo_t, isSo_f] at q; simp only [Bool.and_eq_true, leI_t]; omega) ?_
    refine leaf_boo ?_
    rw [q]; simp
  · refine leaf_boo ?_
    rw [q]; simp
noncomputable abbrev Sy.cHst (s : ByteArray) : Con Try.prog := atX 48 (fun args => match args with | [_, .lit (.int _ a), .lit (.string t)] => some (a, t) | _ => none) (fun x => [.lit (.string s), int x.1, .lit (.string x.2)]) (fun x => boo (hsI s x.2 x.1)) (fun x => (limB s.size ∧ limB x.2.size) ∧ 0 ≤ x.1 ∧ x.1 ≤ s.size) fun x h => ⟨⟨⟨trivial, trivial, trivial, trivial⟩, trivial⟩, hst_t s x.2 h.1.1 h.1.2 x.1 h.2.1 h.2.2⟩
theorem upI_end (g : Int → Bool) (s : ByteArray) (a : Int) (h0 : 0 ≤ a) (h : s.size ≤ a) : upI g s a = a := by
  unfold upI
  rw [hops_end _ _ (by omega)]
  omega
theorem spnI_bd (g : Int → Bool) (s : ByteArray) (a : Int) (h0 : 0 ≤ a) : 0 ≤ spnI g s a ∧ (a ≤ s.size → a + spnI g s a ≤ s.size) ∧ spnI g s a ≤ s.size := by
  unfold spnI
  by_cases h : a ≤ s.size
  · have := upI_le g s a h0 h
    omega
  · rw [upI_end g s a h0 (by omega)]
    omega
noncomputable def numB (s : ByteArray) (b a : Int) : Int :=
  if (!leI s.size (b + spnI digB s b) && (eqI (byteAt s (b + spnI digB s b).toNat) 46 && !leI (spnI digB s (b + spnI digB s b + 1)) 0)) = true then b + spnI digB s b + 1 + spnI digB s (b + spnI digB s b + 1) - a
  else if eqI (spnI digB s b) 0 = true then 0 else b + spnI digB s b - a
noncomputable def numI (s : ByteArray) (a : Int) : Int := if (!leI s.size a && (eqI (byteAt s a.toNat) 43 || eqI (byteAt s a.toNat) 45)) = true then numB s (a + 1) a else numB s a a
theorem Sy.num_t (s : ByteArray) (hs : limB s.size) (a : Int) (h0 : 0 ≤ a) (h1 : a ≤ s.size) : CallTo Try.prog 53 [.lit (.string s), int a] M0 fun v _ => v = int (numI s a) := by
  have hs' := hs
  unfold limB at hs
  refine toV [cDig s] [] 400 30 (.br (.auto 1 (.yes (.auto 1 (.br (.auto 1 (.yes (.auto 3 (.br (.yes (.br (.auto 1 (.yes (.auto 1 (.br (.auto 2 (.yes (.auto 1 (.br (.yes .done) (.br .done .done))))) (.auto 5 (.br .done .done)))))) (.auto 10 (.br .done .done)))) (.yes (.br (.auto 1 (.yes (.auto 1 (.br (.auto 2 (.yes (.auto 1 (.br (.yes .done) (.br .done .done))))) (.auto 5 (.br .done .done)))))) (.auto 10 (.br .done .done)))))))) (.auto 6 (.yes (.br (.auto 1 (.yes (.auto 1 (.br (.auto 2 (.yes (.auto 1 (.br (.yes .done) (.br .done .done))))) (.auto 5 (.br .done .done)))))) (.auto 10 (.br .done .done))))))))) (.auto 10 (.yes (.br (.auto 1 (.yes (.auto 1 (.br (.auto 2 (.yes (.auto 1 (.br (.yes .done) (.br .done .done))))) (.auto 5 (.br .done .done)))))) (.auto 10 (.br .done .done)))))) (let e1 := (@ByteArray.size s); let e2 := ((e1 : Nat) : Int); let e3 := (@AV.lit (@Value.string s)); let e4 := (w64 (a + (1 : Int))); let e5 := (e1 ≤ 100000000); let e6 := (0 : Int); let e7 := (w64 (e4 + (@spnI digB s e4))); let e8 := (w64 (e7 + (1 : Int))); let e9 := (@isSo (@And ((@HAppend.hAppend _ _ _ _ (@HAppend.hAppend _ _ _ _ [] [e3, (int e8)]) []) = [e3, (int e8)]) (@And e5 (@And (e6 ≤ e8) (e8 ≤ e2))))); let e10 := (w64 (a + (@spnI digB s a))); let e11 := (w64 (e10 + (1 : Int))); let e12 := (@isSo (@And ((@HAppend.hAppend _ _ _ _ (@HAppend.hAppend _ _ _ _ [] [e3, (int e11)]) []) = [e3, (int e11)]) (@And e5 (@And (e6 ≤ e11) (e11 ≤ e2))))); (.fork (!(leI e2 a)) (.need (@inR a e1) (.fork (!(eqI (@byteAt s (a).toNat) (43 : Int))) (.need (@inR a e1) (.fork (eqI (@byteAt s (a).toNat) (45 : Int)) (.need (@isSo (@And ((@HAppend.hAppend _ _ _ _ (@HAppend.hAppend _ _ _ _ [] [e3, (int e4)]) []) = [e3, (int e4)]) (@And e5 (@And (e6 ≤ e4) (e4 ≤ e2))))) (.fork (!(leI e2 e7)) (.need (@inR e7 e1) (.fork (eqI (@byteAt s (e7).toNat) (46 : Int)) (.need e9 (.fork (!(leI (@spnI digB s e8) e6)) (.need e9 (.leaf (int (w64 ((w64 (e8 + (@spnI digB s e8))) - a))))) (.fork (eqI (@spnI digB s e4) e6) (.leaf (int e6)) (.leaf (int (w64 (e7 - a))))))) (.fork (eqI (@spnI digB s e4) e6) (.leaf (int e6)) (.leaf (int (w64 (e7 - a))))))) (.fork (eqI (@spnI digB s e4) e6) (.leaf (int e6)) (.leaf (int (w64 (e7 - a))))))) (.need (@isSo (@And ((@HAppend.hAppend _ _ _ _ (@HAppend.hAppend _ _ _ _ [] [e3, (int a)]) []) = [e3, (int a)]) (@And e5 (@And (e6 ≤ a) (a ≤ e2))))) (.fork (!(leI e2 e10)) (.need (@inR e10 e1) (.fork (eqI (@byteAt s (e10).toNat) (46 : Int)) (.need e12 (.fork (!(leI (@spnI digB s e11) e6)) (.need e12 (.leaf (int (w64 ((w64 (e11 + (@spnI digB s e11))) - a))))) (.fork (eqI (@spnI digB s a) e6) (.leaf (int e6)) (.leaf (int (w64 (e10 - a))))))) (.fork (eqI (@spnI digB s a) e6) (.leaf (int e6)) (.leaf (int (w64 (e10 - a))))))) (.fork (eqI (@spnI digB s a) e6) (.leaf (int e6)) (.leaf (int (w64 (e10 - a))))))))) (.need (@isSo (@And ((@HAppend.hAppend _ _ _ _ (@HAppend.hAppend _ _ _ _ [] [e3, (int e4)]) []) = [e3, (int e4)]) (@And e5 (@And (e6 ≤ e4) (e4 ≤ e2))))) (.fork (!(leI e2 e7)) (.need (@inR e7 e1) (.fork (eqI (@byteAt s (e7).toNat) (46 : Int)) (.need e9 (.fork (!(leI (@spnI digB s e8) e6)) (.need e9 (.leaf (int (w64 ((w64 (e8 + (@spnI digB s e8))) - a))))) (.fork (eqI (@spnI digB s e4) e6) (.leaf (int e6)) (.leaf (int (w64 (e7 - a))))))) (.fork (eqI (@spnI digB s e4) e6) (.leaf (int e6)) (.leaf (int (w64 (e7 - a))))))) (.fork (eqI (@spnI digB s e4) e6) (.leaf (int e6)) (.leaf (int (w64 (e7 - a))))))))) (.need (@isSo (@And ((@HAppend.hAppend _ _ _ _ (@HAppend.hAppend _ _ _ _ [] [e3, (int a)]) []) = [e3, (int a)]) (@And e5 (@And (e6 ≤ a) (a ≤ e2))))) (.fork (!(leI e2 e10)) (.need (@inR e10 e1) (.fork (eqI (@byteAt s (e10).toNat) (46 : Int)) (.need e12 (.fork (!(leI (@spnI digB s e11) e6)) (.need e12 (.leaf (int (w64 ((w64 (e11 + (@spnI digB s e11))) - a))))) (.fork (eqI (@spnI digB s a) e6) (.leaf (int e6)) (.leaf (int (w64 (e10 - a))))))) (.fork (eqI (@spnI digB s a) e6) (.leaf (int e6)) (.leaf (int (w64 (e10 - a))))))) (.fork (eqI (@spnI digB s a) e6) (.leaf (int e6)) (.leaf (int (w64 (e10 - a))))))))) (by kernel_rfl) ?_
  conv => zeta
  have hB : ∀ b : Int, 0 ≤ b → b ≤ s.size → numB s b a = if (!leI s.size (b + spnI digB s b) && (eqI (byteAt s (b + spnI digB s b).toNat) 46 && !leI (spnI digB s (b + spnI digB s b + 1)) 0)) = true then b + spnI digB s b + 1 + spnI digB s (b + spnI digB s b + 1) - a
  else if eqI (spnI digB s b) 0 = true then 0 else b + spnI digB s b - a := fun b _ _ => rfl
  have b1 := spnI_bd digB s a h0
  have b2 := spnI_bd digB s (a + 1) (by omega)
  have b3 := spnI_bd digB s (a + spnI digB s a + 1) (by omega)
  have b4 := spnI_bd digB s (a + 1 + spnI digB s (a + 1) + 1) (by omega)
  rw [w64_in (r := a + 1) (by omega), w64_in (r := a + spnI digB s a) (by omega), w64_in (r := a + 1 + spnI digB s (a + 1)) (by omega),
    w64_in (r := a + spnI digB s a + 1) (by omega), w64_in (r := a + 1 + spnI digB s (a + 1) + 1) (by omega),
    w64_in (r := a + spnI digB s a + 1 + spnI digB s (a + spnI digB s a + 1)) (by omega), w64_in (r := a + 1 + spnI digB s (a + 1) + 1 + spnI digB s (a + 1 + spnI digB s (a + 1) + 1)) (by omega),
    w64_in (r := a + spnI digB s a - a) (by omega), w64_in (r := a + 1 + spnI digB s (a + 1) - a) (by omega),
    w64_in (r := a + spnI digB s a + 1 + spnI digB s (a + spnI digB s a + 1) - a) (by omega), w64_in (r := a + 1 + spnI digB s (a + 1) + 1 + spnI digB s (a + 1 + spnI digB s (a + 1) + 1) - a) (by omega)]
  have sub : ∀ b : Int, 0 ≤ b → b ≤ s.size → (numI s a = numB s b a) → True := fun _ _ _ _ => trivial
  refine fork_ok (fun q => ?_) (fun q => ?_)
  · have q' := q
    simp only [Bool.not_eq_true', Bool.not_eq_false', leI_t, leI_f, eqI_t, eqI_f, inR_t, inR_f, isSo_t, isSo_f] at q'
    have hr : inR a s.size = true := by rw [inR_t]; omega
    refine need_t hr (fork_ok (fun e => need_t hr (fork_ok (fun f => ?_) (fun f => ?_))) (fun e => ?_))
    · have eN : numI s a = numB s (a + 1) a := by unfold numI; rw [q, f]; simp
      rw [eN]
      unfold numB
      refine need_so ⟨rfl, hs', by omega, by omega⟩ (fork_ok (fun u => ?_) (fun u => ?_))
      · have u' := u
        simp only [Bool.not_eq_true', leI_f] at u'
        have hr2 : inR (a + 1 + spnI digB s (a + 1)) s.size = true := by rw [inR_t]; omega
        refine need_t hr2 (fork_ok (fun x => ?_) (fun x => ?_))
        · refine need_so ⟨rfl, hs', by omega, by omega⟩ (fork_ok (fun y => need_so ⟨rfl, hs', by omega, by omega⟩ ?_) (fun y => fork_ok (fun z => ?_) (fun z => ?_)))
          · refine leaf_int ?_
            rw [u, x, y]; simp
          · refine leaf_int ?_
            rw [u, x, y, z]; simp
          · refine leaf_int ?_
            rw [u, x, y, z]; simp
        · refine fork_ok (fun z => ?_) (fun z => ?_)
          · refine leaf_int ?_
            rw [u, x, z]; simp
          · refine leaf_int ?_
            rw [u, x, z]; simp
      · refine fork_ok (fun z => ?_) (fun z => ?_)
        · refine leaf_int ?_
          rw [u, z]; simp
        · refine leaf_int ?_
          rw [u, z]; simp
    · have eN : numI s a = numB s a a := by
        unfold numI
        simp only [Bool.not_eq_true'] at e
        rw [e, f]; simp
      rw [eN]
      unfold numB
      refine need_so ⟨rfl, hs', by omega, by omega⟩ (fork_ok (fun u => ?_) (fun u => ?_))
      · have u' := u
        simp only [Bool.not_eq_true', leI_f] at u'
        have hr2 : inR (a + spnI digB s a) s.size = true := by rw [inR_t]; omega
        refine need_t hr2 (fork_ok (fun x => ?_) (fun x => ?_))
        · refine need_so ⟨rfl, hs', by omega, by omega⟩ (fork_ok (fun y => need_so ⟨rfl, hs', by omega, by omega⟩ ?_) (fun y => fork_ok (fun z => ?_) (fun z => ?_)))
          · refine leaf_int ?_
            rw [u, x, y]; simp
          · refine leaf_int ?_
            rw [u, x, y, z]; simp
          · refine leaf_int ?_
            rw [u, x, y, z]; simp
        · refine fork_ok (fun z => ?_) (fun z => ?_)
          · refine leaf_int ?_
            rw [u, x, z]; simp
          · refine leaf_int ?_
            rw [u, x, z]; simp
      · refine fork_ok (fun z => ?_) (fun z => ?_)
        · refine leaf_int ?_
          rw [u, z]; simp
        · refine leaf_int ?_
          rw [u, z]; simp
    · have eN : numI s a = numB s (a + 1) a := by
        unfold numI
        simp only [Bool.not_eq_false'] at e
        rw [q, e]; simp
      rw [eN]
      unfold numB
      refine need_so ⟨rfl, hs', by omega, by omega⟩ (fork_ok (fun u => ?_) (fun u => ?_))
      · have u' := u
        simp only [Bool.not_eq_true', leI_f] at u'
        have hr2 : inR (a + 1 + spnI digB s (a + 1)) s.size = true := by rw [inR_t]; omega
        refine need_t hr2 (fork_ok (fun x => ?_) (fun x => ?_))
        · refine need_so ⟨rfl, hs', by omega, by omega⟩ (fork_ok (fun y => need_so ⟨rfl, hs', by omega, by omega⟩ ?_) (fun y => fork_ok (fun z => ?_) (fun z => ?_)))
          · refine leaf_int ?_
            rw [u, x, y]; simp
          · refine leaf_int ?_
            rw [u, x, y, z]; simp
          · refine leaf_int ?_
            rw [u, x, y, z]; simp
        · refine fork_ok (fun z => ?_) (fun z => ?_)
          · refine leaf_int ?_
            rw [u, x, z]; simp
          · refine leaf_int ?_
            rw [u, x, z]; simp
      · refine fork_ok (fun z => ?_) (fun z => ?_)
        · refine leaf_int ?_
          rw [u, z]; simp
        · refine leaf_int ?_
          rw [u, z]; simp
  · have q' := q
    simp only [Bool.not_eq_true', Bool.not_eq_false', leI_t, leI_f, eqI_t, eqI_f, inR_t, inR_f, isSo_t, isSo_f] at q'
    have eN : numI s a = numB s a a := by unfold numI; rw [q]; simp
    rw [eN]
    unfold numB
    refine need_so ⟨rfl, hs', by omega, by omega⟩ (fork_ok (fun u => ?_) (fun u => ?_))
    · have u' := u
      simp only [Bool.not_eq_true', leI_f] at u'
      have hr2 : inR (a + spnI digB s a) s.size = true := by rw [inR_t]; omega
      refine need_t hr2 (fork_ok (fun x => ?_) (fun x => ?_))
      · refine need_so ⟨rfl, hs', by omega, by omega⟩ (fork_ok (fun y => need_so ⟨rfl, hs', by omega, by omega⟩ ?_) (fun y => fork_ok (fun z => ?_) (fun z => ?_)))
        · refine leaf_int ?_
          rw [u, x, y]; simp
        · refine leaf_int ?_
          rw [u, x, y, z]; simp
        · refine leaf_int ?_
          rw [u, x, y, z]; simp
      · refine fork_ok (fun z => ?_) (fun z => ?_)
        · refine leaf_int ?_
          rw [u, x, z]; simp
        · refine leaf_int ?_
          rw [u, x, z]; simp
    · refine fork_ok (fun z => ?_) (fun z => ?_)
      · refine leaf_int ?_
        rw [u, z]; simp
      · refine leaf_int ?_
        rw [u, z]; simp
noncomputable abbrev Sy.cNum (s : ByteArray) : Con Try.prog := atX 53 (fun args => match args with | [_, .lit (.int _ a)] => some a | _ => none) (fun a => [.lit (.string s), int a]) (fun a => int (numI s a)) (fun a => limB s.size ∧ 0 ≤ a ∧ a ≤ s.size) fun a h => ⟨⟨⟨trivial, trivial, trivial⟩, trivial⟩, num_t s h.1 a h.2.1 h.2.2⟩
end Go.Proofs.Ytlmanlpgknhfpaa
namespace Go.Proofs.Ytlmanlpgknhfpaa
open Go Go.RowKit Pl Sy
namespace Sy
abbrev bhF (s t : ByteArray) (a : Int) : Fr := (some ((@AV.lit (@Value.string s))) :: some (int a) :: some ((@AV.lit (@Value.string t))) :: none :: none :: none :: some ((int (0 : Int))) :: (nn16 []))
abbrev quF (s : ByteArray) (a e : Int) : Fr := (some ((@AV.lit (@Value.string s))) :: some ((int a)) :: none :: none :: some ((@AV.ptr 0 0)) :: some ((int (0 : Int))) :: some (int e) :: (nn46 []))
abbrev quM : Mem := (@Mem.mk 1 0 [(some (@Blk.mk [(int (0 : Int)), (@AV.lit (@Value.string (@ByteArray.mk (@Array.mk _ [])))), (int (0 : Int))] 40 none))])
end Sy
def bhP (s t : ByteArray) (a : Int) : Int := (hops (fun j => hsI s t j) (fun j => j + 1) s.size a.toNat : Nat)
theorem bhP_step (s t : ByteArray) (a : Int) (h0 : 0 ≤ a) : bhP s t a = if a < s.size ∧ hsI s t a = false then bhP s t (a + 1) else a := by
  unfold bhP
  rw [hops_step (fun k _ => Nat.lt_succ_self k)]
  have ea : ((a.toNat : Nat) : Int) = a := by omega
  by_cases h : a < s.size ∧ hsI s t a = false
  · rw [if_pos h, if_pos ⟨by omega, by rw [ea]; exact h.2⟩, show (a + 1).toNat = a.toNat + 1 by omega]
  · rw [if_neg h, if_neg (fun ⟨q1, q2⟩ => h ⟨by omega, by rw [ea] at q2; exact q2⟩)]
    omega
theorem bhP_le (s t : ByteArray) (a : Int) (h0 : 0 ≤ a) (h : a ≤ s.size) : a ≤ bhP s t a ∧ bhP s t a ≤ s.size := by
  have := hops1_le (fun j => hsI s t j) s.size a.toNat (by omega)
  unfold bhP
  omega
namespace Sy
abbrev bhE (s t : ByteArray) (a : Int) : Fr := (some ((@AV.lit (@Value.string s))) :: some (int a) :: some ((@AV.lit (@Value.string t))) :: none :: none :: none :: some (int (a + t.size)) :: (nn16 []))
end Sy
theorem Sy.bhi_scan (s t : ByteArray) (hs : limB s.size) (ht : limB t.size) : ∀ (k : Nat) (a : Int), s.size - a.toNat ≤ k → 0 ≤ a → a ≤ s.size → LoopTo Try.prog (theBody Try.prog 49 2) (k + 1) (bhF s t a) M0 fun ex F' M' => M' = M0 ∧ ((leI s.size (bhP s t a) = false ∧ ex = .ret ∧ F' = bhE s t (bhP s t a)) ∨ (leI s.size (bhP s t a) = true ∧ ex = .exit 0 ∧ F' = bhF s t (bhP s t a))) := by
  have hs' := hs
  have ht' := ht
  unfold limB at hs ht
  intro k
  induction k with
  | zero =>
    intro a h1 h2 h3
    refine roundL [cHst s] [] 400 30 49 2 Try.func49 rfl (by kernel_rfl) (true :: true :: true :: false :: false :: false :: true :: (ff16 [])) (.br (.yes (.br .done .done)) .done) (let e1 := (((@ByteArray.size s) : Nat) : Int); let e2 := (@AV.lit (@Value.string s)); let e3 := (@AV.lit (@Value.string t)); (.fork (!(leI e1 a)) (.need (@isSo (@And ((@HAppend.hAppend _ _ _ _ (@HAppend.hAppend _ _ _ _ [] [e2, (int a), e3]) []) = [e2, (int a), e3]) (@And (@And ((@ByteArray.size s) ≤ 100000000) ((@ByteArray.size t) ≤ 100000000)) (@And ((0 : Int) ≤ a) (a ≤ e1))))) (.fork (@hsI s t a) (.leaf (Ex.ret, (((some e2) :: (some (int a)) :: (some e3) :: none :: none :: none :: (some (int (w64 (a + (((@ByteArray.size t) : Nat) : Int))))) :: (nn16 [])), (@Mem.mk 0 0 [])))) (.leaf (Ex.norm, (((some e2) :: (some (int (w64 (a + (1 : Int))))) :: (some e3) :: none :: none :: none :: (some (int (0 : Int))) :: (nn16 [])), (@Mem.mk 0 0 [])))))) (.leaf ((@Ex.exit 0), (((some e2) :: (some (int a)) :: (some e3) :: none :: none :: none :: (some (int (0 : Int))) :: (nn16 [])), (@Mem.mk 0 0 [])))))) (by kernel_rfl) ?_
    refine fork_ok (fun h => ?_) (fun h => ?_)
    · simp only [Bool.not_eq_true', Bool.not_eq_false', leI_t, leI_f, eqI_t, eqI_f, inR_t, inR_f, isSo_t, isSo_f] at h
      omega
    · refine ⟨rfl, .inr ?_⟩
      rw [bhP_step s t a h2, if_neg (fun x => by omega)]
      simp only [Bool.not_eq_true', Bool.not_eq_false', leI_t, leI_f, eqI_t, eqI_f, inR_t, inR_f, isSo_t, isSo_f] at h
      exact ⟨by rw [leI_t]; omega, rfl, rfl⟩
  | succ k ih =>
    intro a h1 h2 h3
    refine roundL [cHst s] [] 400 30 49 2 Try.func49 rfl (by kernel_rfl) (true :: true :: true :: false :: false :: false :: true :: (ff16 [])) (.br (.yes (.br .done .done)) .done) (let e1 := (((@ByteArray.size s) : Nat) : Int); let e2 := (@AV.lit (@Value.string s)); let e3 := (@AV.lit (@Value.string t)); (.fork (!(leI e1 a)) (.need (@isSo (@And ((@HAppend.hAppend _ _ _ _ (@HAppend.hAppend _ _ _ _ [] [e2, (int a), e3]) []) = [e2, (int a), e3]) (@And (@And ((@ByteArray.size s) ≤ 100000000) ((@ByteArray.size t) ≤ 100000000)) (@And ((0 : Int) ≤ a) (a ≤ e1))))) (.fork (@hsI s t a) (.leaf (Ex.ret, (((some e2) :: (some (int a)) :: (some e3) :: none :: none :: none :: (some (int (w64 (a + (((@ByteArray.size t) : Nat) : Int))))) :: (nn16 [])), (@Mem.mk 0 0 [])))) (.leaf (Ex.norm, (((some e2) :: (some (int (w64 (a + (1 : Int))))) :: (some e3) :: none :: none :: none :: (some (int (0 : Int))) :: (nn16 [])), (@Mem.mk 0 0 [])))))) (.leaf ((@Ex.exit 0), (((some e2) :: (some (int a)) :: (some e3) :: none :: none :: none :: (some (int (0 : Int))) :: (nn16 [])), (@Mem.mk 0 0 [])))))) (by kernel_rfl) ?_
    refine fork_ok (fun h => ?_) (fun h => ?_)
    · simp only [Bool.not_eq_true', Bool.not_eq_false', leI_t, leI_f, eqI_t, eqI_f, inR_t, inR_f, isSo_t, isSo_f] at h
      refine need_so ⟨rfl, ⟨hs', ht'⟩, h2, h3⟩ (fork_ok (fun q => ?_) (fun q => ?_))
      · rw [w64_in (r := a + (t.size : Int)) (by omega)]
        refine ⟨rfl, .inl ?_⟩
        rw [bhP_step s t a h2, if_neg (fun x => by rw [q] at x; exact absurd x.2 (by simp))]
        exact ⟨by rw [leI_f]; omega, rfl, rfl⟩
      · rw [w64_in (r := a + 1) (by omega)]
        rw [bhP_step s t a h2, if_pos ⟨by omega, q⟩]
        exact ih (a + 1) (by omega) (by omega) (by omega)
    · refine ⟨rfl, .inr ?_⟩
      simp only [Bool.not_eq_true', Bool.not_eq_false', leI_t, leI_f, eqI_t, eqI_f, inR_t, inR_f, isSo_t, isSo_f] at h
      rw [bhP_step s t a h2, if_neg (fun x => by omega)]
      exact ⟨by rw [leI_t]; omega, rfl, rfl⟩
namespace Sy
noncomputable abbrev lp_bhi (s t : ByteArray) : Lp Try.prog where
  f := 49
  key := 2
  S := formS (fun F M => slotI F 1) (fun a => bhF s t a) (fun _ => M0) (fun a => (limB s.size ∧ limB t.size) ∧ 0 ≤ a ∧ a ≤ s.size) (fun a => .fork (leI s.size (bhP s t a)) (.leaf (.exit 0, bhF s t (bhP s t a), M0)) (.leaf (.ret, bhE s t (bhP s t a), M0))) (true :: true :: true :: false :: false :: false :: true :: (ff16 []))
  one := by kernel_rfl
  ok := formS_ok fun a ⟨h1, h2, h3⟩ => by
    refine ⟨s.size + 1, ?_⟩
    refine (Sy.bhi_scan s t h1.1 h1.2 s.size a (by omega) h2 h3).mono fun ex F M hg => ?_
    obtain ⟨rfl, ⟨q1, rfl, rfl⟩ | ⟨q1, rfl, rfl⟩⟩ := hg
    · exact .inr ⟨q1, rfl⟩
    · exact .inl ⟨q1, rfl⟩
end Sy
def bhI (s t : ByteArray) (a : Int) : Int := if leI s.size (bhP s t a) = true then s.size else bhP s t a + t.size
theorem Sy.bhi_t (s t : ByteArray) (hs : limB s.size) (ht : limB t.size) (a : Int) (h0 : 0 ≤ a) (h1 : a ≤ s.size) : CallTo Try.prog 49 [.lit (.string s), int a, .lit (.string t)] M0 fun v _ => v = int (bhI s t a) :=
  toV [cHst s] [lp_bhi s t] 400 30 (.br .done .done) (let e1 := (some (@AV.lit (@Value.string s))); let e2 := (some (@AV.lit (@Value.string t))); let e3 := (((@ByteArray.size s) : Nat) : Int); (.need (@isSo (@And ((e1 :: (some (int a)) :: e2 :: (none :: none :: none :: (some (int (0 : Int))) :: (nn16 []))) = (e1 :: (some (int a)) :: e2 :: none :: none :: none :: (some (int (0 : Int))) :: (nn16 []))) ((@Mem.mk 0 0 []) = M0))) (.need (@isSo (@And (@And ((@ByteArray.size s) ≤ 100000000) ((@ByteArray.size t) ≤ 100000000)) (@And ((0 : Int) ≤ a) (a ≤ e3)))) (.fork (leI e3 (@bhP s t a)) (.leaf (int e3)) (.leaf (int ((@bhP s t a) + (((@ByteArray.size t) : Nat) : Int)))))))) (by kernel_rfl) (need_so ⟨rfl, rfl⟩ (need_so ⟨⟨hs, ht⟩, h0, h1⟩ (fork_ok (fun q => by unfold bhI; rw [q]; exact rfl) (fun q => by unfold bhI; rw [q]; exact rfl))))
noncomputable abbrev Sy.cBhi (s : ByteArray) : Con Try.prog := atX 49 (fun args => match args with | [_, .lit (.int _ a), .lit (.string t)] => some (a, t) | _ => none) (fun x => [.lit (.string s), int x.1, .lit (.string x.2)]) (fun x => int (bhI s x.2 x.1)) (fun x => (limB s.size ∧ limB x.2.size) ∧ 0 ≤ x.1 ∧ x.1 ≤ s.size) fun x h => ⟨⟨⟨trivial, trivial, trivial, trivial⟩, trivial⟩, bhi_t s x.2 h.1.1 h.1.2 x.1 h.2.1 h.2.2⟩
def quoB (q c : Int) : Bool := !eqI c q && !eqI c 10
theorem Sy.quo_scan (s : ByteArray) (hs : limB s.size) (a : Int) (h0 : 0 ≤ a) (h1 : a < s.size) : ∀ (k : Nat) (e : Int), s.size - e.toNat ≤ k → 0 ≤ e → e ≤ s.size → LoopTo Try.prog (theBody Try.prog 52 3) (k + 1) (quF s a e) quM fun ex F' M' => M' = quM ∧ ex = .exit 0 ∧ F' = quF s a (upI (quoB (byteAt s a.toNat)) s e) := by
  unfold limB at hs
  have hra : inR a s.size = true := by rw [inR_t]; omega
  have step : ∀ (e : Int) (n : Nat) (G : Ex → Fr → Mem → Prop), 0 ≤ e → e ≤ s.size → (e < s.size → quoB (byteAt s a.toNat) (byteAt s e.toNat) = true → LoopTo Try.prog (theBody Try.prog 52 3) n (quF s a (e + 1)) quM G) → (¬ (e < s.size ∧ quoB (byteAt s a.toNat) (byteAt s e.toNat) = true) → G (.exit 0) (quF s a e) quM) → LoopTo Try.prog (theBody Try.prog 52 3) (n + 1) (quF s a e) quM G := fun e n G q0 q1 c1 c2 => by
    refine roundL [] [] 400 30 52 3 Try.func52 rfl (by kernel_rfl) (true :: true :: false :: false :: true :: true :: true :: (ff46 [])) (.br (.auto 1 (.yes (.auto 2 (.yes (.auto 1 (.br (.auto 1 (.yes (.auto 1 (.br .done .done)))) (.auto 4 .done))))))) (.auto 12 .done)) (let e1 := (@ByteArray.size s); let e2 := (some (@AV.lit (@Value.string s))); let e3 := (@Mem.mk 1 0 [(some (@Blk.mk [(int (0 : Int)), (@AV.lit (@Value.string (@ByteArray.mk (@Array.mk _ [])))), (int (0 : Int))] 40 none))]); (.fork (!(leI ((e1 : Nat) : Int) e)) (.need (@inR e e1) (.need (@inR a e1) (.fork (!(eqI (@byteAt s (e).toNat) (@byteAt s (a).toNat))) (.need (@inR e e1) (.fork (!(eqI (@byteAt s (e).toNat) (10 : Int))) (.leaf (Ex.norm, ((e2 :: (some (int a)) :: none :: none :: (some (@AV.ptr 0 0)) :: (some (int (0 : Int))) :: (some (int (w64 (e + (1 : Int))))) :: (nn46 [])), e3))) (.leaf ((@Ex.exit 0), ((e2 :: (some (int a)) :: none :: none :: (some (@AV.ptr 0 0)) :: (some (int (0 : Int))) :: (some (int e)) :: (nn46 [])), e3))))) (.leaf ((@Ex.exit 0), ((e2 :: (some (int a)) :: none :: none :: (some (@AV.ptr 0 0)) :: (some (int (0 : Int))) :: (some (int e)) :: (nn46 [])), e3)))))) (.leaf ((@Ex.exit 0), ((e2 :: (some (int a)) :: none :: none :: (some (@AV.ptr 0 0)) :: (some (int (0 : Int))) :: (some (int e)) :: (nn46 [])), e3))))) (by kernel_rfl) ?_
    unfold quoB at c1 c2
    refine fork_ok (fun h => ?_) (fun h => ?_)
    · simp only [Bool.not_eq_true', Bool.not_eq_false', leI_t, leI_f, eqI_t, eqI_f, inR_t, inR_f, isSo_t, isSo_f] at h
      have hr : inR e s.size = true := by rw [inR_t]; omega
      refine need_t hr (need_t hra (fork_ok (fun u => need_t hr (fork_ok (fun v => ?_) (fun v => ?_))) (fun u => ?_)))
      · rw [w64_in (r := e + 1) (by omega)]
        exact c1 (by omega) (by rw [u, v]; rfl)
      · exact c2 (fun x => by rw [v] at x; simp at x)
      · exact c2 (fun x => by rw [u] at x; simp at x)
    · simp only [Bool.not_eq_true', Bool.not_eq_false', leI_t, leI_f, eqI_t, eqI_f, inR_t, inR_f, isSo_t, isSo_f] at h
      exact c2 (fun x => by omega)
  intro k
  induction k with
  | zero =>
    intro e q1 q2 q3
    refine step e 0 _ q2 q3 (fun h => absurd h (by omega)) (fun h => ⟨rfl, rfl, ?_⟩)
    rw [upI_step _ s e q2, if_neg h]
  | succ k ih =>
    intro e q1 q2 q3
    refine step e (k + 1) _ q2 q3 (fun h1 h2 => ?_) (fun h => ⟨rfl, rfl, ?_⟩)
    · rw [upI_step _ s e q2, if_pos ⟨h1, h2⟩]
      exact ih (e + 1) (by omega) (by omega) (by omega)
    · rw [upI_step _ s e q2, if_neg h]
namespace Sy
noncomputable abbrev lp_quo (s : ByteArray) (a : Int) : Lp Try.prog where
  f := 52
  key := 3
  S := formS (fun F M => slotI F 6) (fun e => quF s a e) (fun _ => quM) (fun e => limB s.size ∧ (0 ≤ a ∧ a < s.size) ∧ 0 ≤ e ∧ e ≤ s.size) (fun e => .leaf (.exit 0, quF s a (upI (quoB (byteAt s a.toNat)) s e), quM)) (true :: true :: false :: false :: true :: true :: true :: (ff46 []))
  one := by kernel_rfl
  ok := formS_ok fun e ⟨h1, h2, h3⟩ => by
    refine ⟨s.size + 1, ?_⟩
    refine (Sy.quo_scan s h1 a h2.1 h2.2 s.size e (by omega) h3.1 h3.2).mono fun ex F M hg => ?_
    obtain ⟨rfl, rfl, rfl⟩ := hg
    rfl
end Sy
namespace Sy
abbrev woF (s : ByteArray) (v l i : Int) : Fr := (some ((@AV.lit (@Value.string s))) :: none :: some ((int (0 : Int))) :: some (int v) :: some (int l) :: some (int i) :: (nn6 (nn48 [])))
end Sy
end Go.Proofs.Ytlmanlpgknhfpaa
namespace Go.Proofs.Ytlmanlpgknhfpaa
open Go Go.RowKit Pl Sy
def digD (c : Int) : Int := IntKind.i64.wrap (if (false && decide (128 ≤ (c - 48) % 256)) = true then (c - 48) % 256 - 256 else (c - 48) % 256)
noncomputable def capB (c v : Int) : Int := w64 (w64 (v * 10) + digD c)
noncomputable def capV (c v : Int) : Int := if leI (capB c v) 1125899906842624 = true then capB c v else 1125899906842624
noncomputable def wV (c v l : Int) : Int := if eqI c 46 = true then v else if (leI 48 c && leI c 57) = true then (if eqI l 0 = true then v else capV c v) else v
noncomputable def wL (c v l : Int) : Int := if eqI c 46 = true then 3 else if (leI 48 c && leI c 57) = true then (if eqI l 0 = true then l else if leI l 0 = true then l else w64 (l - 1)) else l
noncomputable def wGo (s : ByteArray) : Nat → Int → Int → Int → Int × Int
  | 0, _, v, l => (v, l)
  | k + 1, i, v, l => wGo s k (i + 1) (wV (byteAt s i.toNat) v l) (wL (byteAt s i.toNat) v l)
theorem Sy.wor_step (s : ByteArray) (hs : limB s.size) (v l i : Int) (n : Nat) (G : Ex → Fr → Mem → Prop) (h0 : 0 ≤ i) (h1 : i ≤ s.size)
    (c1 : i < s.size → ∀ v' l', wV (byteAt s i.toNat) v l = v' → wL (byteAt s i.toNat) v l = l' → LoopTo Try.prog (theBody Try.prog 80 5) n (woF s v' l' (i + 1)) M0 G)
    (c2 : i = s.size → G (.exit 0) (woF s v l i) M0) : LoopTo Try.prog (theBody Try.prog 80 5) (n + 1) (woF s v l i) M0 G := by
  unfold limB at hs
  refine roundL [] [] 400 30 80 5 Try.func80 rfl (by kernel_rfl) (true :: false :: true :: true :: true :: true :: (ff6 (ff48 []))) (.br (.yes (.br (.yes (.br (.auto 1 (.yes (.auto 1 (.br (.auto 2 (.yes (.br (.auto 0 .done) (.auto 0 .done)))) (.auto 2 .done))))) (.auto 7 .done))) (.yes (.br (.auto 1 (.yes (.auto 1 (.br (.auto 1 (.br .done (.yes (.br (.br .done .done) (.br .done .done))))) (.auto 2 .done))))) (.auto 7 .done))))) .done) (let e1 := (@inR i (@ByteArray.size s)); let e2 := (@byteAt s (i).toNat); let e3 := (@HMod.hMod _ _ _ _ (e2 - (48 : Int)) (256 : Int)); let e4 := (w64 ((w64 (v * (10 : Int))) + (IntKind.i64.wrap (if ((false && (@Decidable.decide ((128 : Int) ≤ e3) _)) = true) then (e3 - (256 : Int)) else e3)))); let e5 := (!(leI e4 (1125899906842624 : Int))); let e6 := (some (@AV.lit (@Value.string s))); let e7 := (some (int (0 : Int))); let e8 := (some (int (1125899906842624 : Int))); let e9 := (some (int (w64 (i + (1 : Int))))); let e10 := (@Mem.mk 0 0 []); let e11 := (some (int l)); let e12 := (some (int (w64 (l - (1 : Int))))); (.fork (!(leI (((@ByteArray.size s) : Nat) : Int) i)) (.need e1 (.fork (eqI e2 (46 : Int)) (.need e1 (.fork (!(!(leI (48 : Int) e2))) (.need e1 (.fork (!(!(leI e2 (57 : Int)))) (.need e1 (.fork e5 (.leaf (Ex.norm, ((e6 :: none :: e7 :: e8 :: (some (int (2 : Int))) :: e9 :: (nn6 (nn48 []))), e10))) (.leaf (Ex.norm, ((e6 :: none :: e7 :: (some (int e4)) :: (some (int (2 : Int))) :: e9 :: (nn6 (nn48 []))), e10))))) (.leaf (Ex.norm, ((e6 :: none :: e7 :: (some (int v)) :: (some (int (3 : Int))) :: e9 :: (nn6 (nn48 []))), e10))))) (.leaf (Ex.norm, ((e6 :: none :: e7 :: (some (int v)) :: (some (int (3 : Int))) :: e9 :: (nn6 (nn48 []))), e10))))) (.need e1 (.fork (!(!(leI (48 : Int) e2))) (.need e1 (.fork (!(!(leI e2 (57 : Int)))) (.fork (eqI l (0 : Int)) (.leaf (Ex.norm, ((e6 :: none :: e7 :: (some (int v)) :: e11 :: e9 :: (nn6 (nn48 []))), e10))) (.need e1 (.fork e5 (.fork (!(leI l (0 : Int))) (.leaf (Ex.norm, ((e6 :: none :: e7 :: e8 :: e12 :: e9 :: (nn6 (nn48 []))), e10))) (.leaf (Ex.norm, ((e6 :: none :: e7 :: e8 :: e11 :: e9 :: (nn6 (nn48 []))), e10)))) (.fork (!(leI l (0 : Int))) (.leaf (Ex.norm, ((e6 :: none :: e7 :: (some (int e4)) :: e12 :: e9 :: (nn6 (nn48 []))), e10))) (.leaf (Ex.norm, ((e6 :: none :: e7 :: (some (int e4)) :: e11 :: e9 :: (nn6 (nn48 []))), e10))))))) (.leaf (Ex.norm, ((e6 :: none :: e7 :: (some (int v)) :: e11 :: e9 :: (nn6 (nn48 []))), e10))))) (.leaf (Ex.norm, ((e6 :: none :: e7 :: (some (int v)) :: e11 :: e9 :: (nn6 (nn48 []))), e10))))))) (.leaf ((@Ex.exit 0), ((e6 :: none :: e7 :: (some (int v)) :: e11 :: (some (int i)) :: (nn6 (nn48 []))), e10))))) (by kernel_rfl) ?_
  refine fork_ok (fun h => ?_) (fun h => ?_)
  · simp only [Bool.not_eq_true', Bool.not_eq_false', leI_t, leI_f, eqI_t, eqI_f, inR_t, inR_f, isSo_t, isSo_f] at h
    have hr : inR i s.size = true := by rw [inR_t]; omega
    have c1 := c1 (by omega)
    rw [w64_in (r := i + 1) (by omega)]
    unfold wV wL at c1
    generalize hc : byteAt s i.toNat = c at *
    refine need_t hr (fork_ok (fun e => need_t hr (fork_ok (fun f => ?_) (fun f => ?_))) (fun e => need_t hr (fork_ok (fun f => need_t hr (fork_ok (fun g => ?_) (fun g => ?_))) (fun f => ?_))))
    · exfalso
      simp only [Bool.not_eq_true', Bool.not_eq_false', leI_t, leI_f, eqI_t, eqI_f, inR_t, inR_f, isSo_t, isSo_f] at e
      simp only [Bool.not_not, leI_t] at f
      omega
    · exact c1 _ _ (by rw [e]; rfl) (by rw [e]; rfl)
    · simp only [Bool.not_not] at f g
      refine fork_ok (fun z => ?_) (fun z => need_t hr (fork_ok (fun x => ?_) (fun x => ?_)))
      · exact c1 _ _ (by rw [e, f, g, z]; rfl) (by rw [e, f, g, z]; rfl)
      · have x' : (!leI (capB c v) 1125899906842624) = true := x
        simp only [Bool.not_eq_true'] at x'
        refine fork_ok (fun y => ?_) (fun y => ?_)
        · simp only [Bool.not_eq_true'] at y
          exact c1 _ _ (by rw [e, f, g, z]; unfold capV; rw [x']; rfl) (by rw [e, f, g, z, y]; rfl)
        · simp only [Bool.not_eq_false'] at y
          exact c1 _ _ (by rw [e, f, g, z]; unfold capV; rw [x']; rfl) (by rw [e, f, g, z, y]; rfl)
      · have x' : (!leI (capB c v) 1125899906842624) = false := x
        simp only [Bool.not_eq_false'] at x'
        refine fork_ok (fun y => ?_) (fun y => ?_)
        · simp only [Bool.not_eq_true'] at y
          exact c1 _ _ (by rw [e, f, g, z]; unfold capV; rw [x']; rfl) (by rw [e, f, g, z, y]; rfl)
        · simp only [Bool.not_eq_false'] at y
          exact c1 _ _ (by rw [e, f, g, z]; unfold capV; rw [x']; rfl) (by rw [e, f, g, z, y]; rfl)
    · simp only [Bool.not_not] at f g
      exact c1 _ _ (by rw [e, f, g]; rfl) (by rw [e, f, g]; rfl)
    · simp only [Bool.not_not] at f
      exact c1 _ _ (by rw [e, f]; rfl) (by rw [e, f]; rfl)
  · simp only [Bool.not_eq_true', Bool.not_eq_false', leI_t, leI_f, eqI_t, eqI_f, inR_t, inR_f, isSo_t, isSo_f] at h
    exact c2 (by omega)
theorem Sy.wor_scan (s : ByteArray) (hs : limB s.size) : ∀ (k : Nat) (v l i : Int), i + k = s.size → 0 ≤ i → LoopTo Try.prog (theBody Try.prog 80 5) (k + 1) (woF s v l i) M0 fun ex F' M' => M' = M0 ∧ ex = .exit 0 ∧ F' = woF s (wGo s k i v l).1 (wGo s k i v l).2 s.size := by
  intro k
  induction k with
  | zero =>
    intro v l i h1 h2
    refine wor_step s hs v l i 0 _ h2 (by omega) (fun h => absurd h (by omega)) (fun h => ⟨rfl, rfl, ?_⟩)
    rw [h]; rfl
  | succ k ih =>
    intro v l i h1 h2
    refine wor_step s hs v l i (k + 1) _ h2 (by omega) (fun h v' l' e1 e2 => ?_) (fun h => absurd h (by omega))
    subst e1 e2
    exact ih _ _ (i + 1) (by omega) (by omega)
noncomputable def worV (s : ByteArray) : Int := (wGo s s.size 0 0 (-1)).1
noncomputable def worL (s : ByteArray) : Int := (wGo s s.size 0 0 (-1)).2
namespace Sy
noncomputable abbrev lp_wor (s : ByteArray) : Lp Try.prog where
  f := 80
  key := 5
  S := formS (fun F M => some ()) (fun _ => woF s 0 (-1) 0) (fun _ => M0) (fun _ => limB s.size) (fun _ => .leaf (.exit 0, woF s (worV s) (worL s) s.size, M0)) (true :: false :: true :: true :: true :: true :: (ff6 (ff48 [])))
  one := by kernel_rfl
  ok := formS_ok fun _ h1 => by
    refine ⟨s.size + 1, ?_⟩
    refine (Sy.wor_scan s h1 s.size 0 (-1) 0 (by omega) (Int.le_refl _)).mono fun ex F M hg => ?_
    obtain ⟨rfl, rfl, rfl⟩ := hg
    rfl
end Sy
namespace Sy
abbrev w2F (s : ByteArray) (v l : Int) : Fr := (some ((@AV.lit (@Value.string s))) :: none :: some ((int (0 : Int))) :: some (int v) :: some (int l) :: (nn7 (nn48 [])))
end Sy
theorem wL_le (c v l : Int) (h : l ≤ 3) : wL c v l ≤ 3 := by
  unfold wL
  split
  · omega
  · split
    · split
      · exact h
      · split
        · exact h
        · rename_i z
          rw [Bool.not_eq_true, leI_f] at z
          rw [w64_in (r := l - 1) (by omega)]; omega
    · exact h
theorem wGo_le (s : ByteArray) : ∀ (k : Nat) (i v l : Int), l ≤ 3 → (wGo s k i v l).2 ≤ 3
  | 0, _, _, _, h => h
  | k + 1, i, v, l, h => wGo_le s k _ _ _ (wL_le _ _ _ h)
noncomputable def mulT : Nat → Int → Int
  | 0, v => v
  | n + 1, v => mulT n (w64 (v * 10))
noncomputable def tenI (v l : Int) : Int := mulT l.toNat v
theorem Sy.wo2_scan (s : ByteArray) : ∀ (k : Nat) (v l : Int), l.toNat = k → l ≤ 3 → LoopTo Try.prog (theBody Try.prog 80 17) (k + 1) (w2F s v l) M0 fun ex F' M' => M' = M0 ∧ ex = .exit 2 ∧ ∃ l', F' = w2F s (tenI v l) l' := by
  intro k
  induction k with
  | zero =>
    intro v l h1 h2
    refine roundL [] [] 400 30 80 17 Try.func80 rfl (by kernel_rfl) (true :: false :: true :: true :: true :: (ff7 (ff48 []))) (.br .done .done) (let e1 := (some (@AV.lit (@Value.string s))); (.fork (!(leI l (0 : Int))) (.leaf (Ex.norm, ((e1 :: none :: (some (int (0 : Int))) :: (some (int (w64 (v * (10 : Int))))) :: (some (int (w64 (l - (1 : Int))))) :: (nn7 (nn48 []))), (@Mem.mk 0 0 [])))) (.leaf ((@Ex.exit 2), ((e1 :: none :: (some (int (0 : Int))) :: (some (int v)) :: (some (int l)) :: (nn7 (nn48 []))), (@Mem.mk 0 0 [])))))) (by kernel_rfl) ?_
    refine fork_ok (fun h => ?_) (fun h => ?_)
    · simp only [Bool.not_eq_true', Bool.not_eq_false', leI_t, leI_f, eqI_t, eqI_f, inR_t, inR_f, isSo_t, isSo_f] at h
      omega
    · exact ⟨rfl, rfl, l, by unfold tenI; rw [h1]; rfl⟩
  | succ k ih =>
    intro v l h1 h2
    refine roundL [] [] 400 30 80 17 Try.func80 rfl (by kernel_rfl) (true :: false :: true :: true :: true :: (ff7 (ff48 []))) (.br .done .done) (let e1 := (some (@AV.lit (@Value.string s))); (.fork (!(leI l (0 : Int))) (.leaf (Ex.norm, ((e1 :: none :: (some (int (0 : Int))) :: (some (int (w64 (v * (10 : Int))))) :: (some (int (w64 (l - (1 : Int))))) :: (nn7 (nn48 []))), (@Mem.mk 0 0 [])))) (.leaf ((@Ex.exit 2), ((e1 :: none :: (some (int (0 : Int))) :: (some (int v)) :: (some (int l)) :: (nn7 (nn48 []))), (@Mem.mk 0 0 [])))))) (by kernel_rfl) ?_
    refine fork_ok (fun h => ?_) (fun h => ?_)
    · simp only [Bool.not_eq_true', Bool.not_eq_false', leI_t, leI_f, eqI_t, eqI_f, inR_t, inR_f, isSo_t, isSo_f] at h
      rw [w64_in (r := l - 1) (by omega)]
      refine (ih (w64 (v * 10)) (l - 1) (by omega) (by omega)).mono fun ex F' M' ⟨e1, e2, l', e3⟩ => ⟨e1, e2, l', ?_⟩
      rw [e3]
      unfold tenI
      rw [h1, show (l - 1).toNat = k by omega]
      rfl
    · simp only [Bool.not_eq_true', Bool.not_eq_false', leI_t, leI_f, eqI_t, eqI_f, inR_t, inR_f, isSo_t, isSo_f] at h
      omega
namespace Sy
noncomputable abbrev lp_wo2 (s : ByteArray) : Lp Try.prog where
  f := 80
  key := 17
  S := formS (fun F M => match slotI F 3, slotI F 4 with | some v, some l => some (v, l) | _, _ => none) (fun x => w2F s x.1 x.2) (fun _ => M0) (fun x => x.2 ≤ 3) (fun x => .leaf (.exit 2, (some ((@AV.lit (@Value.string s))) :: none :: some ((int (0 : Int))) :: some (int (tenI x.1 x.2)) :: (nn8 (nn48 []))), M0)) (true :: false :: true :: true :: true :: (ff7 (ff48 [])))
  one := by kernel_rfl
  ok := formS_ok fun x h1 => by
    refine ⟨x.2.toNat + 1, ?_⟩
    refine ((Sy.wo2_scan s x.2.toNat x.1 x.2 rfl h1).out (true :: false :: true :: true :: (ff8 (ff48 [])))).mono fun ex F M hg => ?_
    obtain ⟨F0, ⟨rfl, rfl, l', rfl⟩, rfl⟩ := hg
    rfl
end Sy
def holdC (a : Int) : Int := if leI a 1073741824 = true then (if leI (-1073741824) a = true then a else -1073741824) else 1073741824
theorem Sy.hold_r (a : Int) : CallTo Try.prog 81 [int a] M0 fun v _ => v = int (holdC a) :=
  toV [] [] 400 30 (.br .done (.br .done .done)) (.fork (!(leI a (1073741824 : Int))) (.leaf (int (1073741824 : Int))) (.fork (!(leI (-1073741824 : Int) a)) (.leaf (int (-1073741824 : Int))) (.leaf (int a)))) (by kernel_rfl) (by
    unfold holdC
    refine fork_ok (fun h => ?_) (fun h => fork_ok (fun g => ?_) (fun g => ?_))
    · simp only [Bool.not_eq_true'] at h
      rw [h]; exact rfl
    · simp only [Bool.not_eq_true', Bool.not_eq_false'] at h g
      rw [h, g]; exact rfl
    · simp only [Bool.not_eq_false'] at h g
      rw [h, g]; exact rfl)
noncomputable abbrev Sy.cHo : Con Try.prog := atX 81 (fun args => match args with | [.lit (.int .i64 a)] => some a | _ => none) (fun a => [int a]) (fun a => int (holdC a)) (fun _ => True) fun a _ => ⟨⟨⟨trivial, trivial⟩, trivial⟩, hold_r a⟩
noncomputable def worthT (s : ByteArray) : Int := tenI (worV s) (if leI 0 (worL s) = true then worL s else 3)
noncomputable def worthI (s : ByteArray) : Int := if eqI (byteAt s 0) 45 = true then holdC (IntKind.i64.wrap (0 - worthT s)) else holdC (worthT s)
theorem Sy.wor_t (s : ByteArray) (hs : limB s.size) (h0 : 0 < s.size) : CallTo Try.prog 80 [.lit (.string s)] M0 fun v _ => v = int (worthI s) :=
  toV [cHo] [lp_wor s, lp_wo2 s] 400 30 (.br (.yes (.br (.yes .done) (.yes .done))) (.yes (.br (.yes .done) (.yes .done)))) (let e1 := (some (@AV.lit (@Value.string s))); let e2 := (some (int (0 : Int))); let e3 := ((@Mem.mk 0 0 []) = M0); let e4 := (some (int (@worV s))); let e5 := (@inR (0 : Int) (@ByteArray.size s)); let e6 := (eqI (@byteAt s 0) (45 : Int)); let e7 := (@tenI (@worV s) (Int.ofNat 3)); let e8 := (IntKind.i64.wrap ((0 : Int) - e7)); let e9 := (@tenI (@worV s) (@worL s)); let e10 := (IntKind.i64.wrap ((0 : Int) - e9)); (.need (@isSo (@And ((e1 :: (none :: e2 :: e2 :: (some (int (-1 : Int))) :: e2 :: (nn6 (nn48 [])))) = (e1 :: none :: e2 :: e2 :: (some (int (-1 : Int))) :: e2 :: (nn6 (nn48 [])))) e3)) (.need (@isSo ((@ByteArray.size s) ≤ 100000000)) (.fork (!(leI (0 : Int) (@worL s))) (.need (@isSo (@And ((e1 :: none :: e2 :: e4 :: (some (int (3 : Int))) :: (nn7 (nn48 []))) = (e1 :: none :: e2 :: e4 :: (some (int (Int.ofNat 3))) :: (nn7 (nn48 [])))) e3)) (.need (@isSo ((Int.ofNat 3) ≤ (3 : Int))) (.need e5 (.fork e6 (.need (@isSo (@And ((@HAppend.hAppend _ _ _ _ (@HAppend.hAppend _ _ _ _ [] [(int e8)]) []) = [(int e8)]) True)) (.leaf (int (@holdC e8)))) (.need (@isSo (@And ((@HAppend.hAppend _ _ _ _ (@HAppend.hAppend _ _ _ _ [] [(int e7)]) []) = [(int e7)]) True)) (.leaf (int (@holdC e7)))))))) (.need (@isSo (@And ((e1 :: none :: e2 :: e4 :: (some (int (@worL s))) :: (nn7 (nn48 []))) = (e1 :: none :: e2 :: e4 :: (some (int (@worL s))) :: (nn7 (nn48 [])))) e3)) (.need (@isSo ((@worL s) ≤ (3 : Int))) (.need e5 (.fork e6 (.need (@isSo (@And ((@HAppend.hAppend _ _ _ _ (@HAppend.hAppend _ _ _ _ [] [(int e10)]) []) = [(int e10)]) True)) (.leaf (int (@holdC e10)))) (.need (@isSo (@And ((@HAppend.hAppend _ _ _ _ (@HAppend.hAppend _ _ _ _ [] [(int e9)]) []) = [(int e9)]) True)) (.leaf (int (@holdC e9)))))))))))) (by kernel_rfl) (by
    have hr : inR 0 s.size = true := by rw [inR_t]; omega
    have hl : worL s ≤ 3 := wGo_le s _ _ _ _ (by decide)
    unfold worthI worthT
    refine need_so ⟨rfl, rfl⟩ (need_so hs (fork_ok (fun q => ?_) (fun q => ?_)))
    · simp only [Bool.not_eq_true'] at q
      rw [q]
      refine need_so ⟨rfl, rfl⟩ (need_so (by decide) (need_t hr (fork_ok (fun e => need_so ⟨rfl, trivial⟩ ?_) (fun e => need_so ⟨rfl, trivial⟩ ?_))))
      · rw [e]; exact rfl
      · rw [e]; exact rfl
    · simp only [Bool.not_eq_false'] at q
      rw [q]
      refine need_so ⟨rfl, rfl⟩ (need_so hl (need_t hr (fork_ok (fun e => need_so ⟨rfl, trivial⟩ ?_) (fun e => need_so ⟨rfl, trivial⟩ ?_))))
      · rw [e]; exact rfl
      · rw [e]; exact rfl)
noncomputable abbrev Sy.cWor : Con Try.prog := atX 80 (fun args => match args with | [.lit (.string s)] => some s | _ => none) (fun s => [.lit (.string s)]) (fun s => int (worthI s)) (fun s => limB s.size ∧ 0 < s.size) fun s h => ⟨⟨⟨trivial, trivial⟩, trivial⟩, wor_t s h.1 h.2⟩
def sgnI (c : Int) : Int := if eqI 58 c = true then 10 else if eqI 59 c = true then 11 else if eqI 44 c = true then 12 else if eqI 40 c = true then 13 else if eqI 41 c = true then 14 else if eqI 91 c = true then 15 else if eqI 93 c = true then 16 else if eqI 123 c = true then 17 else if eqI 125 c = true then 18 else 0
theorem Sy.sig_t (c : Int) : CallTo Try.prog 55 [.lit (.int .u8 c)] M0 fun v _ => v = int (sgnI c) :=
  toV [] [] 400 30 (.auto 1 (.br .done (.auto 1 (.br .done (.auto 1 (.br .done (.auto 1 (.br .done (.auto 1 (.br .done (.auto 1 (.br .done (.auto 1 (.br .done (.auto 1 (.br .done (.auto 1 (.br .done (.auto 0 .done))))))))))))))))))) (.fork (eqI (58 : Int) c) (.leaf (int (10 : Int))) (.fork (eqI (59 : Int) c) (.leaf (int (11 : Int))) (.fork (eqI (44 : Int) c) (.leaf (int (12 : Int))) (.fork (eqI (40 : Int) c) (.leaf (int (13 : Int))) (.fork (eqI (41 : Int) c) (.leaf (int (14 : Int))) (.fork (eqI (91 : Int) c) (.leaf (int (15 : Int))) (.fork (eqI (93 : Int) c) (.leaf (int (16 : Int))) (.fork (eqI (123 : Int) c) (.leaf (int (17 : Int))) (.fork (eqI (125 : Int) c) (.leaf (int (18 : Int))) (.leaf (int (0 : Int)))))))))))) (by kernel_rfl) (by
    unfold sgnI
    repeat' (first | refine fork_ok (fun _ => ?_) (fun _ => ?_))
    all_goals refine leaf_int ?_
    all_goals simp_all)
noncomputable abbrev Sy.cSig : Con Try.prog := atX 55 (fun args => match args with | [.lit (.int .u8 c)] => some c | _ => none) (fun c => [.lit (.int .u8 c)]) (fun c => int (sgnI c)) (fun _ => True) fun c _ => ⟨⟨⟨trivial, trivial⟩, trivial⟩, sig_t c⟩
end Go.Proofs.Ytlmanlpgknhfpaa
