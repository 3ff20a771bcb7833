/-
  The greatest weight of those that pick an element: the program's and the document's.
-/
import Derived.Test.YtmlhipckgmbpfaaGreatMtRefD
import Derived.Test.YtmlhipckgmbpfaaGreatKnown16
namespace Go.Proofs.YtmlhipckgmbpfaaGreat
open Go Go.RowKit Pl Sy
set_option linter.unusedVariables false
set_option linter.unusedSimpArgs false

noncomputable abbrev Sy.cRPicks (ns : List NodeW) (i : Int) (ps : List PartV) : Con Tryz.prog := at1 18 [nview ns, int i, .agg [pview ps]] (boo (picksV ns i ps)) (DocOk ns ∧ PsOk ps) fun h => ⟨⟨⟨nview_free ns, trivial, ⟨pview_free ps, trivial⟩, trivial⟩, trivial⟩, rpicks_t _ ps rfl ns i h.1 h.2⟩
noncomputable abbrev Sy.cPicksD (ns : List NodeW) (i : Int) (ps : List PartV) : Con Tryz.prog := at1 68 [nview ns, int i, pview ps] (boo (picksV ns i ps)) (DocOk ns ∧ PsOk ps) fun h => ⟨⟨⟨nview_free ns, trivial, pview_free ps, trivial⟩, trivial⟩, picks_t ns i ps h.1 h.2⟩
/-- selectors -/
abbrev Sy.sview (ss : List (List PartV)) : AV := .view ss.length 1 (fun i _ => pview (ss.getD i []))
/-sy rbe_p
fun (ns : List NodeW) (i : Int) (ss : List (List PartV)) (d : D) => probeV SyTool.probe [] 400 30 12 [nview ns, int i, sview ss] M0 d
-/
/-sy pbe_p
fun (ns : List NodeW) (i : Int) (ss : List (List PartV)) (d : D) => probeV SyTool.probe [] 400 30 23 [nview ns, int i, sview ss] M0 d
-/
/-- a loop that goes through all, with a state -/
theorem Sy.scanFold {α σ : Type} {P : Program} {body : Code} (xs : List α) (f : σ → α → σ) (d : α) (F : Int → σ → Fr) (M : σ → Mem) (id : Nat)
    (step : ∀ (k : Int) (s : σ) (n : Nat) (G : Ex → Fr → Mem → Prop), 0 ≤ k → k ≤ xs.length → (k < xs.length → LoopTo P body n (F (k + 1) (f s (xs.getD k.toNat d))) (M (f s (xs.getD k.toNat d))) G) → (k = xs.length → G (.exit id) (F k s) (M s)) → LoopTo P body (n + 1) (F k s) (M s) G) (s : σ) :
    LoopTo P body (xs.length + 1) (F 0 s) (M s) fun ex F' M' => M' = M (xs.foldl f s) ∧ ex = .exit id ∧ F' = F xs.length (xs.foldl f s) := by
  have key : ∀ (l pre : List α) (k : Int) (s : σ), xs = pre ++ l → k = pre.length → LoopTo P body (l.length + 1) (F k s) (M s) fun ex F' M' => M' = M (l.foldl f s) ∧ ex = .exit id ∧ F' = F xs.length (l.foldl f s) := by
    intro l
    induction l with
    | nil =>
      intro pre k s h hk
      have hl : xs.length = pre.length := by rw [h]; simp
      exact step k s _ _ (by omega) (by omega) (fun h1 => by omega) (fun h1 => ⟨rfl, rfl, by rw [h1]; rfl⟩)
    | cons x l ih =>
      intro pre k s h hk
      have hl : xs.length = pre.length + l.length + 1 := by rw [h]; simp; omega
      have hg : xs.getD k.toNat d = x := by rw [h]; exact getD_at _ _ _ _ _ hk
      refine step k s _ _ (by omega) (by omega) (fun h1 => ?_) (fun h1 => by omega)
      rw [hg]
      exact ih (pre ++ [x]) (k + 1) (f s x) (by rw [h]; simp) (by simp; omega)
  exact key xs [] 0 s rfl rfl
/-- does a weight count? -/
noncomputable def overB (w : Int × Int × Int) (st : (Int × Int × Int) × Bool) : Bool := !st.2 || !leI (cmp3 w.1 w.2.1 w.2.2 st.1.1 st.1.2.1 st.1.2.2) 0
noncomputable def bestN (ns : List NodeW) (i : Int) (st : (Int × Int × Int) × Bool) (ps : List PartV) : (Int × Int × Int) × Bool := if picksV ns i ps && overB (wAll ps (0, 0, 0)) st then (wAll ps (0, 0, 0), true) else st
/-- the greatest weight of those that pick, and is there one? -/
noncomputable def bestV (ns : List NodeW) (i : Int) (ss : List (List PartV)) : (Int × Int × Int) × Bool := ss.foldl (bestN ns i) ((0, 0, 0), false)
namespace Sy
abbrev beM (a b c : Int) (s : Nat) : Mem := ⟨2, s, [some ⟨[int a, int b, int c], 27, none⟩, some ⟨[int 0, int 0, int 0], 27, none⟩]⟩
abbrev rbF (ns : List NodeW) (i : Int) (ss : List (List PartV)) (k : Int) (b : Bool) : Fr := [some ((@AV.view (ns).length 6 (@ncell ns))), some ((int i)), some ((@AV.view (ss).length 1 (fun x55552 => (fun x564439 => (@AV.view ((ss.getD x55552 [])).length 6 (@pcell (ss.getD x55552 []))))))), none, none, none, some ((@AV.ptr 0 0)), some ((boo false)), some ((@AV.ptr 1 0)), some (boo b), some (int k), none, none, none, none, none, none, none, none, none, none, none, none, none, none, none, none, none, none, none, none, none, none, none, none, none, none, none, none, none, none, none, none, none, none, none]
abbrev rbE (ns : List NodeW) (i : Int) (ss : List (List PartV)) (b : Bool) : Fr := [some ((@AV.view (ns).length 6 (@ncell ns))), some ((int i)), some ((@AV.view (ss).length 1 (fun x55552 => (fun x564439 => (@AV.view ((ss.getD x55552 [])).length 6 (@pcell (ss.getD x55552 []))))))), none, none, none, some ((@AV.ptr 0 0)), some ((boo false)), some ((@AV.ptr 1 0)), some (boo b), none, none, none, none, none, none, none, none, none, none, none, none, none, none, none, none, none, none, none, none, none, none, none, none, none, none, none, none, none, none, none, none, none, none, none, none]
abbrev pbF (ns : List NodeW) (i : Int) (ss : List (List PartV)) (k : Int) (b : Bool) : Fr := [some ((@AV.view (ns).length 6 (@ncell ns))), some ((int i)), none, none, none, none, some ((@AV.ptr 0 0)), some ((boo false)), some ((@AV.ptr 1 0)), some (boo b), none, none, none, some ((@AV.view (ss).length 1 (fun x742483 => (fun x946514 => (@AV.view ((ss.getD x742483 [])).length 6 (@pcell (ss.getD x742483 []))))))), some ((int (((ss).length : Nat) : Int))), some (int k), none, none, none, none, none, none, none, none, none, none, none, none, none, none, none, none, none, none, none, none, none, none]
abbrev pbE (ns : List NodeW) (i : Int) (ss : List (List PartV)) (b : Bool) : Fr := [some ((@AV.view (ns).length 6 (@ncell ns))), some ((int i)), none, none, none, none, some ((@AV.ptr 0 0)), some ((boo false)), some ((@AV.ptr 1 0)), some (boo b), none, none, none, none, none, none, none, none, none, none, none, none, none, none, none, none, none, none, none, none, none, none, none, none, none, none, none, none]
end Sy
/-sy rbe_r
fun (ns : List NodeW) (i : Int) (ss : List (List PartV)) (k a b c : Int) (q : Bool) (d : D) => reckL [cRPicks ns i (ss.getD k.toNat []), cWeightR (ss.getD k.toNat []), cCompareR] [] 400 30 12 5 [true, true, true, false, false, false, true, true, true, true, true, false, false, false, false, false, false, false, false, false, false, false, false, false, false, false, false, false, false, false, false, false, false, false, false, false, false, false, false, false, false, false, false, false, false, false] (rbF ns i ss k q) (beM a b c 0) d
-/
/-sy pbe_r
fun (ns : List NodeW) (i : Int) (ss : List (List PartV)) (k a b c : Int) (q : Bool) (d : D) => reckL [cPicksD ns i (ss.getD k.toNat []), cWeightP (ss.getD k.toNat []), cCompare] [] 400 30 23 5 [true, true, false, false, false, false, true, true, true, true, false, false, false, true, true, true, false, false, false, false, false, false, false, false, false, false, false, false, false, false, false, false, false, false, false, false, false, false] (pbF ns i ss k q) (beM a b c 0) d
-/
def SelsOk (ss : List (List PartV)) : Prop := ss.length ≤ 17592186044416 ∧ ∀ ps ∈ ss, PsOk ps
theorem Sy.beB_lt (a b c : Int) : LtB 2 (beM a b c 0).bs := ⟨⟨⟨trivial, trivial, trivial, trivial⟩, rfl⟩, ⟨⟨trivial, trivial, trivial, trivial⟩, rfl⟩, trivial⟩
theorem Sy.sview_free (ss : List (List PartV)) : Free (sview ss) := fun i j => pview_free _
theorem Sy.rbF_lt (ns : List NodeW) (i : Int) (ss : List (List PartV)) (k : Int) (b : Bool) : LtF 2 (rbF ns i ss k b) := by
  simp only [LtF]
  exact ⟨Free.lt (nview_free ns), trivial, Free.lt (sview_free ss), show 0 < 2 by omega, trivial, show 1 < 2 by omega, trivial, trivial, trivial⟩
theorem Sy.pbF_lt (ns : List NodeW) (i : Int) (ss : List (List PartV)) (k : Int) (b : Bool) : LtF 2 (pbF ns i ss k b) := by
  simp only [LtF]
  exact ⟨Free.lt (nview_free ns), trivial, show 0 < 2 by omega, trivial, show 1 < 2 by omega, trivial, Free.lt (sview_free ss), trivial, trivial, trivial⟩
abbrev BSt := (Int × Int × Int) × Bool
theorem Sy.rb_scan (ns : List NodeW) (i : Int) (ss : List (List PartV)) (hok : DocOk ns) (hs : SelsOk ss) (st : BSt) : LoopTo Tryz.prog (theBody Tryz.prog 12 5) (ss.length + 1) (rbF ns i ss 0 st.2) (beM st.1.1 st.1.2.1 st.1.2.2 0) fun ex F' M' => M' = (fun st : BSt => beM st.1.1 st.1.2.1 st.1.2.2 0) (ss.foldl (bestN ns i) st) ∧ ex = .exit 0 ∧ F' = rbF ns i ss ss.length (ss.foldl (bestN ns i) st).2 :=
  scanFold ss (bestN ns i) [] (fun k st => rbF ns i ss k st.2) (fun st => beM st.1.1 st.1.2.1 st.1.2.2 0) 0 (fun k st n G h0 h1 c1 c3 => by
    obtain ⟨⟨a, b, c⟩, q⟩ := st
    have hw : k < ss.length → w64 (k + 1) = k + 1 := fun h => w64_in (by have := hs.1; omega)
    simp only
    refine roundCut plain mixed [cRPicks ns i (ss.getD k.toNat []), cWeightR (ss.getD k.toNat []), cCompareR] [] 400 30 12 5 Tryz.func12 rfl (by kernel_rfl) [true, true, true, false, false, false, true, true, true, true, true, false, false, false, false, false, false, false, false, false, false, false, false, false, false, false, false, false, false, false, false, false, false, false, false, false, false, false, false, false, false, false, false, false, false, false] (.br (.yes (.yes (.br (.auto 1 (.br (.auto 1 (.yes (.auto 1 (.yes (.auto 1 (.yes (.auto 3 (.br (.yes (.yes .done)) .done)))))))) (.auto 10 (.yes (.yes .done))))) (.auto 12 .done)))) .done) (.fork (!(leI (((ss).length : Nat) : Int) k)) (.need (@inR k (ss).length) (.need (@isSo (@And ([(@AV.view (ns).length 6 (@ncell ns)), (int i), (@AV.agg [(@AV.view ((ss.getD (k).toNat [])).length 6 (@pcell (ss.getD (k).toNat [])))])] = [(@AV.view (ns).length 6 (@ncell ns)), (int i), (@AV.agg [(@AV.view ((ss.getD (k).toNat [])).length 6 (@pcell (ss.getD (k).toNat [])))])]) (@And (@And ((ns).length ≤ 17592186044416) (∀ (n : NodeW), n ∈ ns → NodeOk n)) (@And (((ss.getD (k).toNat [])).length ≤ 17592186044416) (∀ (p : PartV), p ∈ ss.getD k.toNat [] → RowOk p ∧ p.cls.length ≤ 17592186044416 ∧ p.tests.length ≤ 17592186044416))))) (.fork (@picksV ns i (ss.getD (k).toNat [])) (.fork (!(!q)) (.need (@inR k (ss).length) (.need (@isSo (@And ([(@AV.agg [(@AV.view ((ss.getD (k).toNat [])).length 6 (@pcell (ss.getD (k).toNat [])))])] = [(@AV.agg [(@AV.view ((ss.getD (k).toNat [])).length 6 (@pcell (ss.getD (k).toNat [])))])]) (@And (((ss.getD (k).toNat [])).length ≤ 17592186044416) (∀ (p : PartV), p ∈ ss.getD k.toNat [] → p.states ≤ 9223372036854775807)))) (.need (@isSo (@And ([(@AV.agg [(int ((@wAll (ss.getD (k).toNat []) ((0 : Int), ((0 : Int), (0 : Int))))).fst), (int (((@wAll (ss.getD (k).toNat []) ((0 : Int), ((0 : Int), (0 : Int))))).snd).fst), (int (((@wAll (ss.getD (k).toNat []) ((0 : Int), ((0 : Int), (0 : Int))))).snd).snd)]), (@AV.agg [(int a), (int b), (int c)])] = [(@AV.agg [(int ((@wAll (ss.getD (k).toNat []) ((0 : Int), ((0 : Int), (0 : Int))))).fst), (int (((@wAll (ss.getD (k).toNat []) ((0 : Int), ((0 : Int), (0 : Int))))).snd).fst), (int (((@wAll (ss.getD (k).toNat []) ((0 : Int), ((0 : Int), (0 : Int))))).snd).snd)]), (@AV.agg [(int a), (int b), (int c)])]) True)) (.fork (!(leI (@cmp3 ((@wAll (ss.getD (k).toNat []) ((0 : Int), ((0 : Int), (0 : Int))))).fst (((@wAll (ss.getD (k).toNat []) ((0 : Int), ((0 : Int), (0 : Int))))).snd).fst (((@wAll (ss.getD (k).toNat []) ((0 : Int), ((0 : Int), (0 : Int))))).snd).snd a b c) (0 : Int))) (.need (@inR k (ss).length) (.need (@isSo (@And ([(@AV.agg [(@AV.view ((ss.getD (k).toNat [])).length 6 (@pcell (ss.getD (k).toNat [])))])] = [(@AV.agg [(@AV.view ((ss.getD (k).toNat [])).length 6 (@pcell (ss.getD (k).toNat [])))])]) (@And (((ss.getD (k).toNat [])).length ≤ 17592186044416) (∀ (p : PartV), p ∈ ss.getD k.toNat [] → p.states ≤ 9223372036854775807)))) (.leaf (Ex.norm, ([(some (@AV.view (ns).length 6 (@ncell ns))), (some (int i)), (some (@AV.view (ss).length 1 (fun x692382 => (fun x663433 => (@AV.view ((ss.getD x692382 [])).length 6 (@pcell (ss.getD x692382 []))))))), none, none, none, (some (@AV.ptr 0 0)), (some (boo false)), (some (@AV.ptr 1 0)), (some (boo true)), (some (int (w64 (k + (1 : Int))))), none, none, none, none, none, none, none, none, none, none, none, none, none, none, none, none, none, none, none, none, none, none, none, none, none, none, none, none, none, none, none, none, none, none, none], (@Mem.mk 2 (0 + 1) [(some (@Blk.mk [(int ((@wAll (ss.getD (k).toNat []) ((0 : Int), ((0 : Int), (0 : Int))))).fst), (int (((@wAll (ss.getD (k).toNat []) ((0 : Int), ((0 : Int), (0 : Int))))).snd).fst), (int (((@wAll (ss.getD (k).toNat []) ((0 : Int), ((0 : Int), (0 : Int))))).snd).snd)] 27 none)), (some (@Blk.mk [(int (0 : Int)), (int (0 : Int)), (int (0 : Int))] 27 none))])))))) (.leaf (Ex.norm, ([(some (@AV.view (ns).length 6 (@ncell ns))), (some (int i)), (some (@AV.view (ss).length 1 (fun x429355 => (fun x367050 => (@AV.view ((ss.getD x429355 [])).length 6 (@pcell (ss.getD x429355 []))))))), none, none, none, (some (@AV.ptr 0 0)), (some (boo false)), (some (@AV.ptr 1 0)), (some (boo q)), (some (int (w64 (k + (1 : Int))))), none, none, none, none, none, none, none, none, none, none, none, none, none, none, none, none, none, none, none, none, none, none, none, none, none, none, none, none, none, none, none, none, none, none, none], (@Mem.mk 2 0 [(some (@Blk.mk [(int a), (int b), (int c)] 27 none)), (some (@Blk.mk [(int (0 : Int)), (int (0 : Int)), (int (0 : Int))] 27 none))])))))))) (.need (@inR k (ss).length) (.need (@isSo (@And ([(@AV.agg [(@AV.view ((ss.getD (k).toNat [])).length 6 (@pcell (ss.getD (k).toNat [])))])] = [(@AV.agg [(@AV.view ((ss.getD (k).toNat [])).length 6 (@pcell (ss.getD (k).toNat [])))])]) (@And (((ss.getD (k).toNat [])).length ≤ 17592186044416) (∀ (p : PartV), p ∈ ss.getD k.toNat [] → p.states ≤ 9223372036854775807)))) (.leaf (Ex.norm, ([(some (@AV.view (ns).length 6 (@ncell ns))), (some (int i)), (some (@AV.view (ss).length 1 (fun x749640 => (fun x554127 => (@AV.view ((ss.getD x749640 [])).length 6 (@pcell (ss.getD x749640 []))))))), none, none, none, (some (@AV.ptr 0 0)), (some (boo false)), (some (@AV.ptr 1 0)), (some (boo true)), (some (int (w64 (k + (1 : Int))))), none, none, none, none, none, none, none, none, none, none, none, none, none, none, none, none, none, none, none, none, none, none, none, none, none, none, none, none, none, none, none, none, none, none, none], (@Mem.mk 2 (0 + 1) [(some (@Blk.mk [(int ((@wAll (ss.getD (k).toNat []) ((0 : Int), ((0 : Int), (0 : Int))))).fst), (int (((@wAll (ss.getD (k).toNat []) ((0 : Int), ((0 : Int), (0 : Int))))).snd).fst), (int (((@wAll (ss.getD (k).toNat []) ((0 : Int), ((0 : Int), (0 : Int))))).snd).snd)] 27 none)), (some (@Blk.mk [(int (0 : Int)), (int (0 : Int)), (int (0 : Int))] 27 none))]))))))) (.leaf (Ex.norm, ([(some (@AV.view (ns).length 6 (@ncell ns))), (some (int i)), (some (@AV.view (ss).length 1 (fun x409869 => (fun x186949 => (@AV.view ((ss.getD x409869 [])).length 6 (@pcell (ss.getD x409869 []))))))), none, none, none, (some (@AV.ptr 0 0)), (some (boo false)), (some (@AV.ptr 1 0)), (some (boo q)), (some (int (w64 (k + (1 : Int))))), none, none, none, none, none, none, none, none, none, none, none, none, none, none, none, none, none, none, none, none, none, none, none, none, none, none, none, none, none, none, none, none, none, none, none], (@Mem.mk 2 0 [(some (@Blk.mk [(int a), (int b), (int c)] 27 none)), (some (@Blk.mk [(int (0 : Int)), (int (0 : Int)), (int (0 : Int))] 27 none))]))))))) (.leaf ((@Ex.exit 0), ([(some (@AV.view (ns).length 6 (@ncell ns))), (some (int i)), (some (@AV.view (ss).length 1 (fun x605331 => (fun x597927 => (@AV.view ((ss.getD x605331 [])).length 6 (@pcell (ss.getD x605331 []))))))), none, none, none, (some (@AV.ptr 0 0)), (some (boo false)), (some (@AV.ptr 1 0)), (some (boo q)), (some (int k)), none, none, none, none, none, none, none, none, none, none, none, none, none, none, none, none, none, none, none, none, none, none, none, none, none, none, none, none, none, none, none, none, none, none, none], (@Mem.mk 2 0 [(some (@Blk.mk [(int a), (int b), (int c)] 27 none)), (some (@Blk.mk [(int (0 : Int)), (int (0 : Int)), (int (0 : Int))] 27 none))]))))) (by kernel_rfl) ?_
    refine fork_ok (fun h2 => ?_) (fun h2 => ?_)
    · simp only [Bool.not_eq_true', Bool.not_eq_false', leI_t, leI_f, eqI_t, eqI_f, inR_t, inR_f, isSo_t, isSo_f] at h2
      have hk : k < ss.length := by omega
      have hr : inR k ss.length = true := by rw [inR_t]; omega
      have hp : PsOk (ss.getD k.toNat []) := hs.2 _ (getD_mem _ _ _ h0 hk)
      have hst : StatesOk (ss.getD k.toNat []) := ⟨hp.1, fun p h => (hp.2 p h).1.2.2.2.2⟩
      have c1 := c1 hk
      generalize ss.getD k.toNat [] = ps at *
      have cY : picksV ns i ps = true → overB (wAll ps (0, 0, 0)) ((a, b, c), q) = true → bestN ns i ((a, b, c), q) ps = (wAll ps (0, 0, 0), true) := fun x y => by unfold bestN; rw [x, y]; rfl
      have cN : (picksV ns i ps = false ∨ overB (wAll ps (0, 0, 0)) ((a, b, c), q) = false) → bestN ns i ((a, b, c), q) ps = ((a, b, c), q) := fun x => by
        unfold bestN
        rcases x with x | x
        · rw [x, Bool.false_and]; rfl
        · rw [x, Bool.and_false]; rfl
      have hle : 2 ≤ 2 := Nat.le_refl _
      refine need_t hr (need_so ⟨rfl, hok, hp⟩ (fork_ok (fun h3 => fork_ok (fun h4 => need_t hr (need_so ⟨rfl, hst⟩ (need_so ⟨rfl, trivial⟩ (fork_ok (fun h5 => need_t hr (need_so ⟨rfl, hst⟩ ?_)) (fun h5 => ?_))))) (fun h4 => need_t hr (need_so ⟨rfl, hst⟩ ?_))) (fun h3 => ?_)))
      · rw [cY h3 (by unfold overB; simp only; rw [h5, Bool.or_true])] at c1
        exact ⟨hle, by rw [hw hk]; exact rbF_lt ns i ss _ _, beB_lt _ _ _, by rw [hw hk]; exact c1⟩
      · rw [cN (.inr (by unfold overB; simp only; rw [h5]; simpa using h4))] at c1
        exact ⟨hle, by rw [hw hk]; exact rbF_lt ns i ss _ _, beB_lt _ _ _, by rw [hw hk]; exact c1⟩
      · rw [cY h3 (by unfold overB; simp only; rw [show (!q) = true by simpa using h4, Bool.true_or])] at c1
        exact ⟨hle, by rw [hw hk]; exact rbF_lt ns i ss _ _, beB_lt _ _ _, by rw [hw hk]; exact c1⟩
      · rw [cN (.inl h3)] at c1
        exact ⟨hle, by rw [hw hk]; exact rbF_lt ns i ss _ _, beB_lt _ _ _, by rw [hw hk]; exact c1⟩
    · simp only [Bool.not_eq_true', Bool.not_eq_false', leI_t, leI_f, eqI_t, eqI_f, inR_t, inR_f, isSo_t, isSo_f] at h2
      exact ⟨Nat.le_refl _, rbF_lt ns i ss _ _, beB_lt _ _ _, c3 (by omega)⟩) st
theorem Sy.pb_scan (ns : List NodeW) (i : Int) (ss : List (List PartV)) (hok : DocOk ns) (hs : SelsOk ss) (st : BSt) : LoopTo Tryz.prog (theBody Tryz.prog 23 5) (ss.length + 1) (pbF ns i ss 0 st.2) (beM st.1.1 st.1.2.1 st.1.2.2 0) fun ex F' M' => M' = (fun st : BSt => beM st.1.1 st.1.2.1 st.1.2.2 0) (ss.foldl (bestN ns i) st) ∧ ex = .exit 0 ∧ F' = pbF ns i ss ss.length (ss.foldl (bestN ns i) st).2 :=
  scanFold ss (bestN ns i) [] (fun k st => pbF ns i ss k st.2) (fun st => beM st.1.1 st.1.2.1 st.1.2.2 0) 0 (fun k st n G h0 h1 c1 c3 => by
    obtain ⟨⟨a, b, c⟩, q⟩ := st
    have hw : k < ss.length → w64 (k + 1) = k + 1 := fun h => w64_in (by have := hs.1; omega)
    simp only
    refine roundCut plain mixed [cPicksD ns i (ss.getD k.toNat []), cWeightP (ss.getD k.toNat []), cCompare] [] 400 30 23 5 Tryz.func23 rfl (by kernel_rfl) [true, true, false, false, false, false, true, true, true, true, false, false, false, true, true, true, false, false, false, false, false, false, false, false, false, false, false, false, false, false, false, false, false, false, false, false, false, false] (.br (.yes (.yes (.br .done (.yes (.br (.auto 1 (.yes (.auto 1 (.br .done .done)))) (.auto 4 .done)))))) .done) (.fork (!(leI (((ss).length : Nat) : Int) k)) (.need (@inR k (ss).length) (.need (@isSo (@And ([(@AV.view (ns).length 6 (@ncell ns)), (int i), (@AV.view ((ss.getD (k).toNat [])).length 6 (@pcell (ss.getD (k).toNat [])))] = [(@AV.view (ns).length 6 (@ncell ns)), (int i), (@AV.view ((ss.getD (k).toNat [])).length 6 (@pcell (ss.getD (k).toNat [])))]) (@And (@And ((ns).length ≤ 17592186044416) (∀ (n : NodeW), n ∈ ns → NodeOk n)) (@And (((ss.getD (k).toNat [])).length ≤ 17592186044416) (∀ (p : PartV), p ∈ ss.getD k.toNat [] → RowOk p ∧ p.cls.length ≤ 17592186044416 ∧ p.tests.length ≤ 17592186044416))))) (.fork (!(@picksV ns i (ss.getD (k).toNat []))) (.leaf (Ex.norm, ([(some (@AV.view (ns).length 6 (@ncell ns))), (some (int i)), none, none, none, none, (some (@AV.ptr 0 0)), (some (boo false)), (some (@AV.ptr 1 0)), (some (boo q)), none, none, none, (some (@AV.view (ss).length 1 (fun x597927 => (fun x741670 => (@AV.view ((ss.getD x597927 [])).length 6 (@pcell (ss.getD x597927 []))))))), (some (int (((ss).length : Nat) : Int))), (some (int (w64 (k + (1 : Int))))), none, none, none, none, none, none, none, none, none, none, none, none, none, none, none, none, none, none, none, none, none, none], (@Mem.mk ((2 + 1) + 1) (0 + 1) ((some (@Blk.mk [(@AV.view ((ss.getD (k).toNat [])).length 6 (@pcell (ss.getD (k).toNat [])))] 45 none)) :: [(some (@Blk.mk [(@AV.view ((ss.getD (k).toNat [])).length 6 (@pcell (ss.getD (k).toNat [])))] 45 none)), (some (@Blk.mk [(int a), (int b), (int c)] 27 none)), (some (@Blk.mk [(int (0 : Int)), (int (0 : Int)), (int (0 : Int))] 27 none))]))))) (.need (@isSo (@And ([(@AV.agg [(@AV.view ((ss.getD (k).toNat [])).length 6 (@pcell (ss.getD (k).toNat [])))])] = [(@AV.agg [(@AV.view ((ss.getD (k).toNat [])).length 6 (@pcell (ss.getD (k).toNat [])))])]) (((ss.getD (k).toNat [])).length ≤ 17592186044416))) (.fork (!(!q)) (.need (@isSo (@And ([(@AV.agg [(int ((@wAll (ss.getD (k).toNat []) ((0 : Int), ((0 : Int), (0 : Int))))).fst), (int (((@wAll (ss.getD (k).toNat []) ((0 : Int), ((0 : Int), (0 : Int))))).snd).fst), (int (((@wAll (ss.getD (k).toNat []) ((0 : Int), ((0 : Int), (0 : Int))))).snd).snd)]), (@AV.agg [(int a), (int b), (int c)])] = [(@AV.agg [(int ((@wAll (ss.getD (k).toNat []) ((0 : Int), ((0 : Int), (0 : Int))))).fst), (int (((@wAll (ss.getD (k).toNat []) ((0 : Int), ((0 : Int), (0 : Int))))).snd).fst), (int (((@wAll (ss.getD (k).toNat []) ((0 : Int), ((0 : Int), (0 : Int))))).snd).snd)]), (@AV.agg [(int a), (int b), (int c)])]) True)) (.fork (!(leI (@cmp3 ((@wAll (ss.getD (k).toNat []) ((0 : Int), ((0 : Int), (0 : Int))))).fst (((@wAll (ss.getD (k).toNat []) ((0 : Int), ((0 : Int), (0 : Int))))).snd).fst (((@wAll (ss.getD (k).toNat []) ((0 : Int), ((0 : Int), (0 : Int))))).snd).snd a b c) (0 : Int))) (.leaf (Ex.norm, ([(some (@AV.view (ns).length 6 (@ncell ns))), (some (int i)), none, none, none, none, (some (@AV.ptr 0 0)), (some (boo false)), (some (@AV.ptr 1 0)), (some (boo true)), none, none, none, (some (@AV.view (ss).length 1 (fun x715476 => (fun x605331 => (@AV.view ((ss.getD x715476 [])).length 6 (@pcell (ss.getD x715476 []))))))), (some (int (((ss).length : Nat) : Int))), (some (int (w64 (k + (1 : Int))))), none, none, none, none, none, none, none, none, none, none, none, none, none, none, none, none, none, none, none, none, none, none], (@Mem.mk (((2 + 1) + 1) + 1) (((0 + 1) + 1) + 1) ((some (@Blk.mk [(int ((@wAll (ss.getD (k).toNat []) ((0 : Int), ((0 : Int), (0 : Int))))).fst), (int (((@wAll (ss.getD (k).toNat []) ((0 : Int), ((0 : Int), (0 : Int))))).snd).fst), (int (((@wAll (ss.getD (k).toNat []) ((0 : Int), ((0 : Int), (0 : Int))))).snd).snd)] 27 none)) :: (some (@Blk.mk [(@AV.view ((ss.getD (k).toNat [])).length 6 (@pcell (ss.getD (k).toNat [])))] 45 none)) :: [(some (@Blk.mk [(@AV.view ((ss.getD (k).toNat [])).length 6 (@pcell (ss.getD (k).toNat [])))] 45 none)), (some (@Blk.mk [(int ((@wAll (ss.getD (k).toNat []) ((0 : Int), ((0 : Int), (0 : Int))))).fst), (int (((@wAll (ss.getD (k).toNat []) ((0 : Int), ((0 : Int), (0 : Int))))).snd).fst), (int (((@wAll (ss.getD (k).toNat []) ((0 : Int), ((0 : Int), (0 : Int))))).snd).snd)] 27 none)), (some (@Blk.mk [(int (0 : Int)), (int (0 : Int)), (int (0 : Int))] 27 none))]))))) (.leaf (Ex.norm, ([(some (@AV.view (ns).length 6 (@ncell ns))), (some (int i)), none, none, none, none, (some (@AV.ptr 0 0)), (some (boo false)), (some (@AV.ptr 1 0)), (some (boo q)), none, none, none, (some (@AV.view (ss).length 1 (fun x259601 => (fun x700540 => (@AV.view ((ss.getD x259601 [])).length 6 (@pcell (ss.getD x259601 []))))))), (some (int (((ss).length : Nat) : Int))), (some (int (w64 (k + (1 : Int))))), none, none, none, none, none, none, none, none, none, none, none, none, none, none, none, none, none, none, none, none, none, none], (@Mem.mk (((2 + 1) + 1) + 1) ((0 + 1) + 1) ((some (@Blk.mk [(int ((@wAll (ss.getD (k).toNat []) ((0 : Int), ((0 : Int), (0 : Int))))).fst), (int (((@wAll (ss.getD (k).toNat []) ((0 : Int), ((0 : Int), (0 : Int))))).snd).fst), (int (((@wAll (ss.getD (k).toNat []) ((0 : Int), ((0 : Int), (0 : Int))))).snd).snd)] 27 none)) :: (some (@Blk.mk [(@AV.view ((ss.getD (k).toNat [])).length 6 (@pcell (ss.getD (k).toNat [])))] 45 none)) :: [(some (@Blk.mk [(@AV.view ((ss.getD (k).toNat [])).length 6 (@pcell (ss.getD (k).toNat [])))] 45 none)), (some (@Blk.mk [(int a), (int b), (int c)] 27 none)), (some (@Blk.mk [(int (0 : Int)), (int (0 : Int)), (int (0 : Int))] 27 none))]))))))) (.leaf (Ex.norm, ([(some (@AV.view (ns).length 6 (@ncell ns))), (some (int i)), none, none, none, none, (some (@AV.ptr 0 0)), (some (boo false)), (some (@AV.ptr 1 0)), (some (boo true)), none, none, none, (some (@AV.view (ss).length 1 (fun x91598 => (fun x358402 => (@AV.view ((ss.getD x91598 [])).length 6 (@pcell (ss.getD x91598 []))))))), (some (int (((ss).length : Nat) : Int))), (some (int (w64 (k + (1 : Int))))), none, none, none, none, none, none, none, none, none, none, none, none, none, none, none, none, none, none, none, none, none, none], (@Mem.mk (((2 + 1) + 1) + 1) (((0 + 1) + 1) + 1) ((some (@Blk.mk [(int ((@wAll (ss.getD (k).toNat []) ((0 : Int), ((0 : Int), (0 : Int))))).fst), (int (((@wAll (ss.getD (k).toNat []) ((0 : Int), ((0 : Int), (0 : Int))))).snd).fst), (int (((@wAll (ss.getD (k).toNat []) ((0 : Int), ((0 : Int), (0 : Int))))).snd).snd)] 27 none)) :: (some (@Blk.mk [(@AV.view ((ss.getD (k).toNat [])).length 6 (@pcell (ss.getD (k).toNat [])))] 45 none)) :: [(some (@Blk.mk [(@AV.view ((ss.getD (k).toNat [])).length 6 (@pcell (ss.getD (k).toNat [])))] 45 none)), (some (@Blk.mk [(int ((@wAll (ss.getD (k).toNat []) ((0 : Int), ((0 : Int), (0 : Int))))).fst), (int (((@wAll (ss.getD (k).toNat []) ((0 : Int), ((0 : Int), (0 : Int))))).snd).fst), (int (((@wAll (ss.getD (k).toNat []) ((0 : Int), ((0 : Int), (0 : Int))))).snd).snd)] 27 none)), (some (@Blk.mk [(int (0 : Int)), (int (0 : Int)), (int (0 : Int))] 27 none))])))))))))) (.leaf ((@Ex.exit 0), ([(some (@AV.view (ns).length 6 (@ncell ns))), (some (int i)), none, none, none, none, (some (@AV.ptr 0 0)), (some (boo false)), (some (@AV.ptr 1 0)), (some (boo q)), none, none, none, (some (@AV.view (ss).length 1 (fun x753848 => (fun x807792 => (@AV.view ((ss.getD x753848 [])).length 6 (@pcell (ss.getD x753848 []))))))), (some (int (((ss).length : Nat) : Int))), (some (int k)), none, none, none, none, none, none, none, none, none, none, none, none, none, none, none, none, none, none, none, none, none, none], (@Mem.mk 2 0 [(some (@Blk.mk [(int a), (int b), (int c)] 27 none)), (some (@Blk.mk [(int (0 : Int)), (int (0 : Int)), (int (0 : Int))] 27 none))]))))) (by kernel_rfl) ?_
    refine fork_ok (fun h2 => ?_) (fun h2 => ?_)
    · simp only [Bool.not_eq_true', Bool.not_eq_false', leI_t, leI_f, eqI_t, eqI_f, inR_t, inR_f, isSo_t, isSo_f] at h2
      have hk : k < ss.length := by omega
      have hr : inR k ss.length = true := by rw [inR_t]; omega
      have hp : PsOk (ss.getD k.toNat []) := hs.2 _ (getD_mem _ _ _ h0 hk)
      have c1 := c1 hk
      generalize ss.getD k.toNat [] = ps at *
      have cY : picksV ns i ps = true → overB (wAll ps (0, 0, 0)) ((a, b, c), q) = true → bestN ns i ((a, b, c), q) ps = (wAll ps (0, 0, 0), true) := fun x y => by unfold bestN; rw [x, y]; rfl
      have cN : (picksV ns i ps = false ∨ overB (wAll ps (0, 0, 0)) ((a, b, c), q) = false) → bestN ns i ((a, b, c), q) ps = ((a, b, c), q) := fun x => by
        unfold bestN
        rcases x with x | x
        · rw [x, Bool.false_and]; rfl
        · rw [x, Bool.and_false]; rfl
      have h3' : (!(!picksV ns i ps)) = picksV ns i ps := Bool.not_not _
      refine need_t hr (need_so ⟨rfl, hok, hp⟩ (fork_ok (fun h3 => ?_) (fun h3 => need_so ⟨rfl, hp.1⟩ (fork_ok (fun h4 => need_so ⟨rfl, trivial⟩ (fork_ok (fun h5 => ?_) (fun h5 => ?_))) (fun h4 => ?_)))))
      · rw [cN (.inl (by simpa using h3))] at c1
        exact ⟨Nat.le_of_ble_eq_true rfl, by rw [hw hk]; exact pbF_lt ns i ss _ _, beB_lt _ _ _, by rw [hw hk]; exact c1⟩
      · rw [cY (by simpa using h3) (by unfold overB; simp only; rw [h5, Bool.or_true])] at c1
        exact ⟨Nat.le_of_ble_eq_true rfl, by rw [hw hk]; exact pbF_lt ns i ss _ _, beB_lt _ _ _, by rw [hw hk]; exact c1⟩
      · rw [cN (.inr (by unfold overB; simp only; rw [h5]; simpa using h4))] at c1
        exact ⟨Nat.le_of_ble_eq_true rfl, by rw [hw hk]; exact pbF_lt ns i ss _ _, beB_lt _ _ _, by rw [hw hk]; exact c1⟩
      · rw [cY (by simpa using h3) (by unfold overB; simp only; rw [show (!q) = true by simpa using h4, Bool.true_or])] at c1
        exact ⟨Nat.le_of_ble_eq_true rfl, by rw [hw hk]; exact pbF_lt ns i ss _ _, beB_lt _ _ _, by rw [hw hk]; exact c1⟩
    · simp only [Bool.not_eq_true', Bool.not_eq_false', leI_t, leI_f, eqI_t, eqI_f, inR_t, inR_f, isSo_t, isSo_f] at h2
      exact ⟨Nat.le_refl _, pbF_lt ns i ss _ _, beB_lt _ _ _, c3 (by omega)⟩) st
namespace Sy
noncomputable abbrev lpRb (ns : List NodeW) (i : Int) (ss : List (List PartV)) : Lp Tryz.prog where
  f := 12
  key := 5
  S := formS (fun F M => slotI F 10) (fun k => rbF ns i ss k false) (fun _ => beM 0 0 0 1) (fun k => (DocOk ns ∧ SelsOk ss) ∧ k = 0) (fun k => .leaf (.exit 0, rbE ns i ss (bestV ns i ss).2, beM (bestV ns i ss).1.1 (bestV ns i ss).1.2.1 (bestV ns i ss).1.2.2 0)) [true, true, true, false, false, false, true, true, true, true, true, false, false, false, false, false, false, false, false, false, false, false, false, false, false, false, false, false, false, false, false, false, false, false, false, false, false, false, false, false, false, false, false, false, false, false]
  one := by kernel_rfl
  ok := formS_ok fun k ⟨h1, h2⟩ => by
    subst h2
    refine ⟨ss.length + 1, ?_⟩
    have h6 := Sy.rb_scan ns i ss h1.1 h1.2 ((0, 0, 0), false)
    have h7 : LoopTo Tryz.prog (theBody Tryz.prog 12 5) (ss.length + 1) (rbF ns i ss 0 false) (beM 0 0 0 1) _ := LoopTo.stamp (M := beM 0 0 0 1) 0 h6
    refine (h7.out [true, true, true, false, false, false, true, true, true, true, false, false, false, false, false, false, false, false, false, false, false, false, false, false, false, false, false, false, false, false, false, false, false, false, false, false, false, false, false, false, false, false, false, false, false, false]).mono fun ex F M hg => ?_
    obtain ⟨F0, ⟨hM, rfl, rfl⟩, rfl⟩ := hg
    rw [hM]; rfl
noncomputable abbrev lpPb (ns : List NodeW) (i : Int) (ss : List (List PartV)) : Lp Tryz.prog where
  f := 23
  key := 5
  S := formS (fun F M => slotI F 15) (fun k => pbF ns i ss k false) (fun _ => beM 0 0 0 0) (fun k => (DocOk ns ∧ SelsOk ss) ∧ k = 0) (fun k => .leaf (.exit 0, pbE ns i ss (bestV ns i ss).2, beM (bestV ns i ss).1.1 (bestV ns i ss).1.2.1 (bestV ns i ss).1.2.2 0)) [true, true, false, false, false, false, true, true, true, true, false, false, false, true, true, true, false, false, false, false, false, false, false, false, false, false, false, false, false, false, false, false, false, false, false, false, false, false]
  one := by kernel_rfl
  ok := formS_ok fun k ⟨h1, h2⟩ => by
    subst h2
    refine ⟨ss.length + 1, ?_⟩
    refine ((Sy.pb_scan ns i ss h1.1 h1.2 ((0, 0, 0), false)).out [true, true, false, false, false, false, true, true, true, true, false, false, false, false, false, false, false, false, false, false, false, false, false, false, false, false, false, false, false, false, false, false, false, false, false, false, false, false]).mono fun ex F M hg => ?_
    obtain ⟨F0, ⟨hM, rfl, rfl⟩, rfl⟩ := hg
    rw [hM]; rfl
end Sy
/-sy rbe_t
fun (ns : List NodeW) (i : Int) (ss : List (List PartV)) (d : D) => reckV [] [lpRb ns i ss] 400 30 12 [nview ns, int i, sview ss] M0 d
-/
/-sy pbe_t
fun (ns : List NodeW) (i : Int) (ss : List (List PartV)) (d : D) => reckV [] [lpPb ns i ss] 400 30 23 [nview ns, int i, sview ss] M0 d
-/
noncomputable abbrev Sy.bestA (ns : List NodeW) (i : Int) (ss : List (List PartV)) : AV := .tup [.agg [int (bestV ns i ss).1.1, int (bestV ns i ss).1.2.1, int (bestV ns i ss).1.2.2], boo (bestV ns i ss).2]
theorem Sy.rbest_t (ns : List NodeW) (i : Int) (ss : List (List PartV)) (hok : DocOk ns) (hs : SelsOk ss) : CallTo Tryz.prog 12 [nview ns, int i, sview ss] M0 fun v _ => v = bestA ns i ss :=
  toV [] [lpRb ns i ss] 400 30 .done (.need (@isSo (@And (((some (@AV.view (ns).length 6 (@ncell ns))) :: (some (int i)) :: (some (@AV.view (ss).length 1 (fun x957291 => (fun x931855 => (@AV.view ((ss.getD x957291 [])).length 6 (@pcell (ss.getD x957291 []))))))) :: [none, none, none, (some (@AV.ptr 0 0)), (some (boo false)), (some (@AV.ptr 1 0)), (some (boo false)), (some (int (0 : Int))), none, none, none, none, none, none, none, none, none, none, none, none, none, none, none, none, none, none, none, none, none, none, none, none, none, none, none, none, none, none, none, none, none, none, none]) = [(some (@AV.view (ns).length 6 (@ncell ns))), (some (int i)), (some (@AV.view (ss).length 1 (fun x386574 => (fun x99225 => (@AV.view ((ss.getD x386574 [])).length 6 (@pcell (ss.getD x386574 []))))))), none, none, none, (some (@AV.ptr 0 0)), (some (boo false)), (some (@AV.ptr 1 0)), (some (boo false)), (some (int (0 : Int))), none, none, none, none, none, none, none, none, none, none, none, none, none, none, none, none, none, none, none, none, none, none, none, none, none, none, none, none, none, none, none, none, none, none, none]) ((@Mem.mk 2 1 [(some (@Blk.mk [(int (0 : Int)), (int (0 : Int)), (int (0 : Int))] 27 none)), (some (@Blk.mk [(int (0 : Int)), (int (0 : Int)), (int (0 : Int))] 27 none))]) = (@Mem.mk 2 1 [(some (@Blk.mk [(int (0 : Int)), (int (0 : Int)), (int (0 : Int))] 27 none)), (some (@Blk.mk [(int (0 : Int)), (int (0 : Int)), (int (0 : Int))] 27 none))])))) (.need (@isSo (@And (@And (@And ((ns).length ≤ 17592186044416) (∀ (n : NodeW), n ∈ ns → NodeOk n)) (@And ((ss).length ≤ 17592186044416) (∀ (ps : List PartV), ps ∈ ss → PsOk ps))) ((0 : Int) = (0 : Int)))) (.leaf (@AV.tup [(@AV.agg [(int (((@bestV ns i ss)).fst).fst), (int ((((@bestV ns i ss)).fst).snd).fst), (int ((((@bestV ns i ss)).fst).snd).snd)]), (boo ((@bestV ns i ss)).snd)])))) (by kernel_rfl) (need_so ⟨rfl, rfl⟩ (need_so ⟨⟨hok, hs⟩, rfl⟩ rfl))
theorem Sy.pbest_t (ns : List NodeW) (i : Int) (ss : List (List PartV)) (hok : DocOk ns) (hs : SelsOk ss) : CallTo Tryz.prog 23 [nview ns, int i, sview ss] M0 fun v _ => v = bestA ns i ss :=
  toV [] [lpPb ns i ss] 400 30 .done (.need (@isSo (@And (((some (@AV.view (ns).length 6 (@ncell ns))) :: (some (int i)) :: none :: [none, none, none, (some (@AV.ptr 0 0)), (some (boo false)), (some (@AV.ptr 1 0)), (some (boo false)), none, none, none, (some (@AV.view (ss).length 1 (fun x957291 => (fun x931855 => (@AV.view ((ss.getD x957291 [])).length 6 (@pcell (ss.getD x957291 []))))))), (some (int (((ss).length : Nat) : Int))), (some (int (0 : Int))), none, none, none, none, none, none, none, none, none, none, none, none, none, none, none, none, none, none, none, none, none, none]) = [(some (@AV.view (ns).length 6 (@ncell ns))), (some (int i)), none, none, none, none, (some (@AV.ptr 0 0)), (some (boo false)), (some (@AV.ptr 1 0)), (some (boo false)), none, none, none, (some (@AV.view (ss).length 1 (fun x386574 => (fun x99225 => (@AV.view ((ss.getD x386574 [])).length 6 (@pcell (ss.getD x386574 []))))))), (some (int (((ss).length : Nat) : Int))), (some (int (0 : Int))), none, none, none, none, none, none, none, none, none, none, none, none, none, none, none, none, none, none, none, none, none, none]) ((@Mem.mk 2 0 [(some (@Blk.mk [(int (0 : Int)), (int (0 : Int)), (int (0 : Int))] 27 none)), (some (@Blk.mk [(int (0 : Int)), (int (0 : Int)), (int (0 : Int))] 27 none))]) = (@Mem.mk 2 0 [(some (@Blk.mk [(int (0 : Int)), (int (0 : Int)), (int (0 : Int))] 27 none)), (some (@Blk.mk [(int (0 : Int)), (int (0 : Int)), (int (0 : Int))] 27 none))])))) (.need (@isSo (@And (@And (@And ((ns).length ≤ 17592186044416) (∀ (n : NodeW), n ∈ ns → NodeOk n)) (@And ((ss).length ≤ 17592186044416) (∀ (ps : List PartV), ps ∈ ss → PsOk ps))) ((0 : Int) = (0 : Int)))) (.leaf (@AV.tup [(@AV.agg [(int (((@bestV ns i ss)).fst).fst), (int ((((@bestV ns i ss)).fst).snd).fst), (int ((((@bestV ns i ss)).fst).snd).snd)]), (boo ((@bestV ns i ss)).snd)])))) (by kernel_rfl) (need_so ⟨rfl, rfl⟩ (need_so ⟨⟨hok, hs⟩, rfl⟩ rfl))
theorem Sy.best_free (ns : List NodeW) (i : Int) (ss : List (List PartV)) : (Frees [nview ns, int i, sview ss]) ∧ Free (bestA ns i ss) := ⟨⟨nview_free ns, trivial, sview_free ss, trivial⟩, ⟨⟨trivial, trivial, trivial, trivial⟩, trivial, trivial⟩⟩
noncomputable abbrev Sy.cRBest (ns : List NodeW) (i : Int) (ss : List (List PartV)) : Con Tryz.prog := at1 12 [nview ns, int i, sview ss] (bestA ns i ss) (DocOk ns ∧ SelsOk ss) fun h => ⟨best_free ns i ss, rbest_t ns i ss h.1 h.2⟩
noncomputable abbrev Sy.cPBest (ns : List NodeW) (i : Int) (ss : List (List PartV)) : Con Tryz.prog := at1 23 [nview ns, int i, sview ss] (bestA ns i ss) (DocOk ns ∧ SelsOk ss) fun h => ⟨best_free ns i ss, pbest_t ns i ss h.1 h.2⟩
end Go.Proofs.YtmlhipckgmbpfaaGreat
namespace Go.Proofs.YtmlhipckgmbpfaaGreat
open Go Go.RowKit Pl Sy
set_option linter.unusedVariables false
set_option linter.unusedSimpArgs false

structure DeclV where
  prop : Int
  kind : Int
  n : Int
  d : Int
  name : ByteArray
  loud : Bool
abbrev Sy.declA (x : DeclV) : AV := .agg [int x.prop, int x.kind, int x.n, int x.d, .lit (.string x.name), boo x.loud]
noncomputable abbrev Sy.cKnown16 : Con Tryz.prog := at1 7 [] (boo true) True fun _ => ⟨⟨trivial, trivial⟩, (CallTo.of_calls (us := []) known16 M0).mono fun _ _ h => h.1⟩
/-- are there more than four parts? -/
def bigB (ps : List PartV) : Bool := !leI ps.length 4
/-- a declaration's level -/
def lvlI (o : Int) (b : Bool) : Int := if eqI o 0 && b then 3 else if b then 2 else if eqI o 0 then 0 else 1
/-sy lvl_t
fun (o : Int) (b : Bool) (d : D) => reckV [] [] 400 30 24 [int o, boo b] M0 d
-/
theorem Sy.lvl_t (o : Int) (b : Bool) : CallTo Tryz.prog 24 [int o, boo b] M0 fun v _ => v = int (lvlI o b) :=
  toV [] [] 400 30 (.br (.auto 0 (.br .done (.no (.yes .done)))) (.auto 1 (.br .done (.no .done)))) (.fork (eqI o (0 : Int)) (.fork b (.leaf (int (3 : Int))) (.need (!b) (.need (eqI o (0 : Int)) (.leaf (int (0 : Int)))))) (.fork b (.leaf (int (2 : Int))) (.need (!(eqI o (0 : Int))) (.leaf (int (1 : Int)))))) (by kernel_rfl) (by
    unfold lvlI
    repeat' (first | refine fork_ok (fun _ => ?_) (fun _ => ?_) | refine need_t (by simp_all) ?_)
    all_goals refine leaf_int ?_
    all_goals simp_all)
noncomputable abbrev Sy.cLevel : Con Tryz.prog := atX 24 (fun args => match args with | [.lit (.int .i64 o), .lit (.bool b)] => some (o, b) | _ => none) (fun x => [int x.1, boo x.2]) (fun x => int (lvlI x.1 x.2)) (fun _ => True) fun x _ => ⟨⟨⟨trivial, trivial, trivial⟩, trivial⟩, lvl_t x.1 x.2⟩
abbrev Sy.claimA (l a b c r k : Int) : AV := .agg [int l, int a, int b, int c, int r, int k]
theorem eqI_self (a : Int) : eqI a a = true := by rw [eqI_t]
end Go.Proofs.YtmlhipckgmbpfaaGreat
