/-
  Lemmas for SelectorTexts, part 5; no conditions.
-/
import Derived.Test.YtconlneohilnmaaTxpD
set_option linter.unusedVariables false
set_option linter.unusedSimpArgs false
namespace Go.Proofs.Ytconlneohilnmaa
open Go Go.RowKit Pl Sy
def clssT (l : List ByteArray) : List TokV := l.flatMap fun s => [tk 19 ⟨#[46]⟩, tk 1 s]
def testsT (l : List TestV) : List TokV := l.flatMap testT
namespace Sy
abbrev partL (p : PartV) : List AV := [int p.comb, .lit (.string p.tag), .lit (.string p.id), cview p.cls, tview p.tests, int p.states]
abbrev wpM (B : Blk) (L : List TokV) : Mem := ⟨3, 0, [some (rowB L.length (kcell L)), some B, some (wB 2 L.length)]⟩
abbrev pB (p : PartV) : Blk := ⟨partL p, 55, none⟩
end Sy
theorem Sy.partL_free (p : PartV) : Frees (partL p) := ⟨trivial, trivial, trivial, viewOf_free strCells ⟨#[]⟩ 1 _, viewOf_free TestV.cells testNone 3 _, trivial, trivial⟩
def Sy.tau3 (wb pb top : Nat) : Nat → Option Nat := fun x => if x = wb then some 0 else if x = pb then some 1 else if x = top then some 2 else none
theorem Sy.tau3_of {wb pb top x c : Nat} (h : tau3 wb pb top x = some c) : (x = wb ∧ c = 0) ∨ (x = pb ∧ x ≠ wb ∧ c = 1) ∨ (x = top ∧ x ≠ wb ∧ x ≠ pb ∧ c = 2) := by
  unfold tau3 at h
  split at h
  · simp at h; omega
  · split at h
    · simp at h; omega
    · split at h
      · simp at h; omega
      · cases h
theorem Sy.loopW_frame {P : Program} {body : Code} {m : Nat} {Fc Fc' F F' : Fr} {e : Ex} {B : Blk} {L X : List TokV} (h : LoopToT 2 P body m Fc (wpM B L) fun ex F2 M2 => ex = e ∧ F2 = Fc' ∧ M2 = wpM B (L ++ X)) {M : Mem} {wb pb b n : Nat} {cell : Nat → Nat → AV}
    (hF : RenF (nm [wb, pb, b]) F Fc) (hF' : ∀ τ : Nat → Option Nat, τ wb = some 0 → τ pb = some 1 → RenF τ Fc' F') (h0 : M.get wb = some (wB b n)) (h1 : M.get b = some (rowB n cell)) (h2 : M.get pb = some B) (hne : pb ≠ wb ∧ pb ≠ b) (hB : Frees B.cells) (hBr : B.rows = none) (hc : CellIs n cell L) :
    LoopTo P body m F M fun ex F2 M2 => ex = e ∧ F2 = F' ∧ M2 = wRes M wb b n cell X := by
  have hn := hc.1
  have hwb : wb ≠ b := fun e => by subst e; rw [h0] at h1; cases h1
  have hwt := Mem.get_lt h0
  have hbt := Mem.get_lt h1
  have hpt := Mem.get_lt h2
  have hBB : ∀ σ, RenB σ B B := fun σ => ⟨rfl, RenVs.free σ hB, by rw [hBr]; exact trivial⟩
  refine LoopToT.frame (σ := nm [wb, pb, b]) h hF (.of rfl rfl (by simp; omega) ⟨⟨b, _, rfl, h1, rfl, trivial, hn.symm, rfl, fun i j hi hj => hc.free _ (by have hi : i < L.length := hi; omega) hj⟩, ⟨pb, _, rfl, h2, hBB _⟩, ⟨wb, _, rfl, h0, rfl, ⟨⟨rfl, hn, rfl⟩, trivial⟩, trivial⟩, trivial⟩) ?_ ?_
  · intro x c hx
    rcases x with _ | _ | _ | x
    · exact ⟨_, rfl⟩
    · exact ⟨_, rfl⟩
    · exact ⟨_, rfl⟩
    · cases hx
  · rintro ex F2 M2 ⟨rfl, rfl, rfl⟩
    have t0 : tau3 wb pb M.top wb = some 0 := by simp [tau3]
    have t1 : tau3 wb pb M.top pb = some 1 := by simp [tau3, hne.1]
    have t2 : tau3 wb pb M.top M.top = some 2 := by
      unfold tau3
      rw [if_neg (by omega), if_neg (by omega), if_pos rfl]
    have hlen : (L ++ X).length = n + X.length := by rw [List.length_append, hn]
    refine ⟨tau3 wb pb M.top, F', _, ⟨rfl, rfl, rfl⟩, hF' _ t0 t1, Nat.le_succ _, fun x c hx => ?_, fun x c hlt hx => ?_, fun x x' c hx hx' => ?_, fun x B' hx => ?_⟩
    · show x < M.top + 1
      rcases tau3_of hx with ⟨h, _⟩ | ⟨h, _⟩ | ⟨h, _⟩ <;> omega
    · rcases tau3_of hx with ⟨rfl, rfl⟩ | ⟨rfl, _, rfl⟩ | ⟨h, _⟩
      · exact ⟨by omega, rfl⟩
      · exact ⟨by omega, rfl⟩
      · omega
    · rcases tau3_of hx with ⟨h, h'⟩ | ⟨h, _, h'⟩ | ⟨h, _, _, h'⟩ <;> rcases tau3_of hx' with ⟨k, k'⟩ | ⟨k, _, k'⟩ | ⟨k, _, _, k'⟩ <;> omega
    · rcases wRes_get h0 h1 hwb hx with ⟨rfl, rfl⟩ | ⟨rfl, rfl⟩ | ⟨e1, e2, e3, e4⟩
      · refine .inr ⟨2, _, t2, rfl, rfl, trivial, hlen.symm, rfl, fun i j hi hj => ?_⟩
        dsimp only
        rw [(hc.app (CellIs.kc X)).2 i j hi hj]
        exact rfl
      · exact .inr ⟨0, _, t0, rfl, rfl, ⟨⟨t2, hlen, rfl⟩, trivial⟩, trivial⟩
      · by_cases hp : x = pb
        · subst hp
          rw [h2] at e4
          simp at e4
          subst e4
          exact .inr ⟨1, B, t1, rfl, hBB _⟩
        · refine .inl ⟨e1, fun c hc => ?_, e4⟩
          rcases c with _ | _ | _ | c
          · have : some wb = some x := hc
            simp at this; omega
          · have : some pb = some x := hc
            simp at this; omega
          · have : some b = some x := hc
            simp at this; omega
          · cases hc
namespace Sy
abbrev wcF (p : PartV) (wb pb : Nat) (n0 k : Int) : Fr := (some (.ptr wb 0) :: none :: none :: some (.ptr pb 0) :: some (int n0) :: (nn24 (some ((cview ((p).cls))) :: some ((int ((((p).cls).length : Nat) : Int))) :: some (int k) :: (nn38 []))))
abbrev wcE (p : PartV) (wb pb : Nat) (n0 : Int) : Fr := (some (.ptr wb 0) :: none :: none :: some (.ptr pb 0) :: some (int n0) :: (nn17 (nn48 [])))
end Sy
theorem Sy.rowsAt {n : Nat} {cell : Nat → Nat → AV} {L : List TokV} (h : CellIs n cell L) (σ : Nat → Option Nat) {i j : Nat} (hi : i < L.length) (hj : j < 3) : RenV σ (cell i j) (kcell L i j) := h.free σ (by rw [h.1]; exact hi) hj
theorem Sy.wpM_ren {B : Blk} {M : Mem} {l : List Nat} {b n : Nat} {cell : Nat → Nat → AV} {L : List TokV} (hl : l = [0, 1, b]) (hb0 : b ≠ 0) (hb1 : b ≠ 1) (h0 : M.get 0 = some (wB b n)) (h1 : M.get 1 = some B) (h2 : M.get b = some (rowB n cell)) (hB : Frees B.cells) (hBr : B.rows = none) (hc : CellIs n cell L) : RenM (nm l) M (wpM B L) := by
  subst hl
  exact .of rfl rfl (by simp; omega) ⟨⟨b, _, rfl, h2, rfl, trivial, hc.1.symm, rfl, fun i j hi hj => rowsAt hc _ hi hj⟩, ⟨1, _, rfl, h1, rfl, RenVs.free _ hB, by rw [hBr]; exact trivial⟩, ⟨0, _, rfl, h0, rfl, ⟨⟨rfl, hc.1, rfl⟩, trivial⟩, trivial⟩, trivial⟩
theorem Sy.wcF_ren (p : PartV) (wb pb : Nat) (n0 k k' : Int) (σ : Nat → Option Nat) (h : k = k') (wb' pb' : Nat) (h0' : σ wb' = some wb) (h1' : σ pb' = some pb) : RenF σ (wcF p wb pb n0 k) (wcF p wb' pb' n0 k') := by
  subst h
  simp only [RenF, and_true]
  exact ⟨⟨h0', rfl⟩, ⟨h1', rfl⟩, rfl, RenV.free _ (viewOf_free strCells ⟨#[]⟩ 1 _), rfl, rfl⟩
theorem Sy.wc_step (p : PartV) (hp : p.cls.length ≤ 8) (n0 k : Int) (L : List TokV) (m : Nat) (G : Ex → Fr → Mem → Prop) (h0 : 0 ≤ k) (hk : k ≤ p.cls.length) (hl : k < p.cls.length → limT (L.length + 2))
    (c1 : k < p.cls.length → LoopToT 2 Try.prog (theBody Try.prog 22 8) m (wcF p 0 1 n0 (k + 1)) (wpM (pB p) (L ++ [tk 19 ⟨#[46]⟩, tk 1 (p.cls.getD k.toNat ⟨#[]⟩)])) G)
    (c2 : k = p.cls.length → G (.exit 0) (wcF p 0 1 n0 k) (wpM (pB p) L)) :
    LoopToT 2 Try.prog (theBody Try.prog 22 8) (m + 1) (wcF p 0 1 n0 k) (wpM (pB p) L) G := by
  refine roundT plain mixed 2 [cPut] [] 400 30 22 8 Try.func22 rfl (by kernel_rfl) (true :: false :: false :: true :: true :: (ff24 (true :: true :: true :: (ff38 [])))) (.br (.yes (.yes (.yes .done))) .done) (let e1 := ((((p).cls).length : Nat) : Int); let e2 := (@ByteArray.mk (@Array.mk _ [(46 : UInt8)])); let e3 := ((L).length + 1); let e4 := ((p).cls.getD (k).toNat (@ByteArray.mk (@Array.mk _ []))); let e5 := (@appc (L).length (@kcell L) (@kcell [(@tk (19 : Int) e2)])); let e6 := (e3 + ([(@tk (Int.ofNat 1) e4)]).length); let e7 := (some (@Blk.mk [(int (p).comb), (@AV.lit (@Value.string (p).tag)), (@AV.lit (@Value.string (p).id)), (cview ((p).cls)), (tview ((p).tests)), (int (p).states)] 55 none)); (.fork (!(leI e1 k)) (.need (@inR k ((p).cls).length) (.need (@isSo (@And ([(int (19 : Int)), (@AV.lit (@Value.string e2))] = [(int (19 : Int)), (@AV.lit (@Value.string e2))]) (@And (@TokRows (L).length (@kcell L)) (@And ((L).length = (L).length) (@And True (e3 ≤ 1000000)))))) (.need (@isSo (@And ([(int (1 : Int)), (@AV.lit (@Value.string e4))] = [(int (Int.ofNat 1)), (@AV.lit (@Value.string e4))]) (@And (@TokRows e3 e5) (@And (e3 = e3) (@And True (e6 ≤ 1000000)))))) (.leaf (Ex.norm, (((some (@AV.ptr 0 0)) :: none :: none :: (some (@AV.ptr 1 0)) :: (some (int n0)) :: (nn24 ((some (cview ((p).cls))) :: (some (int e1)) :: (some (int (w64 (k + (1 : Int))))) :: (nn38 [])))), (@Mem.mk ((3 + 1) + 1) ((((0 + 1) + 1) + 1) + 1) ((some (@Blk.mk [] 39 (some (@Rw.mk e6 3 (@appc e3 e5 (@kcell [(@tk (Int.ofNat 1) e4)])))))) :: (none :: [none, e7, (some (@Blk.mk [(@AV.own (3 + 1) e6 3)] 50 none))]))))))))) (.leaf ((@Ex.exit 0), (((some (@AV.ptr 0 0)) :: none :: none :: (some (@AV.ptr 1 0)) :: (some (int n0)) :: (nn24 ((some (cview ((p).cls))) :: (some (int e1)) :: (some (int k)) :: (nn38 [])))), (@Mem.mk 3 0 [(some (@Blk.mk [] 39 (some (@Rw.mk (L).length 3 (@kcell L))))), e7, (some (@Blk.mk [(@AV.own 2 (L).length 3)] 50 none))])))))) (by kernel_rfl) ?_
  refine fork_ok (fun h1 => ?_) (fun h1 => ?_)
  · simp only [Bool.not_eq_true', Bool.not_eq_false', leI_t, leI_f, eqI_t, eqI_f, inR_t, inR_f, isSo_t, isSo_f] at h1
    have hl := hl (by omega)
    unfold limT at hl
    have hin : inR k p.cls.length = true := by rw [inR_t]; omega
    refine need_t hin (need_so ⟨rfl, (by repeat' (first | exact TokRows.kc _ | refine TokRows.app ?_ rfl)), rfl, trivial, (by (try unfold limT); (try simp only [List.length_cons, List.length_nil] at *); omega)⟩ (need_so ⟨rfl, (by repeat' (first | exact TokRows.kc _ | refine TokRows.app ?_ rfl)), rfl, trivial, (by (try unfold limT); (try simp only [List.length_cons, List.length_nil] at *); omega)⟩ ?_))
    exact LoopToT.ren [0, 1, 4] rfl (wcF_ren p 0 1 n0 _ _ _ (w64_in (by omega)) 0 1 rfl rfl) (wpM_ren (b := 4) rfl (by decide) (by decide) rfl rfl rfl (partL_free p) rfl (CellIs.cast (CellIs.app2 (CellIs.app2 (CellIs.kc _) rfl) rfl) (by simp))) (c1 (by omega))
  · simp only [Bool.not_eq_true', Bool.not_eq_false', leI_t, leI_f, eqI_t, eqI_f, inR_t, inR_f, isSo_t, isSo_f] at h1
    exact c2 (by omega)
theorem clssT_cons (s : ByteArray) (l : List ByteArray) : clssT (s :: l) = [tk 19 ⟨#[46]⟩, tk 1 s] ++ clssT l := rfl
theorem clssT_len : ∀ l : List ByteArray, (clssT l).length = 2 * l.length
  | [] => rfl
  | s :: l => by rw [clssT_cons, List.length_append, clssT_len l]; simp; omega
theorem Sy.wc_loop (p : PartV) (hp : p.cls.length ≤ 8) (n0 : Int) : ∀ (l pre : List ByteArray) (k : Int) (L : List TokV), p.cls = pre ++ l → k = pre.length → limT (L.length + (clssT l).length) →
    LoopToT 2 Try.prog (theBody Try.prog 22 8) (l.length + 1) (wcF p 0 1 n0 k) (wpM (pB p) L) fun ex F2 M2 => ex = .exit 0 ∧ F2 = wcF p 0 1 n0 p.cls.length ∧ M2 = wpM (pB p) (L ++ clssT l) := by
  intro l
  induction l with
  | nil =>
    intro pre k L h hk hl
    have hn : p.cls.length = pre.length := by rw [h]; simp
    exact wc_step p hp n0 k L _ _ (by omega) (by omega) (fun h1 => by omega) (fun h1 => by omega) (fun h1 => ⟨rfl, by rw [h1], by rw [show L ++ clssT [] = L by simp [clssT]]⟩)
  | cons s l ih =>
    intro pre k L h hk hl
    have hn : p.cls.length = pre.length + l.length + 1 := by rw [h]; simp; omega
    have hg : p.cls.getD k.toNat ⟨#[]⟩ = s := by rw [h]; exact getD_at _ _ _ _ _ hk
    rw [clssT_cons] at hl
    unfold limT at hl
    simp at hl
    refine wc_step p hp n0 k L _ _ (by omega) (by omega) (fun h1 => by unfold limT; omega) (fun h1 => ?_) (fun h1 => by omega)
    rw [hg]
    have key := ih (pre ++ [s]) (k + 1) (L ++ [tk 19 ⟨#[46]⟩, tk 1 s]) (by rw [h]; simp) (by simp; omega) (by unfold limT; simp; omega)
    rw [show L ++ [tk 19 ⟨#[46]⟩, tk 1 s] ++ clssT l = L ++ clssT (s :: l) by rw [clssT_cons, List.append_assoc]] at key
    exact key
namespace Sy
structure WY where
  M : Mem
  pb : Nat
  n0 : Int
  w : WX
noncomputable def wyGet (a b c : Nat) (F : Fr) (M : Mem) : Option WY := match nth F a, nth F b, nth F c with
  | some (some (.ptr wb 0)), some (some (.ptr pb 0)), some (some (.lit (.int .i64 n0))) => match wGet2 M wb [] (M.get wb) with
    | some x => some ⟨M, pb, n0, x⟩
    | none => none
  | _, _, _ => none
theorem wyGet_ok {a b c : Nat} {F : Fr} {M : Mem} {x : WY} (h : wyGet a b c F M = some x) : x.M = M ∧ M.get x.w.wb = some (wB x.w.b x.w.n) ∧ M.get x.w.b = some (rowB x.w.m x.w.cell) := by
  unfold wyGet at h
  split at h
  · rename_i wb pb n0 h1 h2 h3
    cases hg : wGet2 M wb [] (M.get wb) with
    | none => rw [hg] at h; cases h
    | some y =>
      rw [hg] at h
      simp at h
      subst h
      obtain ⟨_, _, g0, g1⟩ := wGet2_ok hg
      exact ⟨rfl, g0, g1⟩
  · cases h
noncomputable def formW (a b c : Nat) (form : WY → Fr) (C : WY → Prop) (res : WY → Tr (Ex × Fr × Mem)) (p : List Bool) : Summ := fun F M => match wyGet a b c F M with
  | some x => .need (isSo (maskF p F = form x ∧ TokRows x.w.n x.w.cell ∧ x.w.m = x.w.n ∧ C x)) (res x)
  | none => .bad 20
theorem formW_ok {P : Program} {body : Code} {a b c : Nat} {form : WY → Fr} {C : WY → Prop} {res : WY → Tr (Ex × Fr × Mem)} {p : List Bool} (h : ∀ (x : WY) (L : List TokV), x.M.get x.w.wb = some (wB x.w.b x.w.n) → x.M.get x.w.b = some (rowB x.w.n x.w.cell) → CellIs x.w.n x.w.cell L → C x → ∃ n, LoopTo P body n (form x) x.M fun ex F' M' => (res x).sel (ex, F', M')) : Sums P body (formW a b c form C res p) := fun F M H hok => by
  unfold formW at hok
  cases hg : wyGet a b c F M with
  | none => rw [hg] at hok; exact hok.elim
  | some x =>
    rw [hg] at hok
    obtain ⟨h1, h2⟩ := hok
    rw [isSo_t] at h1
    obtain ⟨hF, ⟨L, hL⟩, hm, hC⟩ := h1
    obtain ⟨e1, g0, g1⟩ := wyGet_ok hg
    subst e1
    rw [hm] at g1
    obtain ⟨n, hn⟩ := h x L g0 g1 hL hC
    exact ⟨n, LoopTo.mask p (by rw [hF]; exact hn.mono fun ex F' M' hs => h2.of_sel hs)⟩
noncomputable abbrev lpWc (p : PartV) : Lp Try.prog where
  f := 22
  key := 8
  S := formW 0 3 4 (fun x => wcF p x.w.wb x.pb x.n0 0) (fun x => x.M.get x.pb = some (pB p) ∧ limT (x.w.n + (clssT p.cls).length) ∧ p.cls.length ≤ 8) (fun x => .leaf (.exit 0, wcE p x.w.wb x.pb x.n0, wRes x.M x.w.wb x.w.b x.w.n x.w.cell (clssT p.cls))) (true :: false :: false :: true :: true :: (ff24 (true :: true :: true :: (ff38 []))))
  one := by kernel_rfl
  ok := formW_ok fun x L h1 h2 h4 ⟨h3, h5, h6⟩ => by
    refine ⟨p.cls.length + 1, ?_⟩
    have key := wc_loop p h6 x.n0 p.cls [] 0 L rfl rfl (by rw [← h4.1]; exact h5)
    have hp1 : x.pb ≠ x.w.wb := fun e => by rw [e, h1] at h3; cases h3
    have hp2 : x.pb ≠ x.w.b := fun e => by rw [e, h2] at h3; cases h3
    refine ((loopW_frame key (F' := wcF p x.w.wb x.pb x.n0 p.cls.length) (wcF_ren p x.w.wb x.pb x.n0 _ _ _ rfl 0 1 rfl rfl) (fun τ t0 t1 => wcF_ren p 0 1 x.n0 _ _ τ rfl x.w.wb x.pb t0 t1) h1 h2 h3 ⟨hp1, hp2⟩ (partL_free p) rfl h4).out (true :: false :: false :: true :: true :: (ff17 (ff48 [])))).mono fun ex F M hg => ?_
    obtain ⟨F0, ⟨rfl, rfl, hM⟩, rfl⟩ := hg
    rw [hM]; rfl
end Sy
namespace Sy
abbrev wtF (p : PartV) (wb pb : Nat) (n0 k : Int) : Fr := (some (.ptr wb 0) :: none :: none :: some (.ptr pb 0) :: some (int n0) :: (nn37 (some ((tview ((p).tests))) :: some ((int ((((p).tests).length : Nat) : Int))) :: some (int k) :: (nn25 []))))
abbrev wtE (p : PartV) (wb pb : Nat) (n0 : Int) : Fr := (some (.ptr wb 0) :: none :: none :: some (.ptr pb 0) :: some (int n0) :: (nn17 (nn48 [])))
end Sy
theorem Sy.wtF_ren (p : PartV) (wb pb : Nat) (n0 k k' : Int) (σ : Nat → Option Nat) (h : k = k') (wb' pb' : Nat) (h0' : σ wb' = some wb) (h1' : σ pb' = some pb) : RenF σ (wtF p wb pb n0 k) (wtF p wb' pb' n0 k') := by
  subst h
  simp only [RenF, and_true]
  exact ⟨⟨h0', rfl⟩, ⟨h1', rfl⟩, rfl, RenV.free _ (viewOf_free TestV.cells testNone 3 _), rfl, rfl⟩
theorem Sy.wt_step (p : PartV) (hp : p.tests.length ≤ 8) (n0 k : Int) (L : List TokV) (m : Nat) (G : Ex → Fr → Mem → Prop) (h0 : 0 ≤ k) (hk : k ≤ p.tests.length) (hl : k < p.tests.length → limT (L.length + (testT (p.tests.getD k.toNat testNone)).length))
    (c1 : k < p.tests.length → LoopToT 2 Try.prog (theBody Try.prog 22 14) m (wtF p 0 1 n0 (k + 1)) (wpM (pB p) (L ++ testT (p.tests.getD k.toNat testNone))) G)
    (c2 : k = p.tests.length → G (.exit 2) (wtF p 0 1 n0 k) (wpM (pB p) L)) :
    LoopToT 2 Try.prog (theBody Try.prog 22 14) (m + 1) (wtF p 0 1 n0 k) (wpM (pB p) L) G := by
  refine roundT plain mixed 2 [cTest] [] 400 30 22 14 Try.func22 rfl (by kernel_rfl) (true :: false :: false :: true :: true :: (ff37 (true :: true :: true :: (ff25 [])))) (.br (.yes (.yes .done)) .done) (let e1 := ((((p).tests).length : Nat) : Int); let e2 := (@AV.lit (@Value.string (((p).tests.getD (k).toNat testNone)).name)); let e3 := (boo (((p).tests.getD (k).toNat testNone)).equal); let e4 := (@AV.lit (@Value.string (((p).tests.getD (k).toNat testNone)).value)); let e5 := (@AV.lit (@Value.string (@ByteArray.mk (@Array.mk _ [])))); let e6 := (e2 :: e3 :: e4 :: (@List.drop _ (0 + ([e2, e3, e4]).length) [e5, (boo false), e5])); let e7 := (@testT (@TestV.mk (((p).tests.getD (k).toNat testNone)).name (((p).tests.getD (k).toNat testNone)).equal (((p).tests.getD (k).toNat testNone)).value)); let e8 := ((L).length + (e7).length); let e9 := (some (@Blk.mk [(int (p).comb), (@AV.lit (@Value.string (p).tag)), (@AV.lit (@Value.string (p).id)), (cview ((p).cls)), (tview ((p).tests)), (int (p).states)] 55 none)); (.fork (!(leI e1 k)) (.need (@inR k ((p).tests).length) (.need (@isSo (@And ([(@AV.agg (@List.take _ 3 e6))] = [(@AV.agg [e2, e3, e4])]) (@And (@TokRows (L).length (@kcell L)) (@And ((L).length = (L).length) (@And True (e8 ≤ 1000000)))))) (.leaf (Ex.norm, (((some (@AV.ptr 0 0)) :: none :: none :: (some (@AV.ptr 1 0)) :: (some (int n0)) :: (nn37 ((some (tview ((p).tests))) :: (some (int e1)) :: (some (int (w64 (k + (1 : Int))))) :: (nn25 [])))), (@Mem.mk ((3 + 1) + 1) (((0 + 1) + 1) + 1) ((some (@Blk.mk [] 39 (some (@Rw.mk e8 3 (@appc (L).length (@kcell L) (@kcell e7)))))) :: [(some (@Blk.mk e6 79 none)), none, e9, (some (@Blk.mk [(@AV.own (3 + 1) e8 3)] 50 none))]))))))) (.leaf ((@Ex.exit 2), (((some (@AV.ptr 0 0)) :: none :: none :: (some (@AV.ptr 1 0)) :: (some (int n0)) :: (nn37 ((some (tview ((p).tests))) :: (some (int e1)) :: (some (int k)) :: (nn25 [])))), (@Mem.mk 3 0 [(some (@Blk.mk [] 39 (some (@Rw.mk (L).length 3 (@kcell L))))), e9, (some (@Blk.mk [(@AV.own 2 (L).length 3)] 50 none))])))))) (by kernel_rfl) ?_
  refine fork_ok (fun h1 => ?_) (fun h1 => ?_)
  · simp only [Bool.not_eq_true', Bool.not_eq_false', leI_t, leI_f, eqI_t, eqI_f, inR_t, inR_f, isSo_t, isSo_f] at h1
    have hl := hl (by omega)
    have hin : inR k p.tests.length = true := by rw [inR_t]; omega
    refine need_t hin (need_so ⟨rfl, (by repeat' (first | exact TokRows.kc _ | refine TokRows.app ?_ rfl)), rfl, trivial, hl⟩ ?_)
    exact LoopToT.ren [0, 1, 4] rfl (wtF_ren p 0 1 n0 _ _ _ (w64_in (by omega)) 0 1 rfl rfl) (wpM_ren (b := 4) rfl (by decide) (by decide) rfl rfl rfl (partL_free p) rfl (CellIs.cast (CellIs.app2 (CellIs.kc _) rfl) rfl)) (c1 (by omega))
  · simp only [Bool.not_eq_true', Bool.not_eq_false', leI_t, leI_f, eqI_t, eqI_f, inR_t, inR_f, isSo_t, isSo_f] at h1
    exact c2 (by omega)
theorem testsT_cons (s : TestV) (l : List TestV) : testsT (s :: l) = testT s ++ testsT l := rfl
theorem Sy.wt_loop (p : PartV) (hp : p.tests.length ≤ 8) (n0 : Int) : ∀ (l pre : List TestV) (k : Int) (L : List TokV), p.tests = pre ++ l → k = pre.length → limT (L.length + (testsT l).length) →
    LoopToT 2 Try.prog (theBody Try.prog 22 14) (l.length + 1) (wtF p 0 1 n0 k) (wpM (pB p) L) fun ex F2 M2 => ex = .exit 2 ∧ F2 = wtF p 0 1 n0 p.tests.length ∧ M2 = wpM (pB p) (L ++ testsT l) := by
  intro l
  induction l with
  | nil =>
    intro pre k L h hk hl
    have hn : p.tests.length = pre.length := by rw [h]; simp
    exact wt_step p hp n0 k L _ _ (by omega) (by omega) (fun h1 => by omega) (fun h1 => by omega) (fun h1 => ⟨rfl, by rw [h1], by rw [show L ++ testsT [] = L by simp [testsT]]⟩)
  | cons s l ih =>
    intro pre k L h hk hl
    have hn : p.tests.length = pre.length + l.length + 1 := by rw [h]; simp; omega
    have hg : p.tests.getD k.toNat testNone = s := by rw [h]; exact getD_at _ _ _ _ _ hk
    rw [testsT_cons] at hl
    unfold limT at hl
    simp at hl
    refine wt_step p hp n0 k L _ _ (by omega) (by omega) (fun h1 => by rw [hg]; unfold limT; omega) (fun h1 => ?_) (fun h1 => by omega)
    rw [hg]
    have key := ih (pre ++ [s]) (k + 1) (L ++ testT s) (by rw [h]; simp) (by simp; omega) (by unfold limT; simp; omega)
    rw [show L ++ testT s ++ testsT l = L ++ testsT (s :: l) by rw [testsT_cons, List.append_assoc]] at key
    exact key
namespace Sy
noncomputable abbrev lpWt (p : PartV) : Lp Try.prog where
  f := 22
  key := 14
  S := formW 0 3 4 (fun x => wtF p x.w.wb x.pb x.n0 0) (fun x => x.M.get x.pb = some (pB p) ∧ limT (x.w.n + (testsT p.tests).length) ∧ p.tests.length ≤ 8) (fun x => .leaf (.exit 2, wtE p x.w.wb x.pb x.n0, wRes x.M x.w.wb x.w.b x.w.n x.w.cell (testsT p.tests))) (true :: false :: false :: true :: true :: (ff37 (true :: true :: true :: (ff25 []))))
  one := by kernel_rfl
  ok := formW_ok fun x L h1 h2 h4 ⟨h3, h5, h6⟩ => by
    refine ⟨p.tests.length + 1, ?_⟩
    have key := wt_loop p h6 x.n0 p.tests [] 0 L rfl rfl (by rw [← h4.1]; exact h5)
    have hp1 : x.pb ≠ x.w.wb := fun e => by rw [e, h1] at h3; cases h3
    have hp2 : x.pb ≠ x.w.b := fun e => by rw [e, h2] at h3; cases h3
    refine ((loopW_frame key (F' := wtF p x.w.wb x.pb x.n0 p.tests.length) (wtF_ren p x.w.wb x.pb x.n0 _ _ _ rfl 0 1 rfl rfl) (fun τ t0 t1 => wtF_ren p 0 1 x.n0 _ _ τ rfl x.w.wb x.pb t0 t1) h1 h2 h3 ⟨hp1, hp2⟩ (partL_free p) rfl h4).out (true :: false :: false :: true :: true :: (ff17 (ff48 [])))).mono fun ex F M hg => ?_
    obtain ⟨F0, ⟨rfl, rfl, hM⟩, rfl⟩ := hg
    rw [hM]; rfl
end Sy
def tagT (p : PartV) : List TokV := if bytesEq p.tag.data.toList [] then [] else [tk 1 p.tag]
def idT (p : PartV) : List TokV := if bytesEq p.id.data.toList [] then [] else [tk 4 p.id]
def wRoot : ByteArray := ⟨⟨[114, 111, 111, 116]⟩⟩
def wFirst : ByteArray := ⟨⟨[102, 105, 114, 115, 116, 45, 99, 104, 105, 108, 100]⟩⟩
def wLast : ByteArray := ⟨⟨[108, 97, 115, 116, 45, 99, 104, 105, 108, 100]⟩⟩
def bodyT (p : PartV) : List TokV := tagT p ++ (idT p ++ (clssT p.cls ++ (testsT p.tests ++ (stateT p.states 1 wRoot ++ (stateT p.states 2 wFirst ++ stateT p.states 4 wLast)))))
def partT (p : PartV) : List TokV := if (bodyT p).length = 0 then [tk 19 ⟨#[42]⟩] else bodyT p
theorem app5 {α : Type} (L a b c d e : List α) : L ++ a ++ b ++ c ++ d ++ e = L ++ (a ++ (b ++ (c ++ (d ++ e)))) := by simp only [List.append_assoc]
theorem app6 {α : Type} (L a b c d e f : List α) : L ++ a ++ b ++ c ++ d ++ e ++ f = L ++ (a ++ (b ++ (c ++ (d ++ (e ++ f))))) := by simp only [List.append_assoc]
theorem app7 {α : Type} (L a b c d e f g : List α) : L ++ a ++ b ++ c ++ d ++ e ++ f ++ g = L ++ (a ++ (b ++ (c ++ (d ++ (e ++ (f ++ g)))))) := by simp only [List.append_assoc]
theorem partT_len (p : PartV) : (bodyT p).length ≤ (partT p).length := by unfold partT; split <;> simp_all
theorem Sy.wpart_t (L : List TokV) (p : PartV) (hc : p.cls.length ≤ 8) (ht : p.tests.length ≤ 8) (hl : limT (L.length + (partT p).length)) : CallTo Try.prog 22 [.ptr 0 0, partG p] (wM L) fun v M' => v = .tup [] ∧ WrEnd M' (L ++ partT p) :=
  to (G := fun r => r.1 = .tup [] ∧ WrEnd r.2 (L ++ partT p)) [cPut, cTest, cState p] [lpWc p, lpWt p] 400 30 (.br (.yes (.br (.yes (.yes (.yes (.yes (.br (.yes .done) .done))))) (.yes (.yes (.yes (.br (.yes .done) .done)))))) (.br (.yes (.yes (.yes (.yes (.br (.yes .done) .done))))) (.yes (.yes (.yes (.br (.yes .done) .done)))))) (let e1 := (@Array.toList _ (@ByteArray.data (@ByteArray.mk (@Array.mk _ [])))); let e2 := (@AV.lit (@Value.string (p).tag)); let e3 := (@TokRows (L).length (@kcell L)); let e4 := ((L).length = (L).length); let e5 := ((L).length + ([(@tk (Int.ofNat 1) (p).tag)]).length); let e6 := (!(@bytesEq (@Array.toList _ (@ByteArray.data (p).id)) e1)); let e7 := (@AV.lit (@Value.string (p).id)); let e8 := ([(int (4 : Int)), e7] = [(int (Int.ofNat 4)), e7]); let e9 := (@appc (L).length (@kcell L) (@kcell [(@tk (Int.ofNat 1) (p).tag)])); let e10 := ([(@tk (Int.ofNat 4) (p).id)]); let e11 := (e5 + e10.length); let e12 := (some (@AV.ptr 0 0)); let e13 := (some (@AV.ptr 2 0)); let e14 := (((L).length : Nat) : Int); let e15 := (some (int e14)); let e16 := (cview ((p).cls)); let e17 := (some (int ((((p).cls).length : Nat) : Int))); let e18 := (some (int (0 : Int))); let e19 := ((e12 :: none :: (none :: e13 :: e15 :: (nn24 ((some e16) :: e17 :: e18 :: (nn38 []))))) = (e12 :: none :: none :: e13 :: e15 :: (nn24 ((some e16) :: e17 :: e18 :: (nn38 []))))); let e20 := (@kcell [(@tk (Int.ofNat 4) (p).id)]); let e21 := (tview ((p).tests)); let e22 := (some (@Blk.mk [(int (p).comb), e2, e7, e16, e21, (int (p).states)] 55 none)); let e23 := (e22 = e22); let e24 := (e11 + ((@clssT (p).cls)).length); let e25 := (((p).cls).length ≤ 8); let e26 := (some (int ((((p).tests).length : Nat) : Int))); let e27 := ((e12 :: none :: none :: e13 :: e15 :: (nn37 ((some e21) :: e26 :: e18 :: (nn25 [])))) = (e12 :: none :: none :: e13 :: e15 :: (nn37 ((some e21) :: e26 :: e18 :: (nn25 []))))); let e28 := (@kcell (@clssT (p).cls)); let e29 := (@appc e11 (@appc e5 e9 e20) e28); let e30 := (e24 + ((@testsT (p).tests)).length); let e31 := (((p).tests).length ≤ 8); let e32 := (@AV.agg [(int (p).comb), e2, e7, e16, e21, (int (p).states)]); let e33 := (@ByteArray.mk (@Array.mk _ [(114 : UInt8), (111 : UInt8), (111 : UInt8), (116 : UInt8)])); let e34 := (@AV.lit (@Value.string e33)); let e35 := ([e32, (int (1 : Int)), e34] = [e32, (int (1 : Int)), e34]); let e36 := (@kcell (@testsT (p).tests)); let e37 := (@stateT (p).states (1 : Int) e33); let e38 := (e30 + (e37).length); let e39 := (@ByteArray.mk (@Array.mk _ [(102 : UInt8), (105 : UInt8), (114 : UInt8), (115 : UInt8), (116 : UInt8), (45 : UInt8), (99 : UInt8), (104 : UInt8), (105 : UInt8), (108 : UInt8), (100 : UInt8)])); let e40 := (@AV.lit (@Value.string e39)); let e41 := ([e32, (int (2 : Int)), e40] = [e32, (int (2 : Int)), e40]); let e42 := (@appc e30 (@appc e24 e29 e36) (@kcell e37)); let e43 := (@stateT (p).states (2 : Int) e39); let e44 := (e38 + (e43).length); let e45 := (@ByteArray.mk (@Array.mk _ [(108 : UInt8), (97 : UInt8), (115 : UInt8), (116 : UInt8), (45 : UInt8), (99 : UInt8), (104 : UInt8), (105 : UInt8), (108 : UInt8), (100 : UInt8)])); let e46 := (@AV.lit (@Value.string e45)); let e47 := ([e32, (int (4 : Int)), e46] = [e32, (int (4 : Int)), e46]); let e48 := (@stateT (p).states (4 : Int) e45); let e49 := (e44 + (e48).length); let e50 := (@ByteArray.mk (@Array.mk _ [(42 : UInt8)])); let e51 := (@AV.lit (@Value.string e50)); let e52 := ([(int (19 : Int)), e51] = [(int (19 : Int)), e51]); let e53 := (@appc e44 (@appc e38 e42 (@kcell e43)) (@kcell e48)); let e54 := (@AV.tup []); let e55 := (((((2 + 1) + 1) + 1) + 1) + 1); let e56 := ((e55 + 1) + 1); let e57 := ((((((((((0 + 1) + 1) + 1) + 1) + 1) + 1) + 1) + 1) + 1) + 1); let e58 := ((e57 + 1) + 1); let e59 := ((e58 + 1) + 1); let e60 := (@kcell [(@tk (19 : Int) e50)]); let e61 := (e5 + ((@clssT (p).cls)).length); let e62 := (e61 + ((@testsT (p).tests)).length); let e63 := (@appc e61 (@appc e5 e9 e28) e36); let e64 := (e62 + (e37).length); let e65 := (e64 + (e43).length); let e66 := (@appc e64 (@appc e62 e63 (@kcell e37)) (@kcell e43)); let e67 := (e65 + (e48).length); let e68 := (@appc e65 e66 (@kcell e48)); let e69 := ((L).length + e10.length); let e70 := (@appc (L).length (@kcell L) e20); let e71 := (e69 + ((@clssT (p).cls)).length); let e72 := (e71 + ((@testsT (p).tests)).length); let e73 := (@appc e71 (@appc e69 e70 e28) e36); let e74 := (e72 + (e37).length); let e75 := (e74 + (e43).length); let e76 := (@appc e74 (@appc e72 e73 (@kcell e37)) (@kcell e43)); let e77 := (e75 + (e48).length); let e78 := (@appc e75 e76 (@kcell e48)); let e79 := ((L).length + ((@clssT (p).cls)).length); let e80 := (@appc (L).length (@kcell L) e28); let e81 := (e79 + ((@testsT (p).tests)).length); let e82 := (e81 + (e37).length); let e83 := (@appc e81 (@appc e79 e80 e36) (@kcell e37)); let e84 := (e82 + (e43).length); let e85 := (e84 + (e48).length); let e86 := (@appc e84 (@appc e82 e83 (@kcell e43)) (@kcell e48)); (.fork (!(@bytesEq (@Array.toList _ (@ByteArray.data (p).tag)) e1)) (.need (@isSo (@And ([(int (1 : Int)), e2] = [(int (Int.ofNat 1)), e2]) (@And e3 (@And e4 (@And True (e5 ≤ 1000000)))))) (.fork e6 (.need (@isSo (@And e8 (@And (@TokRows e5 e9) (@And (e5 = e5) (@And True (e11 ≤ 1000000)))))) (.need (@isSo (@And e19 (@And (@TokRows e11 (@appc e5 e9 e20)) (@And (e11 = e11) (@And e23 (@And (e24 ≤ 1000000) e25)))))) (.need (@isSo (@And e27 (@And (@TokRows e24 e29) (@And (e24 = e24) (@And e23 (@And (e30 ≤ 1000000) e31)))))) (.need (@isSo (@And e35 (@And (@TokRows e30 (@appc e24 e29 e36)) (@And (e30 = e30) (@And True (e38 ≤ 1000000)))))) (.need (@isSo (@And e41 (@And (@TokRows e38 e42) (@And (e38 = e38) (@And True (e44 ≤ 1000000)))))) (.need (@isSo (@And e47 (@And (@TokRows e44 (@appc e38 e42 (@kcell e43))) (@And (e44 = e44) (@And True (e49 ≤ 1000000)))))) (.fork (eqI ((e49 : Nat) : Int) e14) (.need (@isSo (@And e52 (@And (@TokRows e49 e53) (@And (e49 = e49) (@And True ((e49 + 1) ≤ 1000000)))))) (.leaf (e54, (@Mem.mk ((e56 + 1) + 1) ((e59 + 1) + 1) ((some (@Blk.mk [] 39 (some (@Rw.mk (e49 + 1) 3 (@appc e49 e53 e60))))) :: (none :: (none :: (none :: (none :: (none :: (none :: (none :: [e22, none, (some (@Blk.mk [(@AV.own (e56 + 1) (e49 + 1) 3)] 50 none))])))))))))))) (.leaf (e54, (@Mem.mk (e56 + 1) e59 ((some (@Blk.mk [] 39 (some (@Rw.mk e49 3 e53)))) :: (none :: (none :: (none :: (none :: (none :: (none :: [e22, none, (some (@Blk.mk [(@AV.own e56 e49 3)] 50 none))]))))))))))))))))) (.need (@isSo (@And e19 (@And (@TokRows e5 e9) (@And (e5 = e5) (@And e23 (@And (e61 ≤ 1000000) e25)))))) (.need (@isSo (@And e27 (@And (@TokRows e61 (@appc e5 e9 e28)) (@And (e61 = e61) (@And e23 (@And (e62 ≤ 1000000) e31)))))) (.need (@isSo (@And e35 (@And (@TokRows e62 e63) (@And (e62 = e62) (@And True (e64 ≤ 1000000)))))) (.need (@isSo (@And e41 (@And (@TokRows e64 (@appc e62 e63 (@kcell e37))) (@And (e64 = e64) (@And True (e65 ≤ 1000000)))))) (.need (@isSo (@And e47 (@And (@TokRows e65 e66) (@And (e65 = e65) (@And True (e67 ≤ 1000000)))))) (.fork (eqI ((e67 : Nat) : Int) e14) (.need (@isSo (@And e52 (@And (@TokRows e67 e68) (@And (e67 = e67) (@And True ((e67 + 1) ≤ 1000000)))))) (.leaf (e54, (@Mem.mk (e56 + 1) e59 ((some (@Blk.mk [] 39 (some (@Rw.mk (e67 + 1) 3 (@appc e67 e68 e60))))) :: (none :: (none :: (none :: (none :: (none :: (none :: [e22, none, (some (@Blk.mk [(@AV.own e56 (e67 + 1) 3)] 50 none))]))))))))))) (.leaf (e54, (@Mem.mk e56 e58 ((some (@Blk.mk [] 39 (some (@Rw.mk e67 3 e68)))) :: (none :: (none :: (none :: (none :: (none :: [e22, none, (some (@Blk.mk [(@AV.own (e55 + 1) e67 3)] 50 none))]))))))))))))))))) (.fork e6 (.need (@isSo (@And e8 (@And e3 (@And e4 (@And True (e69 ≤ 1000000)))))) (.need (@isSo (@And e19 (@And (@TokRows e69 e70) (@And (e69 = e69) (@And e23 (@And (e71 ≤ 1000000) e25)))))) (.need (@isSo (@And e27 (@And (@TokRows e71 (@appc e69 e70 e28)) (@And (e71 = e71) (@And e23 (@And (e72 ≤ 1000000) e31)))))) (.need (@isSo (@And e35 (@And (@TokRows e72 e73) (@And (e72 = e72) (@And True (e74 ≤ 1000000)))))) (.need (@isSo (@And e41 (@And (@TokRows e74 (@appc e72 e73 (@kcell e37))) (@And (e74 = e74) (@And True (e75 ≤ 1000000)))))) (.need (@isSo (@And e47 (@And (@TokRows e75 e76) (@And (e75 = e75) (@And True (e77 ≤ 1000000)))))) (.fork (eqI ((e77 : Nat) : Int) e14) (.need (@isSo (@And e52 (@And (@TokRows e77 e78) (@And (e77 = e77) (@And True ((e77 + 1) ≤ 1000000)))))) (.leaf (e54, (@Mem.mk (e56 + 1) e59 ((some (@Blk.mk [] 39 (some (@Rw.mk (e77 + 1) 3 (@appc e77 e78 e60))))) :: (none :: (none :: (none :: (none :: (none :: (none :: [e22, none, (some (@Blk.mk [(@AV.own e56 (e77 + 1) 3)] 50 none))]))))))))))) (.leaf (e54, (@Mem.mk e56 e58 ((some (@Blk.mk [] 39 (some (@Rw.mk e77 3 e78)))) :: (none :: (none :: (none :: (none :: (none :: [e22, none, (some (@Blk.mk [(@AV.own (e55 + 1) e77 3)] 50 none))])))))))))))))))) (.need (@isSo (@And e19 (@And e3 (@And e4 (@And e23 (@And (e79 ≤ 1000000) e25)))))) (.need (@isSo (@And e27 (@And (@TokRows e79 e80) (@And (e79 = e79) (@And e23 (@And (e81 ≤ 1000000) e31)))))) (.need (@isSo (@And e35 (@And (@TokRows e81 (@appc e79 e80 e36)) (@And (e81 = e81) (@And True (e82 ≤ 1000000)))))) (.need (@isSo (@And e41 (@And (@TokRows e82 e83) (@And (e82 = e82) (@And True (e84 ≤ 1000000)))))) (.need (@isSo (@And e47 (@And (@TokRows e84 (@appc e82 e83 (@kcell e43))) (@And (e84 = e84) (@And True (e85 ≤ 1000000)))))) (.fork (eqI ((e85 : Nat) : Int) e14) (.need (@isSo (@And e52 (@And (@TokRows e85 e86) (@And (e85 = e85) (@And True ((e85 + 1) ≤ 1000000)))))) (.leaf (e54, (@Mem.mk e56 e58 ((some (@Blk.mk [] 39 (some (@Rw.mk (e85 + 1) 3 (@appc e85 e86 e60))))) :: (none :: (none :: (none :: (none :: (none :: [e22, none, (some (@Blk.mk [(@AV.own (e55 + 1) (e85 + 1) 3)] 50 none))])))))))))) (.leaf (e54, (@Mem.mk (e55 + 1) e57 ((some (@Blk.mk [] 39 (some (@Rw.mk e85 3 e86)))) :: (none :: (none :: (none :: (none :: [e22, none, (some (@Blk.mk [(@AV.own e55 e85 3)] 50 none))]))))))))))))))))) (by kernel_rfl) (by
    unfold limT at hl
    have hb := partT_len p
    have hs : (bodyT p).length = (tagT p).length + ((idT p).length + ((clssT p.cls).length + ((testsT p.tests).length + ((stateT p.states 1 wRoot).length + ((stateT p.states 2 wFirst).length + (stateT p.states 4 wLast).length))))) := by
      unfold bodyT
      simp only [List.length_append]
    simp only [wRoot, wFirst, wLast] at hs
    have star : (bodyT p).length = 0 → partT p = [tk 19 ⟨#[42]⟩] := fun h => by unfold partT; rw [if_pos h]
    have full : (bodyT p).length ≠ 0 → partT p = bodyT p := fun h => by unfold partT; rw [if_neg h]
    have nil : (bodyT p).length = 0 → bodyT p = [] := fun h => List.eq_nil_of_length_eq_zero h
    have s1 : ∀ s : ByteArray, [s].length = 1 := fun _ => rfl
    refine fork_ok (fun h1 => ?_) (fun h1 => ?_)
    · have t1 : tagT p = [tk 1 p.tag] := by unfold tagT; rw [if_neg (by simpa using h1)]
      have t1l := congrArg List.length t1
      simp only [List.length_cons, List.length_nil] at t1l
      refine need_so ⟨rfl, (by repeat' (first | exact TokRows.kc _ | refine TokRows.app ?_ rfl)), rfl, trivial, (by (try unfold limT); (try simp only [List.length_cons, List.length_nil] at *); omega)⟩ (fork_ok (fun h2 => ?_) (fun h2 => ?_))
      · have t2 : idT p = [tk 4 p.id] := by unfold idT; rw [if_neg (by simpa using h2)]
        have t2l := congrArg List.length t2
        simp only [List.length_cons, List.length_nil] at t2l
        refine need_so ⟨rfl, (by repeat' (first | exact TokRows.kc _ | refine TokRows.app ?_ rfl)), rfl, trivial, (by (try unfold limT); (try simp only [List.length_cons, List.length_nil] at *); omega)⟩ (need_so ⟨rfl, (by repeat' (first | exact TokRows.kc _ | refine TokRows.app ?_ rfl)), rfl, rfl, (by (try unfold limT); (try simp only [List.length_cons, List.length_nil] at *); omega), hc⟩ (need_so ⟨rfl, (by repeat' (first | exact TokRows.kc _ | refine TokRows.app ?_ rfl)), rfl, rfl, (by (try unfold limT); (try simp only [List.length_cons, List.length_nil] at *); omega), ht⟩ (need_so ⟨rfl, (by repeat' (first | exact TokRows.kc _ | refine TokRows.app ?_ rfl)), rfl, trivial, (by (try unfold limT); (try simp only [List.length_cons, List.length_nil] at *); omega)⟩ (need_so ⟨rfl, (by repeat' (first | exact TokRows.kc _ | refine TokRows.app ?_ rfl)), rfl, trivial, (by (try unfold limT); (try simp only [List.length_cons, List.length_nil] at *); omega)⟩ (need_so ⟨rfl, (by repeat' (first | exact TokRows.kc _ | refine TokRows.app ?_ rfl)), rfl, trivial, (by (try unfold limT); (try simp only [List.length_cons, List.length_nil] at *); omega)⟩ (fork_ok (fun h3 => ?_) (fun h3 => ?_)))))))
        · simp only [Bool.not_eq_true', Bool.not_eq_false', leI_t, leI_f, eqI_t, eqI_f, inR_t, inR_f, isSo_t, isSo_f] at h3
          try simp only [List.length_cons, List.length_nil] at h3
          have hz : (bodyT p).length = 0 := by omega
          exfalso; omega
        · simp only [Bool.not_eq_true', Bool.not_eq_false', leI_t, leI_f, eqI_t, eqI_f, inR_t, inR_f, isSo_t, isSo_f] at h3
          try simp only [List.length_cons, List.length_nil] at h3
          have hz : (bodyT p).length ≠ 0 := by omega
          rw [full hz]
          refine ⟨rfl, _, _, _, rfl, rfl, by decide, CellIs.cast (CellIs.app2 (CellIs.app2 (CellIs.app2 (CellIs.app2 (CellIs.app2 (CellIs.app2 (CellIs.app2 (CellIs.kc _) rfl) rfl) rfl) rfl) rfl) rfl) rfl) ?_⟩
          unfold bodyT wRoot wFirst wLast
          rw [t1, t2]
          exact app7 L _ _ _ _ _ _ _
      · have t2 : idT p = [] := by unfold idT; rw [if_pos (by simpa using h2)]
        have t2l := congrArg List.length t2
        simp only [List.length_cons, List.length_nil] at t2l
        refine need_so ⟨rfl, (by repeat' (first | exact TokRows.kc _ | refine TokRows.app ?_ rfl)), rfl, rfl, (by (try unfold limT); (try simp only [List.length_cons, List.length_nil] at *); omega), hc⟩ (need_so ⟨rfl, (by repeat' (first | exact TokRows.kc _ | refine TokRows.app ?_ rfl)), rfl, rfl, (by (try unfold limT); (try simp only [List.length_cons, List.length_nil] at *); omega), ht⟩ (need_so ⟨rfl, (by repeat' (first | exact TokRows.kc _ | refine TokRows.app ?_ rfl)), rfl, trivial, (by (try unfold limT); (try simp only [List.length_cons, List.length_nil] at *); omega)⟩ (need_so ⟨rfl, (by repeat' (first | exact TokRows.kc _ | refine TokRows.app ?_ rfl)), rfl, trivial, (by (try unfold limT); (try simp only [List.length_cons, List.length_nil] at *); omega)⟩ (need_so ⟨rfl, (by repeat' (first | exact TokRows.kc _ | refine TokRows.app ?_ rfl)), rfl, trivial, (by (try unfold limT); (try simp only [List.length_cons, List.length_nil] at *); omega)⟩ (fork_ok (fun h3 => ?_) (fun h3 => ?_))))))
        · simp only [Bool.not_eq_true', Bool.not_eq_false', leI_t, leI_f, eqI_t, eqI_f, inR_t, inR_f, isSo_t, isSo_f] at h3
          try simp only [List.length_cons, List.length_nil] at h3
          have hz : (bodyT p).length = 0 := by omega
          exfalso; omega
        · simp only [Bool.not_eq_true', Bool.not_eq_false', leI_t, leI_f, eqI_t, eqI_f, inR_t, inR_f, isSo_t, isSo_f] at h3
          try simp only [List.length_cons, List.length_nil] at h3
          have hz : (bodyT p).length ≠ 0 := by omega
          rw [full hz]
          refine ⟨rfl, _, _, _, rfl, rfl, by decide, CellIs.cast (CellIs.app2 (CellIs.app2 (CellIs.app2 (CellIs.app2 (CellIs.app2 (CellIs.app2 (CellIs.kc _) rfl) rfl) rfl) rfl) rfl) rfl) ?_⟩
          unfold bodyT wRoot wFirst wLast
          rw [t1, t2, List.nil_append]
          exact app6 L _ _ _ _ _ _
    · have t1 : tagT p = [] := by unfold tagT; rw [if_pos (by simpa using h1)]
      have t1l := congrArg List.length t1
      simp only [List.length_cons, List.length_nil] at t1l
      refine fork_ok (fun h2 => ?_) (fun h2 => ?_)
      · have t2 : idT p = [tk 4 p.id] := by unfold idT; rw [if_neg (by simpa using h2)]
        have t2l := congrArg List.length t2
        simp only [List.length_cons, List.length_nil] at t2l
        refine need_so ⟨rfl, (by repeat' (first | exact TokRows.kc _ | refine TokRows.app ?_ rfl)), rfl, trivial, (by (try unfold limT); (try simp only [List.length_cons, List.length_nil] at *); omega)⟩ (need_so ⟨rfl, (by repeat' (first | exact TokRows.kc _ | refine TokRows.app ?_ rfl)), rfl, rfl, (by (try unfold limT); (try simp only [List.length_cons, List.length_nil] at *); omega), hc⟩ (need_so ⟨rfl, (by repeat' (first | exact TokRows.kc _ | refine TokRows.app ?_ rfl)), rfl, rfl, (by (try unfold limT); (try simp only [List.length_cons, List.length_nil] at *); omega), ht⟩ (need_so ⟨rfl, (by repeat' (first | exact TokRows.kc _ | refine TokRows.app ?_ rfl)), rfl, trivial, (by (try unfold limT); (try simp only [List.length_cons, List.length_nil] at *); omega)⟩ (need_so ⟨rfl, (by repeat' (first | exact TokRows.kc _ | refine TokRows.app ?_ rfl)), rfl, trivial, (by (try unfold limT); (try simp only [List.length_cons, List.length_nil] at *); omega)⟩ (need_so ⟨rfl, (by repeat' (first | exact TokRows.kc _ | refine TokRows.app ?_ rfl)), rfl, trivial, (by (try unfold limT); (try simp only [List.length_cons, List.length_nil] at *); omega)⟩ (fork_ok (fun h3 => ?_) (fun h3 => ?_)))))))
        · simp only [Bool.not_eq_true', Bool.not_eq_false', leI_t, leI_f, eqI_t, eqI_f, inR_t, inR_f, isSo_t, isSo_f] at h3
          try simp only [List.length_cons, List.length_nil] at h3
          have hz : (bodyT p).length = 0 := by omega
          exfalso; omega
        · simp only [Bool.not_eq_true', Bool.not_eq_false', leI_t, leI_f, eqI_t, eqI_f, inR_t, inR_f, isSo_t, isSo_f] at h3
          try simp only [List.length_cons, List.length_nil] at h3
          have hz : (bodyT p).length ≠ 0 := by omega
          rw [full hz]
          refine ⟨rfl, _, _, _, rfl, rfl, by decide, CellIs.cast (CellIs.app2 (CellIs.app2 (CellIs.app2 (CellIs.app2 (CellIs.app2 (CellIs.app2 (CellIs.kc _) rfl) rfl) rfl) rfl) rfl) rfl) ?_⟩
          unfold bodyT wRoot wFirst wLast
          rw [t1, t2, List.nil_append]
          exact app6 L _ _ _ _ _ _
      · have t2 : idT p = [] := by unfold idT; rw [if_pos (by simpa using h2)]
        have t2l := congrArg List.length t2
        simp only [List.length_cons, List.length_nil] at t2l
        refine need_so ⟨rfl, (by repeat' (first | exact TokRows.kc _ | refine TokRows.app ?_ rfl)), rfl, rfl, (by (try unfold limT); (try simp only [List.length_cons, List.length_nil] at *); omega), hc⟩ (need_so ⟨rfl, (by repeat' (first | exact TokRows.kc _ | refine TokRows.app ?_ rfl)), rfl, rfl, (by (try unfold limT); (try simp only [List.length_cons, List.length_nil] at *); omega), ht⟩ (need_so ⟨rfl, (by repeat' (first | exact TokRows.kc _ | refine TokRows.app ?_ rfl)), rfl, trivial, (by (try unfold limT); (try simp only [List.length_cons, List.length_nil] at *); omega)⟩ (need_so ⟨rfl, (by repeat' (first | exact TokRows.kc _ | refine TokRows.app ?_ rfl)), rfl, trivial, (by (try unfold limT); (try simp only [List.length_cons, List.length_nil] at *); omega)⟩ (need_so ⟨rfl, (by repeat' (first | exact TokRows.kc _ | refine TokRows.app ?_ rfl)), rfl, trivial, (by (try unfold limT); (try simp only [List.length_cons, List.length_nil] at *); omega)⟩ (fork_ok (fun h3 => ?_) (fun h3 => ?_))))))
        · simp only [Bool.not_eq_true', Bool.not_eq_false', leI_t, leI_f, eqI_t, eqI_f, inR_t, inR_f, isSo_t, isSo_f] at h3
          try simp only [List.length_cons, List.length_nil] at h3
          have hz : (bodyT p).length = 0 := by omega
          have hn := nil hz
          unfold bodyT at hn
          rw [star hz] at hl ⊢
          refine need_so ⟨rfl, (by repeat' (first | exact TokRows.kc _ | refine TokRows.app ?_ rfl)), rfl, trivial, by simp only [List.length_cons, List.length_nil] at *; omega⟩ ⟨rfl, _, _, _, rfl, rfl, by decide, CellIs.cast (CellIs.app2 (CellIs.app2 (CellIs.app2 (CellIs.app2 (CellIs.app2 (CellIs.app2 (CellIs.kc _) rfl) rfl) rfl) rfl) rfl) rfl) ?_⟩
          rw [t1, t2] at hn
          simp only [List.nil_append, List.append_eq_nil_iff] at hn
          obtain ⟨n1, n2, n3, n4, n5⟩ := hn
          simp only [wRoot, wFirst, wLast] at n3 n4 n5
          simp [n1, n2, n3, n4, n5]
        · simp only [Bool.not_eq_true', Bool.not_eq_false', leI_t, leI_f, eqI_t, eqI_f, inR_t, inR_f, isSo_t, isSo_f] at h3
          try simp only [List.length_cons, List.length_nil] at h3
          have hz : (bodyT p).length ≠ 0 := by omega
          rw [full hz]
          refine ⟨rfl, _, _, _, rfl, rfl, by decide, CellIs.cast (CellIs.app2 (CellIs.app2 (CellIs.app2 (CellIs.app2 (CellIs.app2 (CellIs.kc _) rfl) rfl) rfl) rfl) rfl) ?_⟩
          unfold bodyT wRoot wFirst wLast
          rw [t1, t2, List.nil_append, List.nil_append]
          exact app5 L _ _ _ _ _)
noncomputable abbrev Sy.cPartW (p : PartV) : Con Try.prog := conW 22 (fun r => match r with | [_] => some () | _ => none) (fun _ => [partG p]) (fun _ => partT p) (fun _ => p.cls.length ≤ 8 ∧ p.tests.length ≤ 8) fun L _ h hl => ⟨⟨partG_free p, trivial⟩, wpart_t L p h.1 h.2 hl⟩
end Go.Proofs.Ytconlneohilnmaa
namespace Go.Proofs.Ytconlneohilnmaa
open Go Go.RowKit Pl Sy
abbrev Sy.sview (ss : List (List PartV)) : AV := .view ss.length 1 (fun i _ => pview (ss.getD i []))
theorem Sy.sview_free (ss : List (List PartV)) : Free (sview ss) := fun i j => pview_free _
def SelsR (ss : List (List PartV)) : Prop := ss.length ≤ 17592186044416 ∧ ∀ ps ∈ ss, PartsOk ps
def unrightB (ps : List PartV) : Bool := !rightB ps
def anyQ (g : List PartV → Bool) (xs : List (List PartV)) : Bool := xs.any g
theorem Sy.pr1_t (xs : List PartV) (h : PartsOk xs) : CallTo Try.prog 18 [.agg [pview xs]] M0 fun v _ => v = boo (unrightB xs) :=
  toV [cRight xs] [] 400 30 (.yes .done) (.need (@isSo (@And ((@HAppend.hAppend _ _ _ _ (@HAppend.hAppend _ _ _ _ [] [(@AV.agg [(@AV.view (xs).length 6 (@pcell xs))])]) []) = [(@AV.agg [(@AV.view (xs).length 6 (@pcell xs))])]) (@And ((xs).length ≤ 17592186044416) (∀ (p : PartV), p ∈ xs → PartOk p)))) (.leaf (boo (!(@rightB xs))))) (by kernel_rfl) (need_so ⟨rfl, h⟩ rfl)
noncomputable abbrev Sy.cPr1 (xs : List PartV) : Con Try.prog := at1 18 [.agg [pview xs]] (boo (unrightB xs)) (PartsOk xs) fun h => ⟨⟨⟨⟨pview_free xs, trivial⟩, trivial⟩, trivial⟩, pr1_t xs h⟩
namespace Sy
abbrev seF (xs : List (List PartV)) (k j : Int) : Fr := (some ((@AV.view (xs).length 1 (fun x937237 => (fun x794877 => (@AV.view ((xs.getD x937237 [])).length 6 (@pcell (xs.getD x937237 []))))))) :: some ((@AV.fn (@Fn.func 18) [] [])) :: none :: none :: some (int j) :: none :: some ((@AV.view (xs).length 1 (fun x247510 => (fun x334583 => (@AV.view ((xs.getD x247510 [])).length 6 (@pcell (xs.getD x247510 []))))))) :: some ((int (((xs).length : Nat) : Int))) :: some (int k) :: (nn10 []))
abbrev seE (xs : List (List PartV)) (j : Int) : Fr := (some ((@AV.view (xs).length 1 (fun x937237 => (fun x794877 => (@AV.view ((xs.getD x937237 [])).length 6 (@pcell (xs.getD x937237 []))))))) :: some ((@AV.fn (@Fn.func 18) [] [])) :: none :: none :: some (int j) :: none :: some ((@AV.view (xs).length 1 (fun x247510 => (fun x334583 => (@AV.view ((xs.getD x247510 [])).length 6 (@pcell (xs.getD x247510 []))))))) :: some ((int (((xs).length : Nat) : Int))) :: (nn11 []))
end Sy
theorem Sy.se_scan (xs : List (List PartV)) (hx : SelsR xs) : LoopTo Try.prog (theBody Try.prog 35 3) (xs.length + 1) (seF xs 0 0) M0 fun ex F' M' => M' = M0 ∧ ((0 ≤ idxF unrightB xs 0 ∧ ex = .ret ∧ F' = seF xs (idxF unrightB xs 0) (idxF unrightB xs 0)) ∨ (idxF unrightB xs 0 = -1 ∧ ex = .exit 0 ∧ F' = seF xs xs.length 0)) :=
  scan xs unrightB [] (fun k => seF xs k 0) (fun k => seF xs k k) M0 fun k n G h0 h1 c1 c2 c3 => by
    refine roundL [cPr1 (xs.getD k.toNat [])] [] 400 30 35 3 Try.func35 rfl (by kernel_rfl) (true :: true :: false :: false :: true :: false :: true :: true :: true :: (ff10 [])) (.br (.yes (.yes (.br .done .done))) .done) (let e1 := (xs.getD (k).toNat []); let e2 := (@AV.agg [(@AV.view (e1).length 6 (@pcell e1))]); let e3 := (some (@AV.view (xs).length 1 (fun y0 => (fun y1 => (@AV.view ((xs.getD y0 [])).length 6 (@pcell (xs.getD y0 []))))))); let e4 := (some (@AV.fn (@Fn.func 18) [] [])); let e5 := (some (int (((xs).length : Nat) : Int))); (.fork (!(leI (((xs).length : Nat) : Int) k)) (.need (@inR k (xs).length) (.need (@isSo (@And ((@HAppend.hAppend _ _ _ _ (@HAppend.hAppend _ _ _ _ [] [e2]) []) = [e2]) (@And ((e1).length ≤ 17592186044416) (∀ (p : PartV), p ∈ xs.getD k.toNat [] → PartOk p)))) (.fork (@unrightB e1) (.leaf (Ex.ret, ((e3 :: e4 :: none :: none :: (some (int k)) :: none :: e3 :: e5 :: (some (int k)) :: (nn10 [])), (@Mem.mk 0 0 [])))) (.leaf (Ex.norm, ((e3 :: e4 :: none :: none :: (some (int (0 : Int))) :: none :: e3 :: e5 :: (some (int (w64 (k + (1 : Int))))) :: (nn10 [])), (@Mem.mk 0 0 []))))))) (.leaf ((@Ex.exit 0), ((e3 :: e4 :: none :: none :: (some (int (0 : Int))) :: none :: e3 :: e5 :: (some (int k)) :: (nn10 [])), (@Mem.mk 0 0 [])))))) (by kernel_rfl) ?_
    have hl := hx.1
    refine fork_ok (fun h => ?_) (fun h => ?_)
    · simp only [Bool.not_eq_true', Bool.not_eq_false', leI_t, leI_f, eqI_t, eqI_f, inR_t, inR_f, isSo_t, isSo_f] at h
      have hr : inR k xs.length = true := by rw [inR_t]; omega
      refine need_t hr (need_so ⟨rfl, hx.2 _ (getD_mem xs k _ h0 (by omega))⟩ (fork_ok (fun h2 => c2 (by omega) h2) (fun h2 => ?_)))
      rw [w64_in (r := k + 1) (by omega)]
      exact c1 (by omega) h2
    · simp only [Bool.not_eq_true', Bool.not_eq_false', leI_t, leI_f, eqI_t, eqI_f, inR_t, inR_f, isSo_t, isSo_f] at h
      exact c3 (by omega)
namespace Sy
noncomputable abbrev lpSe (xs : List (List PartV)) : Lp Try.prog where
  f := 35
  key := 3
  S := formS (fun F M => slotI F 8) (fun k => seF xs k 0) (fun _ => M0) (fun k => SelsR xs ∧ k = 0) (fun k => .fork (leI 0 (idxF unrightB xs 0)) (.leaf (.ret, seE xs (idxF unrightB xs 0), M0)) (.leaf (.exit 0, seE xs 0, M0))) (true :: true :: false :: false :: true :: false :: true :: true :: true :: (ff10 []))
  one := by kernel_rfl
  ok := formS_ok fun k ⟨h1, h2⟩ => by
    subst h2
    refine ⟨xs.length + 1, ?_⟩
    refine ((Sy.se_scan xs h1).out (true :: true :: false :: false :: true :: false :: true :: true :: (ff11 []))).mono fun ex F M hg => ?_
    obtain ⟨F0, ⟨hM, hg⟩, rfl⟩ := hg
    rcases hg with ⟨q1, rfl, rfl⟩ | ⟨q1, rfl, rfl⟩
    · exact .inl ⟨by rw [leI_t]; exact q1, by rw [hM]; rfl⟩
    · exact .inr ⟨by rw [leI_f, q1]; omega, by rw [hM]; rfl⟩
end Sy
theorem Sy.cse_t (xs : List (List PartV)) (h : SelsR xs) : CallTo Try.prog 17 [sview xs, .fn (.func 18) [] []] M0 fun v _ => v = boo (anyQ unrightB xs) :=
  toV [] [lpSe xs] 400 30 (.br .done .done) (let e1 := (some (@AV.view (xs).length 1 (fun y0 => (fun y1 => (@AV.view ((xs.getD y0 [])).length 6 (@pcell (xs.getD y0 []))))))); let e2 := (some (@AV.fn (@Fn.func 18) [] [])); let e3 := (some (int (0 : Int))); let e4 := (some (int (((xs).length : Nat) : Int))); let e5 := (leI (0 : Int) (@Pl.idxF _ unrightB xs 0)); (.need (@isSo (@And ((e1 :: e2 :: (none :: none :: e3 :: none :: e1 :: e4 :: e3 :: (nn10 []))) = (e1 :: e2 :: none :: none :: e3 :: none :: e1 :: e4 :: e3 :: (nn10 []))) ((@Mem.mk 0 0 []) = M0))) (.need (@isSo (@And (@And ((xs).length ≤ 17592186044416) (∀ (ps : List PartV), ps ∈ xs → PartsOk ps)) ((0 : Int) = (0 : Int)))) (.fork e5 (.leaf (boo e5)) (.leaf (boo false)))))) (by kernel_rfl) (by
    unfold anyQ
    rw [← idxF_any unrightB xs 0]
    refine need_so ⟨rfl, rfl⟩ (need_so ⟨h, rfl⟩ (fork_ok (fun h1 => ?_) (fun h1 => ?_)))
    · rw [leI_eq]; exact rfl
    · rw [leI_eq] at h1; rw [h1]; exact rfl)
noncomputable abbrev Sy.cAnySel (xs : List (List PartV)) : Con Try.prog := at1 17 [sview xs, .fn (.func 18) [] []] (boo (anyQ unrightB xs)) (SelsR xs) fun h => ⟨⟨⟨sview_free xs, ⟨trivial, trivial⟩, trivial⟩, trivial⟩, cse_t xs h⟩
def partsT (ps : List PartV) : List TokV := ps.flatMap fun p => combT p.comb ++ partT p
namespace Sy
abbrev prF (ss : List (List PartV)) (wb : Nat) (k : Int) : Fr := (none :: none :: none :: none :: some (.ptr wb 0) :: (nn13 (some ((@AV.view (ss).length 1 (fun x151098 => (fun x765358 => (@AV.view ((ss.getD x151098 [])).length 6 (@pcell (ss.getD x151098 []))))))) :: some ((int (((ss).length : Nat) : Int))) :: some (int k) :: (nn30 []))))
abbrev prE (ss : List (List PartV)) (wb : Nat) : Fr := (none :: none :: none :: none :: some (.ptr wb 0) :: (nn13 (some ((@AV.view (ss).length 1 (fun x151098 => (fun x765358 => (@AV.view ((ss.getD x151098 [])).length 6 (@pcell (ss.getD x151098 []))))))) :: some ((int (((ss).length : Nat) : Int))) :: (nn31 []))))
end Sy
namespace Sy
abbrev psF (ss : List (List PartV)) (ps : List PartV) (wb : Nat) (k q : Int) : Fr := (none :: none :: none :: none :: some (.ptr wb 0) :: (nn13 (some ((@AV.view (ss).length 1 (fun x972055 => (fun x49550 => (@AV.view ((ss.getD x972055 [])).length 6 (@pcell (ss.getD x972055 []))))))) :: some ((int (((ss).length : Nat) : Int))) :: some (int k) :: (nn11 (some (pview ps) :: some (int ps.length) :: some (int q) :: (nn16 []))))))
end Sy
def Sy.tau2 (wb top : Nat) : Nat → Option Nat := fun x => if x = wb then some 0 else if x = top then some 1 else none
theorem Sy.tau2_of {wb top x c : Nat} (h : tau2 wb top x = some c) : (x = wb ∧ c = 0) ∨ (x = top ∧ x ≠ wb ∧ c = 1) := by
  unfold tau2 at h
  split at h
  · simp at h; omega
  · split at h
    · simp at h; omega
    · cases h
theorem Sy.loopW0_frame {P : Program} {body : Code} {m : Nat} {Fc Fc' F F' : Fr} {e : Ex} {L X : List TokV} (h : LoopToT 1 P body m Fc (wM L) fun ex F2 M2 => ex = e ∧ F2 = Fc' ∧ M2 = wM (L ++ X)) {M : Mem} {wb b n : Nat} {cell : Nat → Nat → AV}
    (hF : RenF (nm [wb, b]) F Fc) (hF' : ∀ τ : Nat → Option Nat, τ wb = some 0 → RenF τ Fc' F') (h0 : M.get wb = some (wB b n)) (h1 : M.get b = some (rowB n cell)) (hc : CellIs n cell L) :
    LoopTo P body m F M fun ex F2 M2 => ex = e ∧ F2 = F' ∧ M2 = wRes M wb b n cell X := by
  have hn := hc.1
  have hwb : wb ≠ b := fun e => by subst e; rw [h0] at h1; cases h1
  have hwt := Mem.get_lt h0
  have hbt := Mem.get_lt h1
  refine LoopToT.frame (σ := nm [wb, b]) h hF (.of rfl rfl (by simp; omega) ⟨⟨b, _, rfl, h1, rfl, trivial, hn.symm, rfl, fun i j hi hj => hc.free _ (by have hi : i < L.length := hi; omega) hj⟩, ⟨wb, _, rfl, h0, rfl, ⟨⟨rfl, hn, rfl⟩, trivial⟩, trivial⟩, trivial⟩) ?_ ?_
  · intro x c hx
    rcases x with _ | _ | x
    · exact ⟨_, rfl⟩
    · exact ⟨_, rfl⟩
    · cases hx
  · rintro ex F2 M2 ⟨rfl, rfl, rfl⟩
    have t0 : tau2 wb M.top wb = some 0 := by simp [tau2]
    have t2 : tau2 wb M.top M.top = some 1 := by
      unfold tau2
      rw [if_neg (by omega), if_pos rfl]
    have hlen : (L ++ X).length = n + X.length := by rw [List.length_append, hn]
    refine ⟨tau2 wb M.top, F', _, ⟨rfl, rfl, rfl⟩, hF' _ t0, Nat.le_succ _, fun x c hx => ?_, fun x c hlt hx => ?_, fun x x' c hx hx' => ?_, fun x B' hx => ?_⟩
    · show x < M.top + 1
      rcases tau2_of hx with ⟨h, _⟩ | ⟨h, _⟩ <;> omega
    · rcases tau2_of hx with ⟨rfl, rfl⟩ | ⟨h, _⟩
      · exact ⟨by omega, rfl⟩
      · omega
    · rcases tau2_of hx with ⟨h, h'⟩ | ⟨h, _, h'⟩ <;> rcases tau2_of hx' with ⟨k, k'⟩ | ⟨k, _, k'⟩ <;> omega
    · rcases wRes_get h0 h1 hwb hx with ⟨rfl, rfl⟩ | ⟨rfl, rfl⟩ | ⟨e1, e2, e3, e4⟩
      · refine .inr ⟨1, _, t2, rfl, rfl, trivial, hlen.symm, rfl, fun i j hi hj => ?_⟩
        dsimp only
        rw [(hc.app (CellIs.kc X)).2 i j hi hj]
        exact rfl
      · exact .inr ⟨0, _, t0, rfl, rfl, ⟨⟨t2, hlen, rfl⟩, trivial⟩, trivial⟩
      · refine .inl ⟨e1, fun c hc => ?_, e4⟩
        rcases c with _ | _ | c
        · have : some wb = some x := hc
          simp at this; omega
        · have : some b = some x := hc
          simp at this; omega
        · cases hc
theorem Sy.wM_ren {M : Mem} {l : List Nat} {b n : Nat} {cell : Nat → Nat → AV} {L : List TokV} (hl : l = [0, b]) (hb0 : b ≠ 0) (h0 : M.get 0 = some (wB b n)) (h2 : M.get b = some (rowB n cell)) (hc : CellIs n cell L) : RenM (nm l) M (wM L) := by
  subst hl
  exact .of rfl rfl (by simp; omega) ⟨⟨b, _, rfl, h2, rfl, trivial, hc.1.symm, rfl, fun i j hi hj => rowsAt hc _ hi hj⟩, ⟨0, _, rfl, h0, rfl, ⟨⟨rfl, hc.1, rfl⟩, trivial⟩, trivial⟩, trivial⟩
def PutOk (p : PartV) : Prop := (p.cls.length ≤ 8 ∧ p.tests.length ≤ 8) ∧ 0 ≤ p.comb ∧ p.comb ≤ 4
theorem Sy.psF_ren (ss : List (List PartV)) (ps : List PartV) (wb wb' : Nat) (k q q' : Int) (σ : Nat → Option Nat) (h : q = q') (h0' : σ wb' = some wb) : RenF σ (psF ss ps wb k q) (psF ss ps wb' k q') := by
  subst h
  simp only [RenF, and_true]
  exact ⟨⟨h0', rfl⟩, RenV.free _ (sview_free ss), rfl, rfl, RenV.free _ (pview_free ps), rfl, rfl⟩
theorem Sy.ps_step (ss : List (List PartV)) (ps : List PartV) (hp : ps.length ≤ 8) (ho : ∀ p ∈ ps, PutOk p) (k q : Int) (L : List TokV) (m : Nat) (G : Ex → Fr → Mem → Prop) (h0 : 0 ≤ q) (hk : q ≤ ps.length) (hl : q < ps.length → limT (L.length + ((combT (ps.getD q.toNat partNone).comb).length + (partT (ps.getD q.toNat partNone)).length)))
    (c1 : q < ps.length → LoopToT 1 Try.prog (theBody Try.prog 7 12) m (psF ss ps 0 k (q + 1)) (wM (L ++ (combT (ps.getD q.toNat partNone).comb ++ partT (ps.getD q.toNat partNone)))) G)
    (c2 : q = ps.length → G (.exit 2) (psF ss ps 0 k q) (wM L)) :
    LoopToT 1 Try.prog (theBody Try.prog 7 12) (m + 1) (psF ss ps 0 k q) (wM L) G := by
  refine roundT plain mixed 1 [cComb, cPartW (ps.getD q.toNat partNone)] [] 400 30 7 12 Try.func7 rfl (by kernel_rfl) (false :: false :: false :: false :: true :: (ff13 (true :: true :: true :: (ff11 (true :: true :: true :: (ff16 [])))))) (.br (.yes (.yes (.yes .done))) .done) (let e1 := (int ((ps.getD (q).toNat partNone)).comb); let e2 := (@combT ((ps.getD (q).toNat partNone)).comb); let e3 := ((L).length + (e2).length); let e4 := (@ByteArray.mk (@Array.mk _ [])); let e5 := (@AV.lit (@Value.slice none 0 0)); let e6 := ((@pcell ps (q).toNat 0) :: (@pcell ps (q).toNat 1) :: (@pcell ps (q).toNat 2) :: (@pcell ps (q).toNat 3) :: (@pcell ps (q).toNat 4) :: (@pcell ps (q).toNat 5) :: (@List.drop _ (0 + ([(@pcell ps (q).toNat 0), (@pcell ps (q).toNat 1), (@pcell ps (q).toNat 2), (@pcell ps (q).toNat 3), (@pcell ps (q).toNat 4), (@pcell ps (q).toNat 5)]).length) [(int (0 : Int)), (@AV.lit (@Value.string e4)), (@AV.lit (@Value.string e4)), e5, e5, (int (0 : Int))])); let e7 := (((ps.getD (q).toNat partNone)).cls); let e8 := (@Value.tuple (@Array.mk _ [])); let e9 := (((ps.getD (q).toNat partNone)).tests); let e10 := (@appc (L).length (@kcell L) (@kcell e2)); let e11 := (@partT (ps.getD (q).toNat partNone)); let e12 := (e3 + (e11).length); let e13 := (some (@AV.view (ss).length 1 (fun y0 => (fun y1 => (@AV.view ((ss.getD y0 [])).length 6 (@pcell (ss.getD y0 []))))))); let e14 := (some (int (((ss).length : Nat) : Int))); let e15 := (some (@AV.view (ps).length 6 (@pcell ps))); let e16 := (some (int (((ps).length : Nat) : Int))); (.fork (!(leI (((ps).length : Nat) : Int) q)) (.need (@inR q (ps).length) (.need (@isSo (@And ([e1] = [e1]) (@And (@TokRows (L).length (@kcell L)) (@And ((L).length = (L).length) (@And (@And ((0 : Int) ≤ ((ps.getD (q).toNat partNone)).comb) (((ps.getD (q).toNat partNone)).comb ≤ (4 : Int))) (e3 ≤ 1000000)))))) (.need (@isSo (@And ([(@AV.agg (@List.take _ 6 e6))] = [(@AV.agg [e1, (@AV.lit (@Value.string ((ps.getD (q).toNat partNone)).tag)), (@AV.lit (@Value.string ((ps.getD (q).toNat partNone)).id)), (@AV.view e7.length 1 (fun y0 => (fun y1 => (@AV.lit ([(@Value.string (((ps.getD (q).toNat partNone)).cls.getD y0 e4))].getD y1 e8))))), (@AV.view e9.length 3 (fun y0 => (fun y1 => (@AV.lit ([(@Value.string ((((ps.getD (q).toNat partNone)).tests.getD y0 testNone)).name), (@Value.bool ((((ps.getD (q).toNat partNone)).tests.getD y0 testNone)).equal), (@Value.string ((((ps.getD (q).toNat partNone)).tests.getD y0 testNone)).value)].getD y1 e8))))), (int ((ps.getD (q).toNat partNone)).states)])]) (@And (@TokRows e3 e10) (@And (e3 = e3) (@And (@And (e7.length ≤ 8) (e9.length ≤ 8)) (e12 ≤ 1000000)))))) (.leaf (Ex.norm, ((none :: none :: none :: none :: (some (@AV.ptr 0 0)) :: (nn13 (e13 :: e14 :: (some (int k)) :: (nn11 (e15 :: e16 :: (some (int (w64 (q + (1 : Int))))) :: (nn16 [])))))), (@Mem.mk (((2 + 1) + 1) + 1) (((((0 + 1) + 1) + 1) + 1) + 1) ((some (@Blk.mk [] 39 (some (@Rw.mk e12 3 (@appc e3 e10 (@kcell e11)))))) :: (none :: [(some (@Blk.mk e6 55 none)), none, (some (@Blk.mk [(@AV.own ((2 + 1) + 1) e12 3)] 50 none))]))))))))) (.leaf ((@Ex.exit 2), ((none :: none :: none :: none :: (some (@AV.ptr 0 0)) :: (nn13 (e13 :: e14 :: (some (int k)) :: (nn11 (e15 :: e16 :: (some (int q)) :: (nn16 [])))))), (@Mem.mk 2 0 [(some (@Blk.mk [] 39 (some (@Rw.mk (L).length 3 (@kcell L))))), (some (@Blk.mk [(@AV.own 1 (L).length 3)] 50 none))])))))) (by kernel_rfl) ?_
  refine fork_ok (fun h1 => ?_) (fun h1 => ?_)
  · simp only [Bool.not_eq_true', Bool.not_eq_false', leI_t, leI_f, eqI_t, eqI_f, inR_t, inR_f, isSo_t, isSo_f] at h1
    have hl := hl (by omega)
    unfold limT at hl
    have hin : inR q ps.length = true := by rw [inR_t]; omega
    obtain ⟨o1, o2⟩ := ho _ (getD_mem ps q partNone h0 (by omega))
    refine need_t hin (need_so ⟨rfl, (by repeat' (first | exact TokRows.kc _ | refine TokRows.app ?_ rfl)), rfl, o2, (by (try unfold limT); (try simp only [List.length_cons, List.length_nil] at *); omega)⟩ (need_so ⟨rfl, (by repeat' (first | exact TokRows.kc _ | refine TokRows.app ?_ rfl)), rfl, o1, (by (try unfold limT); (try simp only [List.length_cons, List.length_nil] at *); omega)⟩ ?_))
    exact LoopToT.ren [0, 4] rfl (psF_ren ss ps 0 0 k _ _ _ (w64_in (by omega)) rfl) (wM_ren (b := 4) rfl (by decide) rfl rfl (CellIs.cast (CellIs.app2 (CellIs.app2 (CellIs.kc _) rfl) rfl) (List.append_assoc _ _ _))) (c1 (by omega))
  · simp only [Bool.not_eq_true', Bool.not_eq_false', leI_t, leI_f, eqI_t, eqI_f, inR_t, inR_f, isSo_t, isSo_f] at h1
    exact c2 (by omega)
theorem partsT_cons (p : PartV) (l : List PartV) : partsT (p :: l) = combT p.comb ++ partT p ++ partsT l := rfl
theorem Sy.ps_loop (ss : List (List PartV)) (ps : List PartV) (hp : ps.length ≤ 8) (ho : ∀ p ∈ ps, PutOk p) (k : Int) : ∀ (l pre : List PartV) (q : Int) (L : List TokV), ps = pre ++ l → q = pre.length → limT (L.length + (partsT l).length) →
    LoopToT 1 Try.prog (theBody Try.prog 7 12) (l.length + 1) (psF ss ps 0 k q) (wM L) fun ex F2 M2 => ex = .exit 2 ∧ F2 = psF ss ps 0 k ps.length ∧ M2 = wM (L ++ partsT l) := by
  intro l
  induction l with
  | nil =>
    intro pre q L h hk hl
    have hn : ps.length = pre.length := by rw [h]; simp
    exact ps_step ss ps hp ho k q L _ _ (by omega) (by omega) (fun h1 => by omega) (fun h1 => by omega) (fun h1 => ⟨rfl, by rw [h1], by rw [show L ++ partsT [] = L by simp [partsT]]⟩)
  | cons p l ih =>
    intro pre q L h hk hl
    have hn : ps.length = pre.length + l.length + 1 := by rw [h]; simp; omega
    have hg : ps.getD q.toNat partNone = p := by rw [h]; exact getD_at _ _ _ _ _ hk
    rw [partsT_cons] at hl
    unfold limT at hl
    simp only [List.length_append] at hl
    refine ps_step ss ps hp ho k q L _ _ (by omega) (by omega) (fun h1 => by rw [hg]; unfold limT; omega) (fun h1 => ?_) (fun h1 => by omega)
    rw [hg]
    have key := ih (pre ++ [p]) (q + 1) (L ++ (combT p.comb ++ partT p)) (by rw [h]; simp) (by simp; omega) (by unfold limT; simp only [List.length_append]; omega)
    rw [show L ++ (combT p.comb ++ partT p) ++ partsT l = L ++ partsT (p :: l) by rw [partsT_cons, List.append_assoc]] at key
    exact key
namespace Sy
abbrev psE (ss : List (List PartV)) (wb : Nat) (k : Int) : Fr := (none :: none :: none :: none :: some (.ptr wb 0) :: (nn13 (some ((@AV.view (ss).length 1 (fun x972055 => (fun x49550 => (@AV.view ((ss.getD x972055 [])).length 6 (@pcell (ss.getD x972055 []))))))) :: some ((int (((ss).length : Nat) : Int))) :: some (int k) :: (nn30 []))))
noncomputable abbrev lpPs (ss : List (List PartV)) (ps : List PartV) : Lp Try.prog where
  f := 7
  key := 12
  S := formW 4 4 20 (fun x => psF ss ps x.w.wb x.n0 0) (fun x => limT (x.w.n + (partsT ps).length) ∧ ps.length ≤ 8 ∧ ∀ p ∈ ps, PutOk p) (fun x => .leaf (.exit 2, psE ss x.w.wb x.n0, wRes x.M x.w.wb x.w.b x.w.n x.w.cell (partsT ps))) (false :: false :: false :: false :: true :: (ff13 (true :: true :: true :: (ff11 (true :: true :: true :: (ff16 []))))))
  one := by kernel_rfl
  ok := formW_ok fun x L h1 h2 h4 ⟨h5, h6, h7⟩ => by
    refine ⟨ps.length + 1, ?_⟩
    have key := ps_loop ss ps h6 h7 x.n0 ps [] 0 L rfl rfl (by rw [← h4.1]; exact h5)
    refine ((loopW0_frame key (F' := psF ss ps x.w.wb x.n0 ps.length) (psF_ren ss ps x.w.wb 0 x.n0 _ _ _ rfl rfl) (fun τ t0 => psF_ren ss ps 0 x.w.wb x.n0 _ _ τ rfl t0) h1 h2 h4).out (false :: false :: false :: false :: true :: (ff13 (true :: true :: true :: (ff30 []))))).mono fun ex F M hg => ?_
    obtain ⟨F0, ⟨rfl, rfl, hM⟩, rfl⟩ := hg
    rw [hM]; rfl
end Sy
theorem Sy.WR.swap {w0 : World} {ρ : Rho} {M M' : Mem} {w : World} (h : WR w0 ρ M w) (ht : M.top ≤ M'.top) (hs : ∀ b B', M'.get b = some B' → ∃ B, M.get b = some B ∧ B'.elem = B.elem ∧ (∀ cur, Holds ρ B cur → Holds ρ B' cur) ∧ (B' = B ∨ B.cells ≠ [])) : WR w0 ρ M' w := by
  refine ⟨h.keep, fun b g hb => Nat.lt_of_lt_of_le (h.dom b g hb) ht, fun b hb => ⟨Nat.lt_of_lt_of_le (h.nild b hb).1 ht, (h.nild b hb).2⟩, fun b B' g tot h1 h2 => ?_, fun b B' h1 => ?_, fun b b' B B' g t t' h1 h2 h3 h4 => ?_, h.still, h.first, fun b B' g t h1 h2 => ?_⟩
  · obtain ⟨B, q1, q2, q3, _⟩ := hs b B' h1
    obtain ⟨r1, cur, r2, r3, r4⟩ := h.holds q1 h2
    exact ⟨r1, cur, by rw [q2]; exact r2, r3, q3 cur r4⟩
  · obtain ⟨B, q1, q2, q3, q4⟩ := hs b B' h1
    rcases h.has b B q1 with e | ⟨e1, e2, e3⟩
    · exact .inl e
    · rcases q4 with rfl | q4
      · exact .inr ⟨e1, e2, e3⟩
      · exact absurd e2 q4
  · obtain ⟨B1, q1, _⟩ := hs b B h1
    obtain ⟨B2, q2, _⟩ := hs b' B' h2
    exact h.inj b b' B1 B2 g t t' q1 q2 h3 h4
  · obtain ⟨B, q1, _⟩ := hs b B' h1
    exact h.apart b B g t q1 h2
theorem Sy.wM_nil {P : Program} {body : Code} {n : Nat} {F : Fr} {G : Ex → Fr → Mem → Prop} (s : Nat) (hF : LtF 1 F) (h : LoopToT 1 P body n F (wM []) G) : LoopTo P body n F ⟨1, s, [some ⟨[.lit (.slice none 0 0)], 50, none⟩]⟩ G := by
  refine LoopToT.to (T := 1) ?_ (Nat.le_refl _)
  intro w0 ρ a w Q hFR hW hQ
  obtain ⟨h1, h2, h3⟩ := hW.virt 39 3 (kcell [])
  have h4 : WR w0 (nilled ρ 1) (wM []) w := by
    refine (WR.swap h3 (M' := wM []) (Nat.le_refl _) fun b B' hb => ?_)
    have hlt := Mem.get_lt hb
    have hlt2 : b < 2 := hlt
    rcases b with _ | _ | b
    · rw [show (wM []).get 0 = some (wB 1 0) from rfl] at hb
      simp at hb; subst hb
      refine ⟨_, rfl, rfl, fun cur hH => ⟨fun i v hv => ?_, fun R hR => by cases hR⟩, .inr (by simp)⟩
      rcases i with _ | i
      · simp at hv; subst hv
        obtain ⟨u, q1, q2⟩ := hH.1 0 _ rfl
        refine ⟨u, q1, ?_⟩
        simp only [rel] at q2 ⊢
        exact .inl ⟨h2, trivial, q2⟩
      · simp at hv
    · rw [show (wM []).get 1 = some (rowB 0 (kcell [])) from rfl] at hb
      simp at hb; subst hb
      exact ⟨_, rfl, rfl, fun cur hH => hH, .inl rfl⟩
    · omega
  refine h w0 _ a w Q ⟨hFR.len, fun t v hv => (hFR.val t v hv).ext h1, hFR.defers⟩ h4 fun ex F' M' ρ' a' w' hg q1 q2 q3 => hQ ex F' M' ρ' a' w' hg ?_ q2 q3
  exact ⟨fun b g hb => q1.blk b g (by
      simp only [Sy.cutR] at hb ⊢
      split at hb
      · rename_i hlt; rw [if_pos hlt]; exact h1.blk b g hb
      · cases hb), fun b hb => q1.nil b (by
      simp only [Sy.cutR] at hb ⊢
      split at hb
      · rename_i hlt; rw [if_pos hlt]; exact h1.nil b hb
      · cases hb), fun g o v hv => q1.still g o v (h1.still g o v hv), q1.base.trans h1.base, q1.mine.trans h1.mine⟩
theorem Sy.prF_ren (ss : List (List PartV)) (wb wb' : Nat) (k k' : Int) (σ : Nat → Option Nat) (h : k = k') (h0' : σ wb' = some wb) : RenF σ (prF ss wb k) (prF ss wb' k') := by
  subst h
  simp only [RenF, and_true]
  exact ⟨⟨h0', rfl⟩, RenV.free _ (sview_free ss), rfl, rfl⟩
def sepT (k : Int) : List TokV := if k ≤ 0 then [] else [tk 12 ⟨#[]⟩, tk 20 ⟨#[]⟩]
def selsT : Int → List (List PartV) → List TokV
  | _, [] => []
  | k, ps :: l => sepT k ++ partsT ps ++ selsT (k + 1) l
def PutsOk (ps : List PartV) : Prop := ps.length ≤ 8 ∧ ∀ p ∈ ps, PutOk p
theorem Sy.pr_step (ss : List (List PartV)) (hs : ss.length ≤ 1000) (ho : ∀ ps ∈ ss, PutsOk ps) (k : Int) (L : List TokV) (m : Nat) (G : Ex → Fr → Mem → Prop) (h0 : 0 ≤ k) (hk : k ≤ ss.length) (hl : k < ss.length → limT (L.length + ((sepT k).length + (partsT (ss.getD k.toNat [])).length)))
    (c1 : k < ss.length → LoopToT 1 Try.prog (theBody Try.prog 7 6) m (prF ss 0 (k + 1)) (wM (L ++ (sepT k ++ partsT (ss.getD k.toNat [])))) G)
    (c2 : k = ss.length → G (.exit 0) (prF ss 0 k) (wM L)) :
    LoopToT 1 Try.prog (theBody Try.prog 7 6) (m + 1) (prF ss 0 k) (wM L) G := by
  refine roundT plain mixed 1 [cPut] [lpPs ss (ss.getD k.toNat [])] 400 30 7 6 Try.func7 rfl (by kernel_rfl) (false :: false :: false :: false :: true :: (ff13 (true :: true :: true :: (ff30 [])))) (.br (.yes (.br (.yes (.yes .done)) .done)) .done) (let e1 := (@ByteArray.mk (@Array.mk _ [])); let e2 := (@AV.lit (@Value.string e1)); let e3 := (@TokRows (L).length (@kcell L)); let e4 := ((L).length + 1); let e5 := (@appc (L).length (@kcell L) (@kcell [(@tk (12 : Int) e1)])); let e6 := (some (@AV.ptr 0 0)); let e7 := (some (@AV.view (ss).length 1 (fun y0 => (fun y1 => (@AV.view ((ss.getD y0 [])).length 6 (@pcell (ss.getD y0 []))))))); let e8 := (some (int (((ss).length : Nat) : Int))); let e9 := (ss.getD (k).toNat []); let e10 := (@AV.view (e9).length 6 (@pcell e9)); let e11 := (some (int (((e9).length : Nat) : Int))); let e12 := (@appc e4 e5 (@kcell [(@tk (20 : Int) e1)])); let e13 := ((e4 + 1) + ((@partsT e9)).length); let e14 := (some (int (w64 (k + (1 : Int))))); let e15 := (some (@Blk.mk (e10 :: (@List.drop _ (0 + ([e10]).length) [(@AV.lit (@Value.slice none 0 0))])) 43 none)); let e16 := ((L).length + ((@partsT e9)).length); (.fork (!(leI (((ss).length : Nat) : Int) k)) (.need (@inR k (ss).length) (.fork (!(leI k (0 : Int))) (.need (@isSo (@And ([(int (12 : Int)), e2] = [(int (12 : Int)), e2]) (@And e3 (@And ((L).length = (L).length) (@And True (e4 ≤ 1000000)))))) (.need (@isSo (@And ([(int (20 : Int)), e2] = [(int (20 : Int)), e2]) (@And (@TokRows e4 e5) (@And (e4 = e4) (@And True ((e4 + 1) ≤ 1000000)))))) (.need (@isSo (@And ((none :: none :: none :: none :: e6 :: (nn13 (e7 :: e8 :: (some (int k)) :: (nn11 ((some e10) :: e11 :: (some (int (0 : Int))) :: (nn16 [])))))) = (none :: none :: none :: none :: e6 :: (nn13 (e7 :: e8 :: (some (int k)) :: (nn11 ((some e10) :: e11 :: (some (int (0 : Int))) :: (nn16 []))))))) (@And (@TokRows (e4 + 1) e12) (@And ((e4 + 1) = (e4 + 1)) (@And (e13 ≤ 1000000) (@And ((e9).length ≤ 8) (∀ (p : PartV), p ∈ ss.getD k.toNat [] → PutOk p))))))) (.leaf (Ex.norm, ((none :: none :: none :: none :: e6 :: (nn13 (e7 :: e8 :: e14 :: (nn30 [])))), (@Mem.mk ((((2 + 1) + 1) + 1) + 1) (((((((0 + 1) + 1) + 1) + 1) + 1) + 1) + 1) ((some (@Blk.mk [] 39 (some (@Rw.mk e13 3 (@appc (e4 + 1) e12 (@kcell (@partsT e9))))))) :: (none :: (none :: [e15, none, (some (@Blk.mk [(@AV.own (((2 + 1) + 1) + 1) e13 3)] 50 none))])))))))))) (.need (@isSo (@And ((none :: none :: none :: none :: e6 :: (nn13 (e7 :: e8 :: (some (int k)) :: (nn11 ((some e10) :: e11 :: (some (int (0 : Int))) :: (nn16 [])))))) = (none :: none :: none :: none :: e6 :: (nn13 (e7 :: e8 :: (some (int k)) :: (nn11 ((some e10) :: e11 :: (some (int (0 : Int))) :: (nn16 []))))))) (@And e3 (@And ((L).length = (L).length) (@And (e16 ≤ 1000000) (@And ((e9).length ≤ 8) (∀ (p : PartV), p ∈ ss.getD k.toNat [] → PutOk p))))))) (.leaf (Ex.norm, ((none :: none :: none :: none :: e6 :: (nn13 (e7 :: e8 :: e14 :: (nn30 [])))), (@Mem.mk ((2 + 1) + 1) (((0 + 1) + 1) + 1) ((some (@Blk.mk [] 39 (some (@Rw.mk e16 3 (@appc (L).length (@kcell L) (@kcell (@partsT e9))))))) :: [e15, none, (some (@Blk.mk [(@AV.own (2 + 1) e16 3)] 50 none))])))))))) (.leaf ((@Ex.exit 0), ((none :: none :: none :: none :: e6 :: (nn13 (e7 :: e8 :: (some (int k)) :: (nn30 [])))), (@Mem.mk 2 0 [(some (@Blk.mk [] 39 (some (@Rw.mk (L).length 3 (@kcell L))))), (some (@Blk.mk [(@AV.own 1 (L).length 3)] 50 none))])))))) (by kernel_rfl) ?_
  refine fork_ok (fun h1 => ?_) (fun h1 => ?_)
  · simp only [Bool.not_eq_true', Bool.not_eq_false', leI_t, leI_f, eqI_t, eqI_f, inR_t, inR_f, isSo_t, isSo_f] at h1
    have hl := hl (by omega)
    have c1 := c1 (by omega)
    unfold limT at hl
    have hin : inR k ss.length = true := by rw [inR_t]; omega
    obtain ⟨o1, o2⟩ := ho _ (getD_mem ss k [] h0 (by omega))
    refine need_t hin (fork_ok (fun h2 => ?_) (fun h2 => ?_))
    · simp only [Bool.not_eq_true', Bool.not_eq_false', leI_t, leI_f, eqI_t, eqI_f, inR_t, inR_f, isSo_t, isSo_f] at h2
      have es : sepT k = [tk 12 ⟨#[]⟩, tk 20 ⟨#[]⟩] := by unfold sepT; rw [if_neg (by omega)]
      rw [es] at hl c1
      simp only [List.length_cons, List.length_nil] at hl
      refine need_so ⟨rfl, (by repeat' (first | exact TokRows.kc _ | refine TokRows.app ?_ rfl)), rfl, trivial, (by (try unfold limT); (try simp only [List.length_cons, List.length_nil] at *); omega)⟩ (need_so ⟨rfl, (by repeat' (first | exact TokRows.kc _ | refine TokRows.app ?_ rfl)), rfl, trivial, (by (try unfold limT); (try simp only [List.length_cons, List.length_nil] at *); omega)⟩ (need_so ⟨rfl, (by repeat' (first | exact TokRows.kc _ | refine TokRows.app ?_ rfl)), rfl, (by (try unfold limT); (try simp only [List.length_cons, List.length_nil] at *); omega), o1, o2⟩ ?_))
      exact LoopToT.ren [0, 5] rfl (prF_ren ss 0 0 _ _ _ (w64_in (by omega)) rfl) (wM_ren (b := 5) rfl (by decide) rfl rfl (CellIs.cast (CellIs.app2 (CellIs.app2 (CellIs.app2 (CellIs.kc _) rfl) rfl) rfl) (by simp))) c1
    · simp only [Bool.not_eq_true', Bool.not_eq_false', leI_t, leI_f, eqI_t, eqI_f, inR_t, inR_f, isSo_t, isSo_f] at h2
      have es : sepT k = [] := by unfold sepT; rw [if_pos (by omega)]
      rw [es] at hl c1
      simp only [List.length_nil] at hl
      refine need_so ⟨rfl, (by repeat' (first | exact TokRows.kc _ | refine TokRows.app ?_ rfl)), rfl, (by (try unfold limT); (try simp only [List.length_cons, List.length_nil] at *); omega), o1, o2⟩ ?_
      exact LoopToT.ren [0, 3] rfl (prF_ren ss 0 0 _ _ _ (w64_in (by omega)) rfl) (wM_ren (b := 3) rfl (by decide) rfl rfl (CellIs.cast (CellIs.app2 (CellIs.kc _) rfl) (by simp))) c1
  · simp only [Bool.not_eq_true', Bool.not_eq_false', leI_t, leI_f, eqI_t, eqI_f, inR_t, inR_f, isSo_t, isSo_f] at h1
    exact c2 (by omega)
theorem Sy.pr_loop (ss : List (List PartV)) (hs : ss.length ≤ 1000) (ho : ∀ ps ∈ ss, PutsOk ps) : ∀ (l pre : List (List PartV)) (k : Int) (L : List TokV), ss = pre ++ l → k = pre.length → limT (L.length + (selsT k l).length) →
    LoopToT 1 Try.prog (theBody Try.prog 7 6) (l.length + 1) (prF ss 0 k) (wM L) fun ex F2 M2 => ex = .exit 0 ∧ F2 = prF ss 0 ss.length ∧ M2 = wM (L ++ selsT k l) := by
  intro l
  induction l with
  | nil =>
    intro pre k L h hk hl
    have hn : ss.length = pre.length := by rw [h]; simp
    exact pr_step ss hs ho k L _ _ (by omega) (by omega) (fun h1 => by omega) (fun h1 => by omega) (fun h1 => ⟨rfl, by rw [h1], by rw [show L ++ selsT k [] = L by simp [selsT]]⟩)
  | cons ps l ih =>
    intro pre k L h hk hl
    have hn : ss.length = pre.length + l.length + 1 := by rw [h]; simp; omega
    have hg : ss.getD k.toNat [] = ps := by rw [h]; exact getD_at _ _ _ _ _ hk
    have e : selsT k (ps :: l) = sepT k ++ partsT ps ++ selsT (k + 1) l := rfl
    rw [e] at hl
    unfold limT at hl
    simp only [List.length_append] at hl
    refine pr_step ss hs ho k L _ _ (by omega) (by omega) (fun h1 => by rw [hg]; unfold limT; omega) (fun h1 => ?_) (fun h1 => by omega)
    rw [hg]
    have key := ih (pre ++ [ps]) (k + 1) (L ++ (sepT k ++ partsT ps)) (by rw [h]; simp) (by simp; omega) (by unfold limT; simp only [List.length_append]; omega)
    rw [show L ++ (sepT k ++ partsT ps) ++ selsT (k + 1) l = L ++ selsT k (ps :: l) by rw [e, List.append_assoc]] at key
    exact key
namespace Sy
theorem prF_lt (ss : List (List PartV)) (k : Int) : LtF 1 (prF ss 0 k) := by
  simp only [LtF]
  exact ⟨show 0 < 1 by omega, Free.lt (sview_free ss), trivial, trivial, trivial⟩
noncomputable abbrev lpPri (ss : List (List PartV)) : Lp Try.prog where
  f := 7
  key := 6
  S := formS (fun F M => match slotI F 20 with | some k => some (k, M.stamp) | _ => none) (fun x => prF ss 0 x.1) (fun x => ⟨1, x.2, [some ⟨[.lit (.slice none 0 0)], 50, none⟩]⟩) (fun x => (ss.length ≤ 1000 ∧ (∀ ps ∈ ss, PutsOk ps) ∧ limT (selsT 0 ss).length) ∧ x.1 = 0) (fun _ => .leaf (.exit 0, prE ss 0, wM (selsT 0 ss))) (false :: false :: false :: false :: true :: (ff13 (true :: true :: true :: (ff30 []))))
  one := by kernel_rfl
  ok := formS_ok fun x ⟨⟨h1, h2, h3⟩, h4⟩ => by
    obtain ⟨k, s⟩ := x
    simp only at h4
    subst h4
    refine ⟨ss.length + 1, ?_⟩
    have key := pr_loop ss h1 h2 ss [] 0 [] rfl rfl (by simpa using h3)
    refine ((wM_nil s (prF_lt ss 0) key).out (false :: false :: false :: false :: true :: (ff13 (true :: true :: (ff31 []))))).mono fun ex F M hg => ?_
    obtain ⟨F0, ⟨rfl, rfl, hM⟩, rfl⟩ := hg
    rw [hM]; rfl
end Sy
end Go.Proofs.Ytconlneohilnmaa
namespace Go.Proofs.Ytconlneohilnmaa
open Go Go.RowKit Pl Sy
namespace Sy
noncomputable def rRes (M : Mem) (b n : Nat) (cell : Nat → Nat → AV) (X : List TokV) : Mem := (M.put b none).push (rowB (n + X.length) (appc n cell (kcell X)))
theorem rRes_get {M : Mem} {b n : Nat} {cell : Nat → Nat → AV} {X : List TokV} {B1 : Blk} (h1 : M.get b = some B1) {x : Nat} {B' : Blk} (h : (rRes M b n cell X).get x = some B') :
    (x = M.top ∧ B' = rowB (n + X.length) (appc n cell (kcell X))) ∨ (x < M.top ∧ x ≠ b ∧ M.get x = some B') := by
  have hb := Mem.get_lt h1
  unfold rRes at h
  rcases Mem.get_push h with ⟨h2, h3⟩ | ⟨h2, h3⟩
  · exact .inl ⟨h2, h3⟩
  · have h2' : x < M.top := h2
    rcases Mem.get_put hb h3 with ⟨_, e3⟩ | ⟨e3, e4⟩
    · cases e3
    · exact .inr ⟨h2', e3, e4⟩
end Sy
namespace Sy
end Sy
theorem Sy.CellIs.app3 {n m : Nat} {c d : Nat → Nat → AV} {L X : List TokV} (h : CellIs n c L) (hm : m = X.length) (hd : ∀ i j, i < m → j < 3 → d i j = kcell X i j) : CellIs (n + m) (appc n c d) (L ++ X) := h.app ⟨hm, hd⟩
namespace Sy
end Sy
namespace Sy
end Sy
namespace Sy
end Sy
end Go.Proofs.Ytconlneohilnmaa
namespace Go.Proofs.Ytconlneohilnmaa
open Go Go.RowKit Pl Sy
namespace Sy
end Sy
namespace Sy
end Sy
def OwnEnd (v : AV) (M' : Mem) (L : List TokV) : Prop := ∃ b n cell, v = .own b n 3 ∧ M'.get b = some (rowB n cell) ∧ CellIs n cell L
end Go.Proofs.Ytconlneohilnmaa
namespace Go.Proofs.Ytconlneohilnmaa
open Go Go.RowKit Pl Sy
theorem Sy.OwnEnd.frz {v : AV} {M' : Mem} {L : List TokV} (h : OwnEnd v M' L) (keep : Bool) : Frz keep 0 M' v (kv L) := by
  obtain ⟨b, n, cell, rfl, h1, h2⟩ := h
  obtain ⟨rfl, h3⟩ := h2
  refine Frz.own (Nat.zero_le _) h1 rfl (Nat.le_refl _) rfl fun i j hi hj => ?_
  dsimp only
  rw [h3 i j hi hj]
  exact Frz.lit _ _ _ _
namespace Sy
abbrev qM (L : List TokV) : Mem := ⟨1, 0, [some (rowB L.length (kcell L))]⟩
end Sy
namespace Sy
end Sy
def CombOk (q : Int) (c : Int) : Prop := (q = 0 → c = 0) ∧ (0 < q → 1 ≤ c ∧ c ≤ 4)
theorem Sy.qM_ren {M : Mem} {l : List Nat} {b n : Nat} {cell : Nat → Nat → AV} {L : List TokV} (hl : l = [b]) (h2 : M.get b = some (rowB n cell)) (hc : CellIs n cell L) : RenM (nm l) M (qM L) := by
  subst hl
  exact .of rfl rfl (by simp) ⟨⟨b, _, rfl, h2, rfl, trivial, hc.1.symm, rfl, fun i j hi hj => rowsAt hc _ hi hj⟩, trivial⟩
theorem Sy.loopQ_frame {P : Program} {body : Code} {m : Nat} {Fc Fc' F F' : Fr} {e : Ex} {L X : List TokV} (h : LoopToT 0 P body m Fc (qM L) fun ex F2 M2 => ex = e ∧ F2 = Fc' ∧ M2 = qM (L ++ X)) {M : Mem} {b n : Nat} {cell : Nat → Nat → AV}
    (hF : RenF (nm [b]) F Fc) (hF' : ∀ τ : Nat → Option Nat, τ M.top = some 0 → RenF τ Fc' F') (h1 : M.get b = some (rowB n cell)) (hc : CellIs n cell L) :
    LoopTo P body m F M fun ex F2 M2 => ex = e ∧ F2 = F' ∧ M2 = rRes M b n cell X := by
  have hn := hc.1
  have hbt := Mem.get_lt h1
  refine LoopToT.frame (σ := nm [b]) h hF (qM_ren rfl h1 hc) ?_ ?_
  · intro x c hx
    rcases x with _ | x
    · exact ⟨_, rfl⟩
    · cases hx
  · rintro ex F2 M2 ⟨rfl, rfl, rfl⟩
    have hlen : (L ++ X).length = n + X.length := by rw [List.length_append, hn]
    have tof : ∀ x c, (if x = M.top then some 0 else none : Option Nat) = some c → x = M.top ∧ c = 0 := fun x c hx => by
      split at hx
      · simp at hx; omega
      · cases hx
    refine ⟨fun x => if x = M.top then some 0 else none, F', _, ⟨rfl, rfl, rfl⟩, hF' _ (if_pos rfl), Nat.le_succ _, fun x c hx => ?_, fun x c hlt hx => ?_, fun x x' c hx hx' => ?_, fun x B' hx => ?_⟩
    · show x < M.top + 1
      have := tof x c hx; omega
    · have := tof x c hx; omega
    · have := tof x c hx
      have := tof x' c hx'
      omega
    · rcases rRes_get h1 hx with ⟨rfl, rfl⟩ | ⟨e1, e3, e4⟩
      · refine .inr ⟨0, _, if_pos rfl, rfl, rfl, trivial, hlen.symm, rfl, fun i j hi hj => ?_⟩
        dsimp only
        rw [(hc.app (CellIs.kc X)).2 i j hi hj]
        exact rfl
      · refine .inl ⟨e1, fun c hc => ?_, e4⟩
        rcases c with _ | c
        · have : some b = some x := hc
          simp at this; omega
        · cases hc
namespace Sy
end Sy
namespace Sy
end Sy
end Go.Proofs.Ytconlneohilnmaa
namespace Go.Proofs.Ytconlneohilnmaa
open Go Go.RowKit Pl Sy
namespace Sy
abbrev rdB (T : List TokV) (a : Int) : Blk := ⟨[kv T, int a], 63, none⟩
abbrev rdM (T : List TokV) (a : Int) : Mem := ⟨1, 0, [some (rdB T a)]⟩
end Sy
namespace Sy
abbrev spcF (a : Int) : Fr := (some ((@AV.ptr 0 0)) :: none :: none :: some (int a) :: (nn20 []))
end Sy
def skp (l : List TokV) (k : Nat) : Nat := Sy.hops (fun j => !spB (tokAt l j)) (fun j => j + 1) l.length k
theorem skp_step (l : List TokV) (k : Nat) : skp l k = if k < l.length ∧ spB (tokAt l k) = true then skp l (k + 1) else k := by
  unfold skp
  rw [Sy.hops_step (fun k _ => Nat.lt_succ_self k)]
  simp
theorem skp_le (l : List TokV) (k : Nat) (h : k ≤ l.length) : k ≤ skp l k ∧ skp l k ≤ l.length := Sy.hops_le (fun k _ => Nat.lt_succ_self k) (fun k h => h) _ k (Nat.le_refl _) h
theorem Sy.LoopTo.stampA {P : Program} {b : Code} {n : Nat} {F : Fr} {T s : Nat} {bs : List (Option Blk)} {G : Ex → Fr → Mem → Prop} (s' : Nat) (h : LoopTo P b n F ⟨T, s', bs⟩ G) : LoopTo P b n F ⟨T, s, bs⟩ G := fun w0 ρ a w Q hF hW hQ => h w0 ρ a w Q hF (hW.restamp s') hQ
theorem Sy.spc_scan (T : List TokV) (hl : lim T) (a : Int) (k0 : Nat) (h1 : k0 ≤ T.length) : LoopTo Try.prog (theBody Try.prog 76 3) (T.length - k0 + 1) (spcF a) (rdM T k0) fun ex F' M' => ex = .exit 0 ∧ F' = spcF a ∧ M' = rdM T (skp T k0 : Nat) := by
  have key := hopL (P := Try.prog) (body := theBody Try.prog 76 3) T.length (fun j => !spB (tokAt T j)) (fun j => j + 1) (fun k _ => Nat.lt_succ_self k) (fun k h => h) (fun k => spcF a) (fun k => spcF a) (fun k => rdM T (k : Nat)) (.exit 0) (fun κ n G h0 c1 c2 c3 => by
    generalize hκ : (κ : Int) = b at *
    refine roundL [] [] 400 30 76 3 Try.func76 rfl (by kernel_rfl) (true :: false :: false :: true :: (ff20 [])) (.br (.auto 0 .done) (.yes (.br .done .done))) (let e1 := (@AV.view (T).length 3 (fun y0 => (fun y1 => (@AV.lit ([(@Value.int IntKind.i64 ((T.getD y0 tok0)).kind), (@Value.string ((T.getD y0 tok0)).text), (@Value.int IntKind.i64 ((T.getD y0 tok0)).n)].getD y1 (@Value.tuple (@Array.mk _ []))))))); (.fork (leI (((T).length : Nat) : Int) b) (.leaf ((@Ex.exit 0), (((some (@AV.ptr 0 0)) :: none :: none :: (some (int a)) :: (nn20 [])), (@Mem.mk 1 0 [(some (@Blk.mk [e1, (int b)] 63 none))])))) (.need (@inR b (T).length) (.fork (eqI ((T.getD (b).toNat tok0)).kind (20 : Int)) (.leaf (Ex.norm, (((some (@AV.ptr 0 0)) :: none :: none :: (some (int a)) :: (nn20 [])), (@Mem.mk 1 (0 + 1) [(some (@Blk.mk (e1 :: [(int (w64 (b + (1 : Int))))]) 63 none))])))) (.leaf ((@Ex.exit 0), (((some (@AV.ptr 0 0)) :: none :: none :: (some (int a)) :: (nn20 [])), (@Mem.mk 1 0 [(some (@Blk.mk [e1, (int b)] 63 none))])))))))) (by kernel_rfl) ?_
    have hl' : T.length ≤ 17592186044416 := hl
    refine fork_ok (fun h => ?_) (fun h => ?_)
    · simp only [Bool.not_eq_true', Bool.not_eq_false', leI_t, leI_f, eqI_t, eqI_f, inR_t, inR_f, isSo_t, isSo_f] at h
      have hk : κ = T.length := by omega
      have := c3 hk
      rw [← hk, hκ] at this
      exact this
    · simp only [Bool.not_eq_true', Bool.not_eq_false', leI_t, leI_f, eqI_t, eqI_f, inR_t, inR_f, isSo_t, isSo_f] at h
      have hk : κ < T.length := by omega
      have hr : inR b T.length = true := by rw [inR_t]; omega
      have hκ' : tokAt T κ = T.getD b.toNat tok0 := by rw [← hκ]; rfl
      refine need_t hr (fork_ok (fun h2 => ?_) (fun h2 => c2 hk (by rw [hκ']; unfold spB; rw [h2]; rfl)))
      have := c1 hk (by rw [hκ']; unfold spB; rw [h2]; rfl)
      rw [show ((κ + 1 : Nat) : Int) = b + 1 by omega] at this
      rw [w64_in (r := b + 1) (by omega)]
      exact Sy.LoopTo.stampA 0 this) k0 h1
  refine key.mono fun ex F M hg => ?_
  obtain ⟨rfl, hg⟩ := hg
  rcases hg with ⟨q1, rfl, rfl⟩ | ⟨q1, rfl, rfl⟩
  · exact ⟨rfl, rfl, rfl⟩
  · exact ⟨rfl, rfl, rfl⟩
namespace Sy
noncomputable abbrev lpSpc (T : List TokV) (k0 : Nat) : Lp Try.prog where
  f := 76
  key := 3
  S := formS (fun F M => some ()) (fun _ => spcF k0) (fun _ => rdM T k0) (fun _ => lim T ∧ k0 ≤ T.length) (fun _ => .leaf (.exit 0, spcF k0, rdM T (skp T k0 : Nat))) (true :: false :: false :: true :: (ff20 []))
  one := by kernel_rfl
  ok := formS_ok fun _ ⟨h1, h2⟩ => by
    refine ⟨_, (Sy.spc_scan T h1 k0 k0 h2).mono fun ex F M hg => ?_⟩
    obtain ⟨rfl, rfl, rfl⟩ := hg
    rfl
end Sy
theorem Sy.spc_t (T : List TokV) (hl : lim T) (k0 : Nat) (h1 : k0 ≤ T.length) : CallTo Try.prog 76 [.ptr 0 0] (rdM T k0) fun v M' => v = boo (!leI (skp T k0 : Nat) k0) ∧ M' = rdM T (skp T k0 : Nat) :=
  to (G := fun r => r.1 = boo (!leI (skp T k0 : Nat) k0) ∧ r.2 = rdM T (skp T k0 : Nat)) [] [lpSpc T k0] 400 30 .done (let e1 := (some (int ((k0 : Nat) : Int))); let e2 := (@AV.view (T).length 3 (fun y0 => (fun y1 => (@AV.lit ([(@Value.int IntKind.i64 ((T.getD y0 tok0)).kind), (@Value.string ((T.getD y0 tok0)).text), (@Value.int IntKind.i64 ((T.getD y0 tok0)).n)].getD y1 (@Value.tuple (@Array.mk _ []))))))); let e3 := (@Mem.mk 1 0 [(some (@Blk.mk [e2, (int ((k0 : Nat) : Int))] 63 none))]); (.need (@isSo (@And (((some (@AV.ptr 0 0)) :: none :: none :: e1 :: (nn20 [])) = ((some (@AV.ptr 0 0)) :: none :: none :: e1 :: (nn20 []))) (e3 = e3))) (.need (@isSo (@And (@lim T) (k0 ≤ (T).length))) (.leaf ((boo (!(leI (((@skp T k0) : Nat) : Int) ((k0 : Nat) : Int)))), (@Mem.mk 1 0 [(some (@Blk.mk [e2, (int (((@skp T k0) : Nat) : Int))] 63 none))])))))) (by kernel_rfl) (need_so ⟨rfl, rfl⟩ (need_so ⟨hl, h1⟩ ⟨rfl, rfl⟩))
def skI (T : List TokV) (a : Int) : Int := (skp T a.toNat : Nat)
theorem skI_le {T : List TokV} {a : Int} (h0 : 0 ≤ a) (h1 : a ≤ T.length) : a ≤ skI T a ∧ skI T a ≤ T.length := by
  have := skp_le T a.toNat (by omega)
  unfold skI
  omega
namespace Sy
structure RdX where
  rb : Nat
  a : Int
  rest : List AV
noncomputable def rdGet (args : List AV) (M : Mem) : Option RdX := match args with
  | .ptr rb 0 :: rest => match M.get rb with
    | some ⟨[_, .lit (.int .i64 a)], _, none⟩ => some ⟨rb, a, rest⟩
    | _ => none
  | _ => none
noncomputable def conR {Y : Type} (T : List TokV) (f : FuncId) (get : List AV → Option Y) (args0 : Y → List AV) (v0 : Int → Y → AV) (at2 : Int → Y → Int) (C : Int → Y → Prop) (h : ∀ a y, C a y → (Frees (args0 y) ∧ Free (v0 a y)) ∧ CallTo Try.prog f (.ptr 0 0 :: args0 y) (rdM T a) fun v M' => Frz true 1 M' v (v0 a y) ∧ M'.get 0 = some (rdB T (at2 a y))) : Con Try.prog where
  f := f
  run := fun args M => match rdGet args M with
    | some x => match get x.rest with
      | some y => some (v0 x.a y, M.put x.rb (some (rdB T (at2 x.a y))))
      | none => none
    | none => none
  ob := fun args M => match rdGet args M with
    | some x => match get x.rest with
      | some y => some (isSo (M.get x.rb = some (rdB T x.a) ∧ x.rest = args0 y ∧ C x.a y))
      | none => none
    | none => none
  ok := fun args M v M' hr hob => by
    cases hg : rdGet args M with
    | none => rw [hg] at hr; cases hr
    | some x =>
      rw [hg] at hr hob
      cases hy : get x.rest with
      | none => simp only [hy] at hr; cases hr
      | some y =>
        simp only [hy] at hr hob
        simp at hr
        obtain ⟨rfl, rfl⟩ := hr
        have h1 := hob _ rfl
        rw [isSo_t] at h1
        obtain ⟨hb, hrest, hC⟩ := h1
        have e : args = .ptr x.rb 0 :: x.rest := by
          unfold rdGet at hg
          split at hg
          · split at hg
            · simp at hg; subst hg; rfl
            · cases hg
          · cases hg
        obtain ⟨⟨hf, hv⟩, h2⟩ := h x.a y hC
        refine ⟨Grow.put _ _ _, ?_⟩
        rw [e, hrest]
        refine CallTo.frame1 (B0 := rdB T x.a) (B := rdB T x.a) (args1 := .ptr 0 0 :: args0 y) (h2.mono fun v M' ⟨q1, q2⟩ => ⟨q1, _, q2, rfl, Frz.free _ _ (kv_free T), Frz.lit _ _ _ _, trivial⟩) ⟨⟨rfl, rfl⟩, RenVs.free _ hf⟩ hb ⟨rfl, ⟨RenV.free _ (kv_free T), rfl, trivial⟩, trivial⟩ rfl rfl rfl ⟨kv_free T, trivial, trivial⟩ hv
def InT (T : List TokV) (a : Int) : Prop := (0 ≤ a ∧ a ≤ T.length) ∧ lim T
noncomputable abbrev cSpc (T : List TokV) : Con Try.prog := conR T 76 (fun r => match r with | [] => some () | _ => none) (fun _ => []) (fun a _ => boo (!leI (skI T a) a)) (fun a _ => skI T a) (fun a _ => InT T a) fun a _ h => by
  obtain ⟨k, rfl⟩ := Int.eq_ofNat_of_zero_le h.1.1
  refine ⟨⟨trivial, trivial⟩, (spc_t T h.2 k (by have := h.1.2; omega)).mono fun v M' ⟨q1, q2⟩ => ?_⟩
  subst q1 q2
  exact ⟨Frz.lit _ _ _ _, rfl⟩
end Sy
namespace Sy
abbrev strC (l : List ByteArray) : Nat → Nat → AV := fun i j => .lit ((strCells (l.getD i ⟨#[]⟩)).getD j undef)
abbrev tstC (l : List TestV) : Nat → Nat → AV := fun i j => .lit ((TestV.cells (l.getD i testNone)).getD j undef)
abbrev zB : Blk := ⟨[int 0, .lit (.string ⟨⟨[]⟩⟩), .lit (.string ⟨⟨[]⟩⟩), .lit (.slice none 0 0), .lit (.slice none 0 0), int 0], 55, none⟩
abbrev pM (T : List TokV) (a : Int) (p : PartV) : Mem := ⟨5, 0, [some ⟨[], 79, some ⟨p.tests.length, 3, tstC p.tests⟩⟩, some ⟨[], 9, some ⟨p.cls.length, 1, strC p.cls⟩⟩, some ⟨[int p.comb, .lit (.string p.tag), .lit (.string p.id), .own 3 p.cls.length 1, .own 4 p.tests.length 3, int p.states], 55, none⟩, some zB, some (rdB T a)]⟩
end Sy
end Go.Proofs.Ytconlneohilnmaa
namespace Go.Proofs.Ytconlneohilnmaa
open Go Go.RowKit Pl Sy
def kindI (T : List TokV) (a : Int) : Int := if leI T.length a then 0 else (T.getD a.toNat tok0).kind
def takeB (T : List TokV) (a k : Int) : Bool := eqI (kindI T a) k
def takeS (T : List TokV) (a k : Int) : ByteArray := if takeB T a k then (T.getD a.toNat tok0).text else ⟨⟨[]⟩⟩
def takeA (T : List TokV) (a k : Int) : Int := if takeB T a k then a + 1 else a
def signB (T : List TokV) (a : Int) (s : ByteArray) : Bool := eqI (kindI T a) 19 && bytesEq (T.getD a.toNat tok0).text.data.toList s.data.toList
def signA (T : List TokV) (a : Int) (s : ByteArray) : Int := if signB T a s then a + 1 else a
theorem kindI_in {T : List TokV} {a : Int} (h0 : 0 ≤ a) (h : kindI T a ≠ 0) : a < T.length := by
  unfold kindI at h
  split at h
  · exact absurd rfl h
  · rename_i h1
    rw [Bool.not_eq_true, leI_f] at h1
    omega
theorem takeA_in {T : List TokV} {a k : Int} (h : InT T a) (hk : k ≠ 0) : InT T (takeA T a k) := by
  obtain ⟨⟨h0, h1⟩, h2⟩ := h
  refine ⟨?_, h2⟩
  unfold takeA
  split
  · rename_i h3
    have := kindI_in h0 (T := T) (by unfold takeB at h3; rw [eqI_t] at h3; omega)
    omega
  · exact ⟨h0, h1⟩
theorem signA_in {T : List TokV} {a : Int} {s : ByteArray} (h : InT T a) : InT T (signA T a s) := by
  obtain ⟨⟨h0, h1⟩, h2⟩ := h
  refine ⟨?_, h2⟩
  unfold signA
  split
  · rename_i h3
    have := kindI_in h0 (T := T) (by unfold signB at h3; rw [Bool.and_eq_true, eqI_t] at h3; omega)
    omega
  · exact ⟨h0, h1⟩
theorem skI_in {T : List TokV} {a : Int} (h : InT T a) : InT T (skI T a) := by
  have := skI_le h.1.1 h.1.2
  exact ⟨⟨by have := h.1.1; omega, this.2⟩, h.2⟩
theorem Sy.kind_t (T : List TokV) (a : Int) (h : InT T a) : CallTo Try.prog 90 [.ptr 0 0] (rdM T a) fun v M' => v = int (kindI T a) ∧ M' = rdM T a :=
  to (G := fun r => r.1 = int (kindI T a) ∧ r.2 = rdM T a) [] [] 400 30 (.br .done (.yes .done)) (.fork (leI (((T).length : Nat) : Int) a) (.leaf ((int (0 : Int)), (@Mem.mk 1 0 [(some (@Blk.mk [(@AV.view (T).length 3 (fun x220566 => (fun x739130 => (@AV.lit ([(@Value.int IntKind.i64 ((T.getD x220566 tok0)).kind), (@Value.string ((T.getD x220566 tok0)).text), (@Value.int IntKind.i64 ((T.getD x220566 tok0)).n)].getD x739130 (@Value.tuple (@Array.mk _ []))))))), (int a)] 63 none))]))) (.need (@inR a (T).length) (.leaf ((int ((T.getD (a).toNat tok0)).kind), (@Mem.mk 1 0 [(some (@Blk.mk [(@AV.view (T).length 3 (fun x880349 => (fun x98997 => (@AV.lit ([(@Value.int IntKind.i64 ((T.getD x880349 tok0)).kind), (@Value.string ((T.getD x880349 tok0)).text), (@Value.int IntKind.i64 ((T.getD x880349 tok0)).n)].getD x98997 (@Value.tuple (@Array.mk _ []))))))), (int a)] 63 none))]))))) (by kernel_rfl) (by
    obtain ⟨⟨h0, h1⟩, h2⟩ := h
    unfold kindI
    refine fork_ok (fun h => ?_) (fun h => need_t (by simp only [Bool.not_eq_true', Bool.not_eq_false', leI_t, leI_f, eqI_t, eqI_f, inR_t, inR_f, isSo_t, isSo_f] at h; rw [inR_t]; omega) ?_)
    · rw [if_pos h]; exact ⟨rfl, rfl⟩
    · rw [if_neg (by rw [h]; simp)]; exact ⟨rfl, rfl⟩)
noncomputable abbrev Sy.cKind (T : List TokV) : Con Try.prog := conR T 90 (fun r => match r with | [] => some () | _ => none) (fun _ => []) (fun a _ => int (kindI T a)) (fun a _ => a) (fun a _ => InT T a) fun a _ h => by
  refine ⟨⟨trivial, trivial⟩, (kind_t T a h).mono fun v M' ⟨q1, q2⟩ => ?_⟩
  subst q1 q2
  exact ⟨Frz.lit _ _ _ _, rfl⟩
theorem Sy.take_t (T : List TokV) (a k : Int) (h : InT T a) (hk : k ≠ 0) : CallTo Try.prog 73 [.ptr 0 0, int k] (rdM T a) fun v M' => v = .tup [.lit (.string (takeS T a k)), boo (takeB T a k)] ∧ M'.get 0 = some (rdB T (takeA T a k)) :=
  to (G := fun r => r.1 = .tup [.lit (.string (takeS T a k)), boo (takeB T a k)] ∧ r.2.get 0 = some (rdB T (takeA T a k))) [cKind T] [] 400 30 (.yes (.br .done (.yes .done))) (let e1 := (@AV.view (T).length 3 (fun y0 => (fun y1 => (@AV.lit ([(@Value.int IntKind.i64 ((T.getD y0 tok0)).kind), (@Value.string ((T.getD y0 tok0)).text), (@Value.int IntKind.i64 ((T.getD y0 tok0)).n)].getD y1 (@Value.tuple (@Array.mk _ []))))))); let e2 := (some (@Blk.mk [e1, (int a)] 63 none)); let e3 := (w64 ((w64 (a + (1 : Int))) - (1 : Int))); (.need (@isSo (@And (e2 = e2) (@And (([] : List AV) = []) (@InT T a)))) (.fork (!(eqI (@kindI T a) k)) (.leaf ((@AV.tup [(@AV.lit (@Value.string (@ByteArray.mk (@Array.mk _ [])))), (boo false)]), (@Mem.mk 1 (0 + 1) [e2]))) (.need (@inR e3 (T).length) (.leaf ((@AV.tup [(@AV.lit (@Value.string ((T.getD (e3).toNat tok0)).text)), (boo true)]), (@Mem.mk 1 ((0 + 1) + 1) [(some (@Blk.mk (e1 :: [(int (w64 (a + (1 : Int))))]) 63 none))]))))))) (by kernel_rfl) (by
    refine need_so ⟨rfl, rfl, h⟩ ?_
    obtain ⟨⟨h0, h1⟩, h2⟩ := h
    have hl : T.length ≤ 17592186044416 := h2
    refine fork_ok (fun h3 => ?_) (fun h3 => ?_)
    · have e : takeB T a k = false := by unfold takeB; simpa using h3
      unfold takeS takeA
      rw [e]
      exact ⟨rfl, rfl⟩
    · have e : takeB T a k = true := by unfold takeB; simpa using h3
      have h4 := kindI_in h0 (T := T) (by unfold takeB at e; rw [eqI_t] at e; omega)
      have e1 : w64 (a + 1) = a + 1 := w64_in (by omega)
      have e2 : w64 (a + 1 - 1) = a := by rw [show a + 1 - 1 = a by omega]; exact w64_in (by omega)
      rw [e1, e2]
      refine need_t (by rw [inR_t]; omega) ?_
      unfold takeS takeA
      rw [e]
      exact ⟨rfl, rfl⟩)
noncomputable abbrev Sy.cTake (T : List TokV) : Con Try.prog := conR T 73 (fun r => match r with | [.lit (.int .i64 k)] => some k | _ => none) (fun k => [int k]) (fun a k => .tup [.lit (.string (takeS T a k)), boo (takeB T a k)]) (fun a k => takeA T a k) (fun a k => InT T a ∧ k ≠ 0) fun a k h => by
  refine ⟨⟨⟨trivial, trivial⟩, ⟨trivial, trivial, trivial⟩⟩, (take_t T a k h.1 h.2).mono fun v M' ⟨q1, q2⟩ => ?_⟩
  subst q1
  exact ⟨Frz.free _ _ ⟨trivial, trivial, trivial⟩, q2⟩
theorem Sy.sign_t (T : List TokV) (a : Int) (s : ByteArray) (h : InT T a) : CallTo Try.prog 74 [.ptr 0 0, .lit (.string s)] (rdM T a) fun v M' => v = boo (signB T a s) ∧ M'.get 0 = some (rdB T (signA T a s)) :=
  to (G := fun r => r.1 = boo (signB T a s) ∧ r.2.get 0 = some (rdB T (signA T a s))) [cKind T] [] 400 30 (.yes (.br (.auto 7 (.yes (.auto 4 (.br .done .done)))) (.auto 13 .done))) (let e1 := (@AV.view (T).length 3 (fun y0 => (fun y1 => (@AV.lit ([(@Value.int IntKind.i64 ((T.getD y0 tok0)).kind), (@Value.string ((T.getD y0 tok0)).text), (@Value.int IntKind.i64 ((T.getD y0 tok0)).n)].getD y1 (@Value.tuple (@Array.mk _ []))))))); let e2 := (some (@Blk.mk [e1, (int a)] 63 none)); (.need (@isSo (@And (e2 = e2) (@And (([] : List AV) = []) (@InT T a)))) (.fork (eqI (@kindI T a) (19 : Int)) (.need (@inR a (T).length) (.fork (@bytesEq (@Array.toList _ (@ByteArray.data ((T.getD (a).toNat tok0)).text)) (@Array.toList _ (@ByteArray.data s))) (.leaf ((boo true), (@Mem.mk 1 ((0 + 1) + 1) [(some (@Blk.mk (e1 :: [(int (w64 (a + (1 : Int))))]) 63 none))]))) (.leaf ((boo false), (@Mem.mk 1 (0 + 1) [e2]))))) (.leaf ((boo false), (@Mem.mk 1 (0 + 1) [e2])))))) (by kernel_rfl) (by
    refine need_so ⟨rfl, rfl, h⟩ ?_
    obtain ⟨⟨h0, h1⟩, h2⟩ := h
    have hl : T.length ≤ 17592186044416 := h2
    unfold signA signB
    refine fork_ok (fun h3 => ?_) (fun h3 => ?_)
    · have h4 := kindI_in h0 (T := T) (by rw [eqI_t] at h3; omega)
      have e1 : w64 (a + 1) = a + 1 := w64_in (by omega)
      rw [h3]
      refine need_t (by rw [inR_t]; omega) (fork_ok (fun h5 => ?_) (fun h5 => ?_))
      · rw [h5, e1]
        exact ⟨rfl, rfl⟩
      · rw [h5]
        exact ⟨rfl, rfl⟩
    · rw [h3]
      exact ⟨rfl, rfl⟩)
noncomputable abbrev Sy.cSign (T : List TokV) : Con Try.prog := conR T 74 (fun r => match r with | [.lit (.string s)] => some s | _ => none) (fun s => [.lit (.string s)]) (fun a s => boo (signB T a s)) (fun a s => signA T a s) (fun a _ => InT T a) fun a s h => by
  refine ⟨⟨⟨trivial, trivial⟩, trivial⟩, (sign_t T a s h).mono fun v M' ⟨q1, q2⟩ => ?_⟩
  subst q1
  exact ⟨Frz.lit _ _ _ _, q2⟩
def valB (T : List TokV) (a : Int) : Bool := takeB T (skI T a) 1 || takeB T (takeA T (skI T a) 1) 5
def valS (T : List TokV) (a : Int) : ByteArray := if takeB T (skI T a) 1 then takeS T (skI T a) 1 else takeS T (takeA T (skI T a) 1) 5
def valA (T : List TokV) (a : Int) : Int := if takeB T (skI T a) 1 then takeA T (skI T a) 1 else takeA T (takeA T (skI T a) 1) 5
theorem valA_in {T : List TokV} {a : Int} (h : InT T a) : InT T (valA T a) := by
  unfold valA
  split
  · exact takeA_in (skI_in h) (by decide)
  · exact takeA_in (takeA_in (skI_in h) (by decide)) (by decide)
theorem Sy.value_t (T : List TokV) (a : Int) (h : InT T a) : CallTo Try.prog 96 [.ptr 0 0] (rdM T a) fun v M' => v = .tup [.lit (.string (valS T a)), boo (valB T a)] ∧ M'.get 0 = some (rdB T (valA T a)) :=
  to (G := fun r => r.1 = .tup [.lit (.string (valS T a)), boo (valB T a)] ∧ r.2.get 0 = some (rdB T (valA T a))) [cSpc T, cTake T] [] 400 30 (.yes (.yes (.br .done (.yes .done)))) (let e1 := (@AV.view (T).length 3 (fun y0 => (fun y1 => (@AV.lit ([(@Value.int IntKind.i64 ((T.getD y0 tok0)).kind), (@Value.string ((T.getD y0 tok0)).text), (@Value.int IntKind.i64 ((T.getD y0 tok0)).n)].getD y1 (@Value.tuple (@Array.mk _ []))))))); let e2 := (some (@Blk.mk [e1, (int a)] 63 none)); let e3 := (some (@Blk.mk [e1, (int (@skI T a))] 63 none)); let e4 := (@takeA T (@skI T a) (1 : Int)); let e5 := (some (@Blk.mk [e1, (int e4)] 63 none)); (.need (@isSo (@And (e2 = e2) (@And (([] : List AV) = []) (@InT T a)))) (.need (@isSo (@And (e3 = e3) (@And ([(int (1 : Int))] = [(int (1 : Int))]) (@And (@InT T (@skI T a)) (@Not ((1 : Int) = (0 : Int))))))) (.fork (@takeB T (@skI T a) (1 : Int)) (.leaf ((@AV.tup [(@AV.lit (@Value.string (@takeS T (@skI T a) (1 : Int)))), (boo true)]), (@Mem.mk 1 ((0 + 1) + 1) [e5]))) (.need (@isSo (@And (e5 = e5) (@And ([(int (5 : Int))] = [(int (5 : Int))]) (@And (@InT T e4) (@Not ((5 : Int) = (0 : Int))))))) (.leaf ((@AV.tup [(@AV.lit (@Value.string (@takeS T e4 (5 : Int)))), (boo (@takeB T e4 (5 : Int)))]), (@Mem.mk 1 (((0 + 1) + 1) + 1) [(some (@Blk.mk [e1, (int (@takeA T e4 (5 : Int)))] 63 none))])))))))) (by kernel_rfl) (by
    refine need_so ⟨rfl, rfl, h⟩ (need_so ⟨rfl, rfl, skI_in h, by decide⟩ ?_)
    unfold valA valB valS
    refine fork_ok (fun h3 => ?_) (fun h3 => need_so ⟨rfl, rfl, takeA_in (skI_in h) (by decide), by decide⟩ ?_)
    · rw [h3]
      exact ⟨rfl, rfl⟩
    · rw [h3]
      exact ⟨rfl, rfl⟩)
noncomputable abbrev Sy.cVal (T : List TokV) : Con Try.prog := conR T 96 (fun r => match r with | [] => some () | _ => none) (fun _ => []) (fun a _ => .tup [.lit (.string (valS T a)), boo (valB T a)]) (fun a _ => valA T a) (fun a _ => InT T a) fun a k h => by
  refine ⟨⟨trivial, ⟨trivial, trivial, trivial⟩⟩, (value_t T a h).mono fun v M' ⟨q1, q2⟩ => ?_⟩
  subst q1
  exact ⟨Frz.free _ _ ⟨trivial, trivial, trivial⟩, q2⟩
def cmB1 (T : List TokV) (a : Int) : Int := signA T (skI T a) ⟨⟨[62]⟩⟩
def cmB2 (T : List TokV) (a : Int) : Int := signA T (cmB1 T a) ⟨⟨[43]⟩⟩
def cmB3 (T : List TokV) (a : Int) : Int := signA T (cmB2 T a) ⟨⟨[126]⟩⟩
def cmbI (T : List TokV) (a : Int) : Int := if signB T (skI T a) ⟨⟨[62]⟩⟩ then 2 else if signB T (cmB1 T a) ⟨⟨[43]⟩⟩ then 3 else if signB T (cmB2 T a) ⟨⟨[126]⟩⟩ then 4 else if leI (skI T a) a then 0 else 1
def cmbA (T : List TokV) (a : Int) : Int := if signB T (skI T a) ⟨⟨[62]⟩⟩ then skI T (cmB1 T a) else if signB T (cmB1 T a) ⟨⟨[43]⟩⟩ then skI T (cmB2 T a) else if signB T (cmB2 T a) ⟨⟨[126]⟩⟩ then skI T (cmB3 T a) else cmB3 T a
theorem cmbA_in {T : List TokV} {a : Int} (h : InT T a) : InT T (cmbA T a) := by
  have h1 : InT T (cmB1 T a) := signA_in (skI_in h)
  have h2 : InT T (cmB2 T a) := signA_in h1
  have h3 : InT T (cmB3 T a) := signA_in h2
  unfold cmbA
  repeat' split
  · exact skI_in h1
  · exact skI_in h2
  · exact skI_in h3
  · exact h3
theorem Sy.rcomb_t (T : List TokV) (a : Int) (h : InT T a) : CallTo Try.prog 47 [.ptr 0 0] (rdM T a) fun v M' => v = int (cmbI T a) ∧ M'.get 0 = some (rdB T (cmbA T a)) :=
  to (G := fun r => r.1 = int (cmbI T a) ∧ r.2.get 0 = some (rdB T (cmbA T a))) [cSpc T, cSign T] [] 400 30 (.yes (.auto 0 (.yes (.br (.yes .done) (.auto 0 (.yes (.br (.yes .done) (.auto 0 (.yes (.br (.yes .done) (.auto 0 (.br .done .done)))))))))))) (let e1 := (@AV.view (T).length 3 (fun y0 => (fun y1 => (@AV.lit ([(@Value.int IntKind.i64 ((T.getD y0 tok0)).kind), (@Value.string ((T.getD y0 tok0)).text), (@Value.int IntKind.i64 ((T.getD y0 tok0)).n)].getD y1 (@Value.tuple (@Array.mk _ []))))))); let e2 := (some (@Blk.mk [e1, (int a)] 63 none)); let e3 := (([] : List AV) = []); let e4 := (some (@Blk.mk [e1, (int (@skI T a))] 63 none)); let e5 := (@ByteArray.mk (@Array.mk _ [(62 : UInt8)])); let e6 := (@AV.lit (@Value.string e5)); let e7 := (@signA T (@skI T a) e5); let e8 := (some (@Blk.mk [e1, (int e7)] 63 none)); let e9 := (@ByteArray.mk (@Array.mk _ [(43 : UInt8)])); let e10 := (@AV.lit (@Value.string e9)); let e11 := (@ByteArray.mk (@Array.mk _ [(126 : UInt8)])); let e12 := (@AV.lit (@Value.string e11)); let e13 := (some (@Blk.mk (e6 :: e10 :: e12 :: (@List.drop _ 3 (e6 :: e10 :: (@List.drop _ 2 (e6 :: (@List.drop _ 1 (@List.map _ _ AV.lit (@Array.toList _ (@Array.mk _ [(@List.get _ (@Array.toList _ (@Array.mk _ [(@Value.string (@ByteArray.mk (@Array.mk _ [])))])) (@Fin.mk _ 0 (@Nat.le_of_ble_eq_true _ _ (@Eq.refl _ true)))), (@List.get _ (@Array.toList _ (@Array.mk _ [(@Value.string (@ByteArray.mk (@Array.mk _ [])))])) (@Fin.mk _ 0 (@Nat.le_of_ble_eq_true _ _ (@Eq.refl _ true)))), (@List.get _ (@Array.toList _ (@Array.mk _ [(@Value.string (@ByteArray.mk (@Array.mk _ [])))])) (@Fin.mk _ 0 (@Nat.le_of_ble_eq_true _ _ (@Eq.refl _ true))))]))))))))) 9 none)); let e14 := (@signA T e7 e9); let e15 := (some (@Blk.mk [e1, (int e14)] 63 none)); let e16 := ((((0 + 1) + 1) + 1) + 1); let e17 := (@signA T e14 e11); let e18 := (some (@Blk.mk [e1, (int e17)] 63 none)); let e19 := (@Mem.mk (1 + 1) e16 (e13 :: [e18])); (.need (@isSo (@And (e2 = e2) (@And e3 (@InT T a)))) (.need (@isSo (@And (e4 = e4) (@And ([e6] = [e6]) (@InT T (@skI T a))))) (.fork (@signB T (@skI T a) e5) (.need (@isSo (@And (e8 = e8) (@And e3 (@InT T e7)))) (.leaf ((int (2 : Int)), (@Mem.mk (1 + 1) (((0 + 1) + 1) + 1) (e13 :: [(some (@Blk.mk [e1, (int (@skI T e7))] 63 none))]))))) (.need (@isSo (@And (e8 = e8) (@And ([e10] = [e10]) (@InT T e7)))) (.fork (@signB T e7 e9) (.need (@isSo (@And (e15 = e15) (@And e3 (@InT T e14)))) (.leaf ((int (3 : Int)), (@Mem.mk (1 + 1) e16 (e13 :: [(some (@Blk.mk [e1, (int (@skI T e14))] 63 none))]))))) (.need (@isSo (@And (e15 = e15) (@And ([e12] = [e12]) (@InT T e14)))) (.fork (@signB T e14 e11) (.need (@isSo (@And (e18 = e18) (@And e3 (@InT T e17)))) (.leaf ((int (4 : Int)), (@Mem.mk (1 + 1) (e16 + 1) (e13 :: [(some (@Blk.mk [e1, (int (@skI T e17))] 63 none))]))))) (.fork (!(leI (@skI T a) a)) (.leaf ((int (1 : Int)), e19)) (.leaf ((int (0 : Int)), e19))))))))))) (by kernel_rfl) (by
    have h1 : InT T (cmB1 T a) := signA_in (skI_in h)
    have h2 : InT T (cmB2 T a) := signA_in h1
    have h3 : InT T (cmB3 T a) := signA_in h2
    refine need_so ⟨rfl, rfl, h⟩ (need_so ⟨rfl, rfl, skI_in h⟩ ?_)
    unfold cmbI cmbA
    refine fork_ok (fun q1 => need_so ⟨rfl, rfl, h1⟩ ?_) (fun q1 => need_so ⟨rfl, rfl, h1⟩ (fork_ok (fun q2 => need_so ⟨rfl, rfl, h2⟩ ?_) (fun q2 => need_so ⟨rfl, rfl, h2⟩ (fork_ok (fun q3 => need_so ⟨rfl, rfl, h3⟩ ?_) (fun q3 => fork_ok (fun q4 => ?_) (fun q4 => ?_))))))
    · rw [q1]; exact ⟨rfl, rfl⟩
    · rw [q1, show signB T (cmB1 T a) ⟨⟨[43]⟩⟩ = true from q2]; exact ⟨rfl, rfl⟩
    · rw [q1, show signB T (cmB1 T a) ⟨⟨[43]⟩⟩ = false from q2, show signB T (cmB2 T a) ⟨⟨[126]⟩⟩ = true from q3]; exact ⟨rfl, rfl⟩
    · rw [q1, show signB T (cmB1 T a) ⟨⟨[43]⟩⟩ = false from q2, show signB T (cmB2 T a) ⟨⟨[126]⟩⟩ = false from q3]
      have q4 : leI (skI T a) a = false := by simpa using q4
      rw [q4]; exact ⟨rfl, rfl⟩
    · rw [q1, show signB T (cmB1 T a) ⟨⟨[43]⟩⟩ = false from q2, show signB T (cmB2 T a) ⟨⟨[126]⟩⟩ = false from q3]
      have q4 : leI (skI T a) a = true := by simpa using q4
      rw [q4]; exact ⟨rfl, rfl⟩)
noncomputable abbrev Sy.cRComb (T : List TokV) : Con Try.prog := conR T 47 (fun r => match r with | [] => some () | _ => none) (fun _ => []) (fun a _ => int (cmbI T a)) (fun a _ => cmbA T a) (fun a _ => InT T a) fun a k h => by
  refine ⟨⟨trivial, trivial⟩, (rcomb_t T a h).mono fun v M' ⟨q1, q2⟩ => ?_⟩
  subst q1
  exact ⟨Frz.lit _ _ _ _, q2⟩
end Go.Proofs.Ytconlneohilnmaa
namespace Go.Proofs.Ytconlneohilnmaa
open Go Go.RowKit Pl Sy
noncomputable abbrev Sy.cWrongM (p : PartV) : Con Try.prog := atM 37 (fun _ _ => some ()) (fun _ => [partG p]) (fun _ => boo (wrongB p)) (fun _ => PartOk p) fun _ h => ⟨⟨_, rfl⟩, wrong_t p h⟩
namespace Sy
abbrev markF : FuncId := 75
abbrev prtF (f0 : Int) : Fr := (some (.ptr 0 0) :: none :: none :: none :: some (.ptr 1 0) :: some ((boo false)) :: some (.ptr 2 0) :: some (int f0) :: none :: none :: some (.fn (.func markF) [.ptr 0 0] []) :: (nn42 []))
abbrev prtE (f0 : Int) (ok : Bool) : Fr := (some (.ptr 0 0) :: none :: none :: none :: some (.ptr 1 0) :: some (boo ok) :: some (.ptr 2 0) :: some (int f0) :: none :: none :: some (.fn (.func markF) [.ptr 0 0] []) :: (nn42 []))
def RG (T : Nat) (G : Ex → Fr → Mem → Prop) (ex : Ex) (F : Fr) (M : Mem) : Prop := ∃ F2 M2 l, l.take T = List.range T ∧ RenF (nm l) F F2 ∧ RenM (nm l) M M2 ∧ G ex F2 M2
theorem LoopToT.out {T : Nat} {P : Program} {b : Code} {n : Nat} {F : Fr} {M : Mem} {G : Ex → Fr → Mem → Prop} (h : LoopToT T P b n F M (RG T G)) : LoopToT T P b n F M G := fun w0 ρ a w Q hF hW hQ => h w0 ρ a w Q hF hW fun ex F' M' ρ' a' w' ⟨F2, M2, l, h0, r1, r2, hg⟩ q1 q2 q3 => by
  have id := nm_id h0
  refine hQ ex F2 M2 (pull (nm l) ρ') a' w' hg ⟨fun b g hb => ?_, fun b hb => ?_, q1.still, q1.base, q1.mine⟩ (r1.fr q2) (q3.ren r2)
  · have hlt : b < T := by
      simp only [Sy.cutR] at hb
      split at hb
      · assumption
      · cases hb
    rw [pull_blk (id b hlt)]
    exact q1.blk b g hb
  · have hlt : b < T := by
      simp only [Sy.cutR] at hb
      split at hb
      · assumption
      · cases hb
    rw [pull_nil (id b hlt)]
    exact q1.nil b hb
def RowsIs {α : Type} (g : α → List Value) (d : α) (m n : Nat) (c : Nat → Nat → AV) (l : List α) : Prop := n = l.length ∧ ∀ i j, i < n → j < m → c i j = .lit ((g (l.getD i d)).getD j undef)
theorem RowsIs.base {α : Type} (g : α → List Value) (d : α) (m : Nat) (l : List α) : RowsIs g d m l.length (fun i j => .lit ((g (l.getD i d)).getD j undef)) l := ⟨rfl, fun _ _ _ _ => rfl⟩
theorem RowsIs.app1 {α : Type} {g : α → List Value} {d : α} {m n : Nat} {c c' : Nat → Nat → AV} {l : List α} (x : α) (h : RowsIs g d m n c l) (hx : ∀ j, j < m → c' 0 j = .lit ((g x).getD j undef)) : RowsIs g d m (n + 1) (appc n c c') (l ++ [x]) := ⟨by rw [h.1]; simp, fun i j hi hj => by
  by_cases hlt : i < n
  · rw [appc_lt hlt, h.2 i j hlt hj]
    have : (l ++ [x]).getD i d = l.getD i d := by
      have := h.1
      simp only [List.getD_eq_getElem?_getD]
      rw [List.getElem?_append_left (by omega)]
    rw [this]
  · have e : i = n := by omega
    subst e
    rw [appc_ge (Nat.le_refl _), Nat.sub_self, hx j hj]
    have : (l ++ [x]).getD i d = x := by
      have := h.1
      simp only [List.getD_eq_getElem?_getD]
      rw [List.getElem?_append_right (by omega), this, Nat.sub_self]; rfl
    rw [this]⟩
abbrev ptBn (p : PartV) (b1 n1 b2 n2 : Nat) : Blk := ⟨[int p.comb, .lit (.string p.tag), .lit (.string p.id), .own b1 n1 1, .own b2 n2 3, int p.states], 55, none⟩
abbrev ptB (p : PartV) : Blk := ptBn p 3 p.cls.length 4 p.tests.length
abbrev qRM (T : List TokV) (a : Int) (R : Blk) (p : PartV) : Mem := ⟨5, 0, [some ⟨[], 79, some ⟨p.tests.length, 3, tstC p.tests⟩⟩, some ⟨[], 9, some ⟨p.cls.length, 1, strC p.cls⟩⟩, some (ptB p), some R, some (rdB T a)]⟩
theorem qRM_ren {M : Mem} {l : List Nat} {b1 b2 n1 n2 : Nat} {c1 c2 : Nat → Nat → AV} {T : List TokV} {a a' : Int} {R R' : Blk} {p : PartV} (hl : l = [0, 1, 2, b1, b2]) (hn : b1 ≠ b2 ∧ 3 ≤ b1 ∧ 3 ≤ b2) (h0 : M.get 0 = some (rdB T a')) (ha : a' = a) (h1 : M.get 1 = some R') (hR : RenB (nm l) R' R) (h2 : M.get 2 = some (ptBn p b1 n1 b2 n2)) (h3 : M.get b1 = some ⟨[], 9, some ⟨n1, 1, c1⟩⟩) (h4 : M.get b2 = some ⟨[], 79, some ⟨n2, 3, c2⟩⟩) (e1 : RowsIs strCells ⟨#[]⟩ 1 n1 c1 p.cls) (e2 : RowsIs TestV.cells testNone 3 n2 c2 p.tests) : RenM (nm l) M (qRM T a R p) := by
  subst hl ha
  refine .of rfl rfl (by simp; omega) ⟨⟨b2, _, rfl, h4, rfl, trivial, e2.1.symm, rfl, fun i j hi hj => ?_⟩, ⟨b1, _, rfl, h3, rfl, trivial, e1.1.symm, rfl, fun i j hi hj => ?_⟩, ⟨2, _, rfl, h2, rfl, ⟨rfl, rfl, rfl, ⟨rfl, e1.1, rfl⟩, ⟨rfl, e2.1, rfl⟩, rfl, trivial⟩, trivial⟩, ⟨1, _, rfl, h1, hR⟩, ⟨0, _, rfl, h0, rfl, ⟨RenV.free _ (kv_free T), rfl, trivial⟩, trivial⟩, trivial⟩
  · show RenV _ (c2 i j) (tstC p.tests i j)
    rw [e2.2 i j (by have := e2.1; change i < p.tests.length at hi; omega) hj]; exact rfl
  · show RenV _ (c1 i j) (strC p.cls i j)
    rw [e1.2 i j (by have := e1.1; change i < p.cls.length at hi; omega) hj]; exact rfl
theorem zB_ren (σ : Nat → Option Nat) : RenB σ zB zB := ⟨rfl, ⟨rfl, rfl, rfl, rfl, rfl, rfl, trivial⟩, trivial⟩
theorem ptB_ren {p : PartV} {b1 n1 b2 n2 : Nat} (e1 : n1 = p.cls.length) (e2 : n2 = p.tests.length) : RenB (nm [0, 1, 2, b1, b2]) (ptBn p b1 n1 b2 n2) (ptB p) := ⟨rfl, ⟨rfl, rfl, rfl, ⟨rfl, e1, rfl⟩, ⟨rfl, e2, rfl⟩, rfl, trivial⟩, trivial⟩
theorem prtF_ren (f0 : Int) (b1 b2 : Nat) : RenF (nm [0, 1, 2, b1, b2]) (prtF f0) (prtF f0) := by
  simp [RenF, RenV, RenVs, nm]
theorem prtE_ren (f0 : Int) (ok : Bool) (b1 b2 : Nat) : RenF (nm [0, 1, 2, b1, b2]) (prtE f0 ok) (prtE f0 ok) := by
  simp [RenF, RenV, RenVs, nm]
end Sy
def ts1 (T : List TokV) (b : Int) : Int := skI T b
def ts2 (T : List TokV) (b : Int) : Int := skI T (takeA T (ts1 T b) 1)
def ts3 (T : List TokV) (b : Int) : Int := signA T (ts2 T b) ⟨⟨[61]⟩⟩
def ts4 (T : List TokV) (b : Int) : Int := skI T (valA T (ts3 T b))
def testM (T : List TokV) (b : Int) : Bool × TestV × Int :=
  if takeB T (ts1 T b) 1 = true then
    if signB T (ts2 T b) ⟨⟨[61]⟩⟩ = true then (valB T (ts3 T b) && takeB T (ts4 T b) 16, ⟨takeS T (ts1 T b) 1, true, valS T (ts3 T b)⟩, takeA T (ts4 T b) 16)
    else (takeB T (ts3 T b) 16, ⟨takeS T (ts1 T b) 1, false, ⟨⟨[]⟩⟩⟩, takeA T (ts3 T b) 16)
  else (false, ⟨takeS T (ts1 T b) 1, false, ⟨⟨[]⟩⟩⟩, takeA T (ts2 T b) 16)
def orSt (n : Int) (b : Nat) : Int := IntKind.i64.wrap (((Nat.lor (n % 18446744073709551616).toNat b) : Nat) : Int)
def mk1 (T : List TokV) (a : Int) : Int := takeA T a 4
def mk2 (T : List TokV) (a : Int) : Int := signA T (mk1 T a) ⟨⟨[46]⟩⟩
def mk3 (T : List TokV) (a : Int) : Int := takeA T (mk2 T a) 15
def mk4 (T : List TokV) (a : Int) : Int := takeA T (mk3 T a) 10
def isW (s t : ByteArray) : Bool := bytesEq s.data.toList t.data.toList
def markV (T : List TokV) (a : Int) (p : PartV) : Nat × PartV × Int :=
  if takeB T a 4 = true then
    if isW p.id ⟨⟨[]⟩⟩ = true then
      if nameL (takeS T a 4).data.toList = true then (2, { p with id := takeS T a 4 }, mk1 T a) else (0, { p with id := takeS T a 4 }, mk1 T a)
    else (0, { p with id := takeS T a 4 }, mk1 T a)
  else if signB T (mk1 T a) ⟨⟨[46]⟩⟩ = true then
    (if takeB T (mk2 T a) 1 = true then 2 else 0, { p with cls := p.cls ++ [takeS T (mk2 T a) 1] }, takeA T (mk2 T a) 1)
  else if takeB T (mk2 T a) 15 = true then
    (if (testM T (mk3 T a)).1 = true then 2 else 0, { p with tests := p.tests ++ [(testM T (mk3 T a)).2.1] }, (testM T (mk3 T a)).2.2)
  else if takeB T (mk3 T a) 10 = true then
    if isW (takeS T (mk4 T a) 1) wRoot = true then (if takeB T (mk4 T a) 1 = true then 2 else 0, { p with states := orSt p.states 1 }, takeA T (mk4 T a) 1)
    else if isW (takeS T (mk4 T a) 1) wFirst = true then (if takeB T (mk4 T a) 1 = true then 2 else 0, { p with states := orSt p.states 2 }, takeA T (mk4 T a) 1)
    else if isW (takeS T (mk4 T a) 1) wLast = true then (if takeB T (mk4 T a) 1 = true then 2 else 0, { p with states := orSt p.states 4 }, takeA T (mk4 T a) 1)
    else (0, p, takeA T (mk4 T a) 1)
  else (1, p, mk4 T a)
namespace Sy
def MarkC (T : List TokV) (f0 : Int) (m : Nat) (G : Ex → Fr → Mem → Prop) (x : Nat × PartV × Int) : Prop := match x.1 with
  | 2 => LoopToT 3 Try.prog (theBody Try.prog 46 8) m (prtF f0) (qRM T x.2.2 zB x.2.1) (RG 3 G)
  | 1 => G .ret (prtE f0 (!leI x.2.2 f0 && !wrongB x.2.1)) (qRM T x.2.2 (ptB x.2.1) x.2.1)
  | _ => G .ret (prtE f0 false) (qRM T x.2.2 (ptB x.2.1) x.2.1)
end Sy
theorem nt {b : Bool} (h : b = false) : ¬ b = true := by rw [h]; simp
theorem takeS_le {T : List TokV} (hx : ∀ i, (T.getD i tok0).text.size ≤ maxLen) (a k : Int) : (takeS T a k).size ≤ maxLen := by
  unfold takeS
  split
  · exact hx _
  · exact Nat.zero_le _
theorem room2 {n k : Nat} (h : n ≤ 1000000) (hk : k ≤ 40) : (Bool.true && (Nat.ble n n && (Nat.ble ((n + 1) * k) 140737488355328 && Nat.ble (n + 1) 17592186044416))) = true := by
  have h1 : (n + 1) * k ≤ 1000001 * 40 := Nat.mul_le_mul (by omega) hk
  simp only [Bool.and_eq_true, Nat.ble_eq]
  exact ⟨trivial, Nat.le_refl _, by generalize (n + 1) * k = x at h1; omega, by omega⟩
theorem nb {b : Bool} (h : (!b) = true) : b = false := by simpa using h
theorem nc {b : Bool} (h : (!b) = false) : b = true := by simpa using h
theorem Sy.prt_step (T : List TokV) (hx : ∀ i, (T.getD i tok0).text.size ≤ maxLen) (a f0 : Int) (p : PartV) (hp : PartOk p) (m : Nat) (G : Ex → Fr → Mem → Prop) (h : InT T a) (hn : p.cls.length ≤ 1000000 ∧ p.tests.length ≤ 1000000) (c : MarkC T f0 m G (markV T a p)) :
    LoopToT 3 Try.prog (theBody Try.prog 46 8) (m + 1) (prtF f0) (pM T a p) (RG 3 G) := by
  have i1 : InT T (mk1 T a) := takeA_in h (by decide)
  have i2 : InT T (mk2 T a) := signA_in i1
  have i3 : InT T (mk3 T a) := takeA_in i2 (by decide)
  have i4 : InT T (mk4 T a) := takeA_in i3 (by decide)
  have j1 : InT T (ts1 T (mk3 T a)) := skI_in i3
  have j0 : InT T (takeA T (ts1 T (mk3 T a)) 1) := takeA_in j1 (by decide)
  have j2 : InT T (ts2 T (mk3 T a)) := skI_in j0
  have j3 : InT T (ts3 T (mk3 T a)) := signA_in j2
  have j5 : InT T (valA T (ts3 T (mk3 T a))) := valA_in j3
  have j4 : InT T (ts4 T (mk3 T a)) := skI_in j5
  have b0 := RowsIs.base strCells ⟨#[]⟩ 1 p.cls
  have t0 := RowsIs.base TestV.cells testNone 3 p.tests
  refine roundT plain mixed 3 [cSpc T, cName, cTake T, cSign T, cVal T, cWrongM p] [] 400 30 46 8 Try.func46 rfl (by kernel_rfl) (true :: false :: false :: false :: true :: true :: true :: true :: false :: false :: true :: (ff42 [])) (.yes (.br (.br (.auto 0 (.yes (.auto 0 (.br .done (.auto 0 .done))))) (.auto 2 .done)) (.yes (.br (.yes (.yes (.br .done (.auto 0 .done)))) (.yes (.br (.yes (.yes (.yes (.br (.auto 0 (.yes (.auto 0 (.br (.yes (.yes (.yes (.yes (.br (.auto 0 (.br .done (.auto 0 .done))) (.auto 1 .done)))))) (.yes (.yes (.yes (.auto 0 (.br .done (.auto 0 .done)))))))))) (.auto 2 (.yes (.yes (.no (.auto 1 .done))))))))) (.yes (.br (.yes (.br (.br .done (.auto 0 .done)) (.br (.br .done (.auto 0 .done)) (.br (.br .done (.auto 0 .done)) (.auto 0 .done))))) (.auto 1 (.br (.auto 0 (.yes (.auto 1 .done))) (.auto 2 .done))))))))))) (let e1 := (@Value.tuple (@Array.mk _ [])); let e2 := (@AV.view (T).length 3 (fun y0 => (fun y1 => (@AV.lit ([(@Value.int IntKind.i64 ((T.getD y0 tok0)).kind), (@Value.string ((T.getD y0 tok0)).text), (@Value.int IntKind.i64 ((T.getD y0 tok0)).n)].getD y1 e1))))); let e3 := (some (@Blk.mk [e2, (int a)] 63 none)); let e4 := (@ByteArray.mk (@Array.mk _ [])); let e5 := (@takeS T a (4 : Int)); let e6 := (some (@AV.ptr 0 0)); let e7 := (some (@AV.ptr 1 0)); let e8 := (boo false); let e9 := (some e8); let e10 := (some (@AV.ptr 2 0)); let e11 := (some (int f0)); let e12 := (some (@AV.fn (@Fn.func markF) [(@AV.ptr 0 0)] [])); let e13 := ((p).tests); let e14 := (fun y0 => (fun y1 => (@AV.lit ([(@Value.string (((p).tests.getD y0 testNone)).name), (@Value.bool (((p).tests.getD y0 testNone)).equal), (@Value.string (((p).tests.getD y0 testNone)).value)].getD y1 e1)))); let e15 := (some (@Blk.mk [] 79 (some (@Rw.mk e13.length 3 e14)))); let e16 := ((p).cls); let e17 := (fun y0 => (fun y1 => (@AV.lit ([(@Value.string ((p).cls.getD y0 e4))].getD y1 e1)))); let e18 := (some (@Blk.mk [] 9 (some (@Rw.mk e16.length 1 e17)))); let e19 := (int (p).comb); let e20 := (@AV.lit (@Value.string (p).tag)); let e21 := (@AV.own 3 e16.length 1); let e22 := (@AV.own 4 e13.length 3); let e23 := (int (p).states); let e24 := (some (@Blk.mk (e19 :: e20 :: [(@AV.lit (@Value.string e5)), e21, e22, e23]) 55 none)); let e25 := (@takeA T a (4 : Int)); let e26 := (some (@Blk.mk [e2, (int e25)] 63 none)); let e27 := (some zB); let e28 := (@ByteArray.mk (@Array.mk _ [(46 : UInt8)])); let e29 := (@AV.lit (@Value.string e28)); let e30 := (@signA T e25 e28); let e31 := (some (@Blk.mk [e2, (int e30)] 63 none)); let e32 := (1 : Int); let e33 := ([(int e32)] = [(int e32)]); let e34 := (@Not (e32 = (0 : Int))); let e35 := (e16.length + 1); let e36 := ((5 + 1) + 1); let e37 := (((((0 + 1) + 1) + 1) + 1) + 1); let e38 := (e37 + 1); let e39 := (@AV.lit (@Value.string (@takeS T e30 e32))); let e40 := (@Value.string e4); let e41 := (e39 :: (@List.drop _ (0 + ([e39]).length) (@List.map _ _ AV.lit (@Array.toList _ (@Array.mk _ [(@List.get _ (@Array.toList _ (@Array.mk _ [e40])) (@Fin.mk _ 0 (@Nat.le_of_ble_eq_true _ _ (@Eq.refl _ true))))]))))); let e42 := (some (@Blk.mk [] 9 (some (@Rw.mk e35 1 (@appc e16.length e17 (fun y0 => (fun y1 => (@getA (@List.take _ 1 e41) ((y0 * 1) + y1))))))))); let e43 := (@AV.lit (@Value.string (p).id)); let e44 := (some (@Blk.mk [e19, e20, e43, (@AV.own (5 + 1) e35 1), e22, e23] 55 none)); let e45 := (some (@Blk.mk [e2, (int (@takeA T e30 e32))] 63 none)); let e46 := (@takeA T e30 (15 : Int)); let e47 := (some (@Blk.mk [e2, (int e46)] 63 none)); let e48 := (([] : List AV) = []); let e49 := (@skI T e46); let e50 := (some (@Blk.mk [e2, (int e49)] 63 none)); let e51 := (@takeA T e49 e32); let e52 := (some (@Blk.mk [e2, (int e51)] 63 none)); let e53 := (@takeB T e49 e32); let e54 := (@skI T e51); let e55 := (some (@Blk.mk [e2, (int e54)] 63 none)); let e56 := (@ByteArray.mk (@Array.mk _ [(61 : UInt8)])); let e57 := (@AV.lit (@Value.string e56)); let e58 := (@signA T e54 e56); let e59 := (some (@Blk.mk [e2, (int e58)] 63 none)); let e60 := (some (@Blk.mk [e2, (int (@valA T e58))] 63 none)); let e61 := (@skI T (@valA T e58)); let e62 := (some (@Blk.mk [e2, (int e61)] 63 none)); let e63 := (16 : Int); let e64 := ([(int e63)] = [(int e63)]); let e65 := (@Not (e63 = (0 : Int))); let e66 := (e13.length + 1); let e67 := (Bool.true && ((@Nat.ble e13.length e13.length) && ((@Nat.ble (e66 * 40) 140737488355328) && (@Nat.ble e66 17592186044416)))); let e68 := (((((e38 + 1) + 1) + 1) + 1) + 1); let e69 := (@AV.lit (@Value.string (@takeS T e49 e32))); let e70 := (@AV.lit (@Value.string (@valS T e58))); let e71 := (@Array.toList _ (@Array.mk _ [e40, (@Value.bool false), e40])); let e72 := (@List.map _ _ AV.lit (@Array.toList _ (@Array.mk _ [(@List.get _ e71 (@Fin.mk _ 0 (@Nat.le_of_ble_eq_true _ _ (@Eq.refl _ true)))), (@List.get _ e71 (@Fin.mk _ 1 (@Nat.le_of_ble_eq_true _ _ (@Eq.refl _ true)))), (@List.get _ e71 (@Fin.mk _ 2 (@Nat.le_of_ble_eq_true _ _ (@Eq.refl _ true))))]))); let e73 := (e69 :: (boo true) :: (e70 :: (@List.drop _ (0 + ((e69 :: (boo true) :: [e70])).length) e72))); let e74 := (some (@Blk.mk [] 79 (some (@Rw.mk e66 3 (@appc e13.length e14 (fun y0 => (fun y1 => (@getA (@List.take _ 3 e73) ((y0 * 3) + y1))))))))); let e75 := (@AV.lit e40); let e76 := (e69 :: (e8 :: e75 :: (@List.drop _ (0 + ((e69 :: (@List.drop _ (0 + ([e69]).length) (@List.map _ _ AV.lit e71)))).length) [e75, e8, e75]))); let e77 := (some (@Blk.mk (e69 :: (boo true) :: (e70 :: (@List.drop _ (2 + ([e70]).length) (e69 :: (boo true) :: (@List.drop _ 2 e76))))) 79 none)); let e78 := (some (@Blk.mk [e19, e20, e43, e21, (@AV.own e36 e66 3), e23] 55 none)); let e79 := (some (@Blk.mk [e2, (int (@takeA T e61 e63))] 63 none)); let e80 := (e69 :: (e8 :: e75 :: (@List.drop _ (0 + ((e69 :: [e8, e75])).length) e72))); let e81 := (some (@Blk.mk [] 79 (some (@Rw.mk e66 3 (@appc e13.length e14 (fun y0 => (fun y1 => (@getA (@List.take _ 3 e80) ((y0 * 3) + y1))))))))); let e82 := (some (@Blk.mk e80 79 none)); let e83 := (some (@Blk.mk e76 79 none)); let e84 := (some (@Blk.mk [e2, (int (@takeA T e58 e63))] 63 none)); let e85 := (@takeA T e46 (10 : Int)); let e86 := (some (@Blk.mk [e2, (int e85)] 63 none)); let e87 := (@Array.toList _ (@ByteArray.data (@takeS T e85 e32))); let e88 := (!(@takeB T e85 e32)); let e89 := (some (@Blk.mk (e19 :: e20 :: e43 :: e21 :: e22 :: [(int (IntKind.i64.wrap (((@Nat.lor ((@HMod.hMod _ _ _ _ (p).states (18446744073709551616 : Int))).toNat 1) : Nat) : Int)))]) 55 none)); let e90 := (some (@Blk.mk [e2, (int (@takeA T e85 e32))] 63 none)); let e91 := (some (@Blk.mk (e19 :: e20 :: e43 :: e21 :: e22 :: [(int (IntKind.i64.wrap (((@Nat.lor ((@HMod.hMod _ _ _ _ (p).states (18446744073709551616 : Int))).toNat 2) : Nat) : Int)))]) 55 none)); let e92 := (some (@Blk.mk (e19 :: e20 :: e43 :: e21 :: e22 :: [(int (IntKind.i64.wrap (((@Nat.lor ((@HMod.hMod _ _ _ _ (p).states (18446744073709551616 : Int))).toNat 4) : Nat) : Int)))]) 55 none)); let e93 := (some (@Blk.mk [e19, e20, e43, e21, e22, e23] 55 none)); let e94 := (@Mem.mk 5 e37 [e15, e18, e93, e93, e86]); (.need (@isSo (@And (e3 = e3) (@And ([(int (4 : Int))] = [(int (4 : Int))]) (@And (@InT T a) (@Not ((4 : Int) = (0 : Int))))))) (.fork (@takeB T a (4 : Int)) (.fork (@bytesEq (@Array.toList _ (@ByteArray.data (p).id)) (@Array.toList _ (@ByteArray.data e4))) (.need (@isSo ((@ByteArray.size e5) ≤ 9223372036854775807)) (.fork (!(@Pl.nameL (@Array.toList _ (@ByteArray.data e5)))) (.leaf (Ex.ret, ((e6 :: none :: none :: none :: e7 :: e9 :: e10 :: e11 :: none :: none :: e12 :: (nn42 [])), (@Mem.mk 5 (((0 + 1) + 1) + 1) [e15, e18, e24, e24, e26])))) (.leaf (Ex.norm, ((e6 :: none :: none :: none :: e7 :: e9 :: e10 :: e11 :: none :: none :: e12 :: (nn42 [])), (@Mem.mk 5 ((0 + 1) + 1) [e15, e18, e24, e27, e26])))))) (.leaf (Ex.ret, ((e6 :: none :: none :: none :: e7 :: e9 :: e10 :: e11 :: none :: none :: e12 :: (nn42 [])), (@Mem.mk 5 (((0 + 1) + 1) + 1) [e15, e18, e24, e24, e26]))))) (.need (@isSo (@And (e26 = e26) (@And ([e29] = [e29]) (@InT T e25)))) (.fork (@signB T e25 e28) (.need (@isSo (@And (e31 = e31) (@And e33 (@And (@InT T e30) e34)))) (.need (Bool.true && ((@Nat.ble e16.length e16.length) && ((@Nat.ble (e35 * 16) 140737488355328) && (@Nat.ble e35 17592186044416)))) (.fork (!(@takeB T e30 e32)) (.leaf (Ex.ret, ((e6 :: none :: none :: none :: e7 :: e9 :: e10 :: e11 :: none :: none :: e12 :: (nn42 [])), (@Mem.mk e36 e38 (e42 :: ((some (@Blk.mk e41 9 none)) :: [e15, none, e44, e44, e45])))))) (.leaf (Ex.norm, ((e6 :: none :: none :: none :: e7 :: e9 :: e10 :: e11 :: none :: none :: e12 :: (nn42 [])), (@Mem.mk e36 e37 (e42 :: ((some (@Blk.mk e41 9 none)) :: [e15, none, e44, e27, e45]))))))))) (.need (@isSo (@And (e31 = e31) (@And ([(int (15 : Int))] = [(int (15 : Int))]) (@And (@InT T e30) (@Not ((15 : Int) = (0 : Int))))))) (.fork (@takeB T e30 (15 : Int)) (.need (@isSo (@And (e47 = e47) (@And e48 (@InT T e46)))) (.need (@isSo (@And (e50 = e50) (@And e33 (@And (@InT T e49) e34)))) (.need (@isSo (@And (e52 = e52) (@And e48 (@InT T e51)))) (.fork e53 (.need (@isSo (@And (e55 = e55) (@And ([e57] = [e57]) (@InT T e54)))) (.fork (@signB T e54 e56) (.need (@isSo (@And (e59 = e59) (@And e48 (@InT T e58)))) (.need (@isSo (@And (e60 = e60) (@And e48 (@InT T (@valA T e58))))) (.need (@isSo (@And (e62 = e62) (@And e64 (@And (@InT T e61) e65)))) (.need e67 (.fork (@valB T e58) (.fork (!(@takeB T e61 e63)) (.leaf (Ex.ret, ((e6 :: none :: none :: none :: e7 :: e9 :: e10 :: e11 :: none :: none :: e12 :: (nn42 [])), (@Mem.mk (e36 + 1) (((((e68 + 1) + 1) + 1) + 1) + 1) (e74 :: ((some (@Blk.mk e73 79 none)) :: (e77 :: [none, e18, e78, e78, e79]))))))) (.leaf (Ex.norm, ((e6 :: none :: none :: none :: e7 :: e9 :: e10 :: e11 :: none :: none :: e12 :: (nn42 [])), (@Mem.mk (e36 + 1) ((((e68 + 1) + 1) + 1) + 1) (e74 :: ((some (@Blk.mk e73 79 none)) :: (e77 :: [none, e18, e78, e27, e79])))))))) (.leaf (Ex.ret, ((e6 :: none :: none :: none :: e7 :: e9 :: e10 :: e11 :: none :: none :: e12 :: (nn42 [])), (@Mem.mk (e36 + 1) (((((e68 + 1) + 1) + 1) + 1) + 1) (e74 :: ((some (@Blk.mk e73 79 none)) :: (e77 :: [none, e18, e78, e78, e79])))))))))))) (.need (@isSo (@And (e59 = e59) (@And e64 (@And (@InT T e58) e65)))) (.need e67 (.need e53 (.fork (!(@takeB T e58 e63)) (.leaf (Ex.ret, ((e6 :: none :: none :: none :: e7 :: e9 :: e10 :: e11 :: none :: none :: e12 :: (nn42 [])), (@Mem.mk (e36 + 1) (e68 + 1) (e81 :: (e82 :: (e83 :: [none, e18, e78, e78, e84]))))))) (.leaf (Ex.norm, ((e6 :: none :: none :: none :: e7 :: e9 :: e10 :: e11 :: none :: none :: e12 :: (nn42 [])), (@Mem.mk (e36 + 1) e68 (e81 :: (e82 :: (e83 :: [none, e18, e78, e27, e84]))))))))))))) (.need (@isSo (@And (e55 = e55) (@And e64 (@And (@InT T e54) e65)))) (.need e67 (.need (!e53) (.leaf (Ex.ret, ((e6 :: none :: none :: none :: e7 :: e9 :: e10 :: e11 :: none :: none :: e12 :: (nn42 [])), (@Mem.mk (e36 + 1) e68 (e81 :: (e82 :: (e83 :: [none, e18, e78, e78, (some (@Blk.mk [e2, (int (@takeA T e54 e63))] 63 none))])))))))))))))) (.need (@isSo (@And (e47 = e47) (@And ([(int (10 : Int))] = [(int (10 : Int))]) (@And (@InT T e46) (@Not ((10 : Int) = (0 : Int))))))) (.fork (@takeB T e46 (10 : Int)) (.need (@isSo (@And (e86 = e86) (@And e33 (@And (@InT T e85) e34)))) (.fork (@bytesEq e87 (@Array.toList _ (@ByteArray.data (@ByteArray.mk (@Array.mk _ [(114 : UInt8), (111 : UInt8), (111 : UInt8), (116 : UInt8)]))))) (.fork e88 (.leaf (Ex.ret, ((e6 :: none :: none :: none :: e7 :: e9 :: e10 :: e11 :: none :: none :: e12 :: (nn42 [])), (@Mem.mk 5 (e38 + 1) [e15, e18, e89, e89, e90])))) (.leaf (Ex.norm, ((e6 :: none :: none :: none :: e7 :: e9 :: e10 :: e11 :: none :: none :: e12 :: (nn42 [])), (@Mem.mk 5 e38 [e15, e18, e89, e27, e90]))))) (.fork (@bytesEq e87 (@Array.toList _ (@ByteArray.data (@ByteArray.mk (@Array.mk _ [(102 : UInt8), (105 : UInt8), (114 : UInt8), (115 : UInt8), (116 : UInt8), (45 : UInt8), (99 : UInt8), (104 : UInt8), (105 : UInt8), (108 : UInt8), (100 : UInt8)]))))) (.fork e88 (.leaf (Ex.ret, ((e6 :: none :: none :: none :: e7 :: e9 :: e10 :: e11 :: none :: none :: e12 :: (nn42 [])), (@Mem.mk 5 (e38 + 1) [e15, e18, e91, e91, e90])))) (.leaf (Ex.norm, ((e6 :: none :: none :: none :: e7 :: e9 :: e10 :: e11 :: none :: none :: e12 :: (nn42 [])), (@Mem.mk 5 e38 [e15, e18, e91, e27, e90]))))) (.fork (@bytesEq e87 (@Array.toList _ (@ByteArray.data (@ByteArray.mk (@Array.mk _ [(108 : UInt8), (97 : UInt8), (115 : UInt8), (116 : UInt8), (45 : UInt8), (99 : UInt8), (104 : UInt8), (105 : UInt8), (108 : UInt8), (100 : UInt8)]))))) (.fork e88 (.leaf (Ex.ret, ((e6 :: none :: none :: none :: e7 :: e9 :: e10 :: e11 :: none :: none :: e12 :: (nn42 [])), (@Mem.mk 5 (e38 + 1) [e15, e18, e92, e92, e90])))) (.leaf (Ex.norm, ((e6 :: none :: none :: none :: e7 :: e9 :: e10 :: e11 :: none :: none :: e12 :: (nn42 [])), (@Mem.mk 5 e38 [e15, e18, e92, e27, e90]))))) (.leaf (Ex.ret, ((e6 :: none :: none :: none :: e7 :: e9 :: e10 :: e11 :: none :: none :: e12 :: (nn42 [])), (@Mem.mk 5 e38 [e15, e18, e93, e93, e90])))))))) (.fork (!(leI e85 f0)) (.need (@isSo (@And (@Conv (@Mem.mk 5 ((((0 + 1) + 1) + 1) + 1) [e15, e18, e93, e27, e86]) (@HAppend.hAppend _ _ _ _ (@HAppend.hAppend _ _ _ _ [] [(@AV.agg [e19, e20, e43, e21, e22, e23])]) []) [(@AV.agg [e19, e20, e43, (cview e16), (tview e13), e23])]) (@And ((@ByteArray.size (p).tag) ≤ 9223372036854775807) (@And ((@ByteArray.size (p).id) ≤ 9223372036854775807) (@And (@And (e16.length ≤ 17592186044416) (∀ (s : ByteArray), s ∈ p.cls → s.size ≤ maxLen)) (@And (e13.length ≤ 17592186044416) (∀ (t : TestV), t ∈ p.tests → t.Ok))))))) (.leaf (Ex.ret, ((e6 :: none :: none :: none :: e7 :: (some (boo (!(@wrongB p)))) :: e10 :: e11 :: none :: none :: e12 :: (nn42 [])), e94)))) (.leaf (Ex.ret, ((e6 :: none :: none :: none :: e7 :: e9 :: e10 :: e11 :: none :: none :: e12 :: (nn42 [])), e94))))))))))))) (by kernel_rfl) ?_
  refine need_so ⟨rfl, rfl, h, by decide⟩ (fork_ok (fun h1 => ?_) (fun h1 => need_so ⟨rfl, rfl, i1⟩ (fork_ok (fun h2 => ?_) (fun h2 => need_so ⟨rfl, rfl, i2, by decide⟩ (fork_ok (fun h3 => ?_) (fun h3 => need_so ⟨rfl, rfl, i3, by decide⟩ (fork_ok (fun h4 => ?_) (fun h4 => ?_))))))))
  · refine fork_ok (fun h2 => need_so (takeS_le hx a 4) (fork_ok (fun h3 => ?_) (fun h3 => ?_))) (fun h2 => ?_)
    · have h2 : isW p.id ⟨⟨[]⟩⟩ = true := h2
      have e : markV T a p = (0, { p with id := takeS T a 4 }, mk1 T a) := by
        unfold markV; rw [if_pos h1, if_pos h2, if_neg (nt (nb h3))]
      rw [e] at c
      exact ⟨_, _, [0, 1, 2, 3, 4], rfl, prtE_ren f0 false 3 4, qRM_ren (p := { p with id := takeS T a 4 }) rfl (by decide) rfl rfl rfl (ptB_ren (p := { p with id := takeS T a 4 }) (by simp) (by simp)) rfl rfl rfl b0 t0, c⟩
    · have h2 : isW p.id ⟨⟨[]⟩⟩ = true := h2
      have e : markV T a p = (2, { p with id := takeS T a 4 }, mk1 T a) := by
        unfold markV; rw [if_pos h1, if_pos h2, if_pos (nc h3)]
      rw [e] at c
      exact LoopToT.ren [0, 1, 2, 3, 4] rfl (prtF_ren f0 3 4) (qRM_ren (p := { p with id := takeS T a 4 }) rfl (by decide) rfl rfl rfl (zB_ren _) rfl rfl rfl b0 t0) c
    · have h2 : isW p.id ⟨⟨[]⟩⟩ = false := h2
      have e : markV T a p = (0, { p with id := takeS T a 4 }, mk1 T a) := by
        unfold markV; rw [if_pos h1, if_neg (nt h2)]
      rw [e] at c
      exact ⟨_, _, [0, 1, 2, 3, 4], rfl, prtE_ren f0 false 3 4, qRM_ren (p := { p with id := takeS T a 4 }) rfl (by decide) rfl rfl rfl (ptB_ren (p := { p with id := takeS T a 4 }) (by simp) (by simp)) rfl rfl rfl b0 t0, c⟩
  · have h2 : signB T (mk1 T a) ⟨⟨[46]⟩⟩ = true := h2
    have e0 : markV T a p = (if takeB T (mk2 T a) 1 = true then 2 else 0, { p with cls := p.cls ++ [takeS T (mk2 T a) 1] }, takeA T (mk2 T a) 1) := by
      unfold markV; rw [if_neg (nt h1), if_pos h2]
    refine need_so ⟨rfl, rfl, i2, by decide⟩ (need_t (room2 hn.1 (by decide)) (fork_ok (fun h3 => ?_) (fun h3 => ?_)))
    · have h3 : takeB T (mk2 T a) 1 = false := nb h3
      rw [e0, if_neg (nt h3)] at c
      exact ⟨_, _, [0, 1, 2, 6, 4], rfl, prtE_ren f0 false 6 4, qRM_ren (p := { p with cls := p.cls ++ [takeS T (mk2 T a) 1] }) rfl (by decide) rfl rfl rfl (ptB_ren (p := { p with cls := p.cls ++ [takeS T (mk2 T a) 1] }) (by simp) (by simp)) rfl rfl rfl (b0.app1 (takeS T (mk2 T a) 1) fun j hj => by
        obtain rfl : j = 0 := by omega
        rfl) t0, c⟩
    · have h3 : takeB T (mk2 T a) 1 = true := nc h3
      rw [e0, if_pos h3] at c
      exact LoopToT.ren [0, 1, 2, 6, 4] rfl (prtF_ren f0 6 4) (qRM_ren (p := { p with cls := p.cls ++ [takeS T (mk2 T a) 1] }) rfl (by decide) rfl rfl rfl (zB_ren _) rfl rfl rfl (b0.app1 (takeS T (mk2 T a) 1) fun j hj => by
        obtain rfl : j = 0 := by omega
        rfl) t0) c
  · have h2 : signB T (mk1 T a) ⟨⟨[46]⟩⟩ = false := h2
    have h3 : takeB T (mk2 T a) 15 = true := h3
    have e0 : ∀ ok t b, testM T (mk3 T a) = (ok, t, b) → markV T a p = (if ok = true then 2 else 0, { p with tests := p.tests ++ [t] }, b) := fun ok t b e => by
      unfold markV; rw [if_neg (nt h1), if_neg (nt h2), if_pos h3, e]
    refine need_so ⟨rfl, rfl, i3⟩ (need_so ⟨rfl, rfl, j1, by decide⟩ (need_so ⟨rfl, rfl, j0⟩ (fork_ok (fun h4 => ?_) (fun h4 => ?_))))
    · have h4 : takeB T (ts1 T (mk3 T a)) 1 = true := h4
      refine need_so ⟨rfl, rfl, j2⟩ (fork_ok (fun h5 => ?_) (fun h5 => ?_))
      · have h5 : signB T (ts2 T (mk3 T a)) ⟨⟨[61]⟩⟩ = true := h5
        have e1 : testM T (mk3 T a) = (valB T (ts3 T (mk3 T a)) && takeB T (ts4 T (mk3 T a)) 16, ⟨takeS T (ts1 T (mk3 T a)) 1, true, valS T (ts3 T (mk3 T a))⟩, takeA T (ts4 T (mk3 T a)) 16) := by
          unfold testM; rw [if_pos h4, if_pos h5]
        rw [e0 _ _ _ e1] at c
        refine need_so ⟨rfl, rfl, j3⟩ (need_so ⟨rfl, rfl, j5⟩ (need_so ⟨rfl, rfl, j4, by decide⟩ (need_t (room2 hn.2 (by decide)) (fork_ok (fun h6 => ?_) (fun h6 => ?_)))))
        · have h6 : valB T (ts3 T (mk3 T a)) = true := h6
          refine fork_ok (fun h7 => ?_) (fun h7 => ?_)
          · have h7 : takeB T (ts4 T (mk3 T a)) 16 = false := nb h7
            rw [h6, h7] at c
            exact ⟨_, _, [0, 1, 2, 3, 7], rfl, prtE_ren f0 false 3 7, qRM_ren (p := { p with tests := p.tests ++ [⟨takeS T (ts1 T (mk3 T a)) 1, true, valS T (ts3 T (mk3 T a))⟩] }) rfl (by decide) rfl rfl rfl (ptB_ren (p := { p with tests := p.tests ++ [⟨takeS T (ts1 T (mk3 T a)) 1, true, valS T (ts3 T (mk3 T a))⟩] }) (by simp) (by simp)) rfl rfl rfl b0 (t0.app1 (⟨takeS T (ts1 T (mk3 T a)) 1, true, valS T (ts3 T (mk3 T a))⟩ : TestV) fun j hj => by
              rcases j with _ | _ | _ | j
              · rfl
              · rfl
              · rfl
              · omega), c⟩
          · have h7 : takeB T (ts4 T (mk3 T a)) 16 = true := nc h7
            rw [h6, h7] at c
            exact LoopToT.ren [0, 1, 2, 3, 7] rfl (prtF_ren f0 3 7) (qRM_ren (p := { p with tests := p.tests ++ [⟨takeS T (ts1 T (mk3 T a)) 1, true, valS T (ts3 T (mk3 T a))⟩] }) rfl (by decide) rfl rfl rfl (zB_ren _) rfl rfl rfl b0 (t0.app1 (⟨takeS T (ts1 T (mk3 T a)) 1, true, valS T (ts3 T (mk3 T a))⟩ : TestV) fun j hj => by
              rcases j with _ | _ | _ | j
              · rfl
              · rfl
              · rfl
              · omega)) c
        · have h6 : valB T (ts3 T (mk3 T a)) = false := h6
          rw [h6] at c
          exact ⟨_, _, [0, 1, 2, 3, 7], rfl, prtE_ren f0 false 3 7, qRM_ren (p := { p with tests := p.tests ++ [⟨takeS T (ts1 T (mk3 T a)) 1, true, valS T (ts3 T (mk3 T a))⟩] }) rfl (by decide) rfl rfl rfl (ptB_ren (p := { p with tests := p.tests ++ [⟨takeS T (ts1 T (mk3 T a)) 1, true, valS T (ts3 T (mk3 T a))⟩] }) (by simp) (by simp)) rfl rfl rfl b0 (t0.app1 (⟨takeS T (ts1 T (mk3 T a)) 1, true, valS T (ts3 T (mk3 T a))⟩ : TestV) fun j hj => by
            rcases j with _ | _ | _ | j
            · rfl
            · rfl
            · rfl
            · omega), c⟩
      · have h5 : signB T (ts2 T (mk3 T a)) ⟨⟨[61]⟩⟩ = false := h5
        have e1 : testM T (mk3 T a) = (takeB T (ts3 T (mk3 T a)) 16, ⟨takeS T (ts1 T (mk3 T a)) 1, false, ⟨⟨[]⟩⟩⟩, takeA T (ts3 T (mk3 T a)) 16) := by
          unfold testM; rw [if_pos h4, if_neg (nt h5)]
        rw [e0 _ _ _ e1] at c
        refine need_so ⟨rfl, rfl, j3, by decide⟩ (need_t (room2 hn.2 (by decide)) (need_t h4 (fork_ok (fun h7 => ?_) (fun h7 => ?_))))
        · have h7 : takeB T (ts3 T (mk3 T a)) 16 = false := nb h7
          rw [h7] at c
          exact ⟨_, _, [0, 1, 2, 3, 7], rfl, prtE_ren f0 false 3 7, qRM_ren (p := { p with tests := p.tests ++ [⟨takeS T (ts1 T (mk3 T a)) 1, false, ⟨⟨[]⟩⟩⟩] }) rfl (by decide) rfl rfl rfl (ptB_ren (p := { p with tests := p.tests ++ [⟨takeS T (ts1 T (mk3 T a)) 1, false, ⟨⟨[]⟩⟩⟩] }) (by simp) (by simp)) rfl rfl rfl b0 (t0.app1 (⟨takeS T (ts1 T (mk3 T a)) 1, false, ⟨⟨[]⟩⟩⟩ : TestV) fun j hj => by
            rcases j with _ | _ | _ | j
            · rfl
            · rfl
            · rfl
            · omega), c⟩
        · have h7 : takeB T (ts3 T (mk3 T a)) 16 = true := nc h7
          rw [h7] at c
          exact LoopToT.ren [0, 1, 2, 3, 7] rfl (prtF_ren f0 3 7) (qRM_ren (p := { p with tests := p.tests ++ [⟨takeS T (ts1 T (mk3 T a)) 1, false, ⟨⟨[]⟩⟩⟩] }) rfl (by decide) rfl rfl rfl (zB_ren _) rfl rfl rfl b0 (t0.app1 (⟨takeS T (ts1 T (mk3 T a)) 1, false, ⟨⟨[]⟩⟩⟩ : TestV) fun j hj => by
            rcases j with _ | _ | _ | j
            · rfl
            · rfl
            · rfl
            · omega)) c
    · have h4 : takeB T (ts1 T (mk3 T a)) 1 = false := h4
      have e1 : testM T (mk3 T a) = (false, ⟨takeS T (ts1 T (mk3 T a)) 1, false, ⟨⟨[]⟩⟩⟩, takeA T (ts2 T (mk3 T a)) 16) := by
        unfold testM; rw [if_neg (nt h4)]
      rw [e0 _ _ _ e1] at c
      refine need_so ⟨rfl, rfl, j2, by decide⟩ (need_t (room2 hn.2 (by decide)) (need_t (by rw [show takeB T (skI T (takeA T (signA T (takeA T a 4) ⟨⟨[46]⟩⟩) 15)) 1 = false from h4]; rfl) ?_))
      exact ⟨_, _, [0, 1, 2, 3, 7], rfl, prtE_ren f0 false 3 7, qRM_ren (p := { p with tests := p.tests ++ [⟨takeS T (ts1 T (mk3 T a)) 1, false, ⟨⟨[]⟩⟩⟩] }) rfl (by decide) rfl rfl rfl (ptB_ren (p := { p with tests := p.tests ++ [⟨takeS T (ts1 T (mk3 T a)) 1, false, ⟨⟨[]⟩⟩⟩] }) (by simp) (by simp)) rfl rfl rfl b0 (t0.app1 (⟨takeS T (ts1 T (mk3 T a)) 1, false, ⟨⟨[]⟩⟩⟩ : TestV) fun j hj => by
        rcases j with _ | _ | _ | j
        · rfl
        · rfl
        · rfl
        · omega), c⟩
  · have h2 : signB T (mk1 T a) ⟨⟨[46]⟩⟩ = false := h2
    have h3 : takeB T (mk2 T a) 15 = false := h3
    have h4 : takeB T (mk3 T a) 10 = true := h4
    refine need_so ⟨rfl, rfl, i4, by decide⟩ (fork_ok (fun h5 => fork_ok (fun h8 => ?_) (fun h8 => ?_)) (fun h5 => fork_ok (fun h6 => fork_ok (fun h8 => ?_) (fun h8 => ?_)) (fun h6 => fork_ok (fun h7 => fork_ok (fun h8 => ?_) (fun h8 => ?_)) (fun h7 => ?_))))
    · have h5 : isW (takeS T (mk4 T a) 1) wRoot = true := h5
      have h8 : takeB T (mk4 T a) 1 = false := nb h8
      have e : markV T a p = (0, { p with states := orSt p.states 1 }, takeA T (mk4 T a) 1) := by
        unfold markV; rw [if_neg (nt h1), if_neg (nt h2), if_neg (nt h3), if_pos h4, if_pos h5, if_neg (nt h8)]
      rw [e] at c
      exact ⟨_, _, [0, 1, 2, 3, 4], rfl, prtE_ren f0 false 3 4, qRM_ren (p := { p with states := orSt p.states 1 }) rfl (by decide) rfl rfl rfl (ptB_ren (p := { p with states := orSt p.states 1 }) (by simp) (by simp)) rfl rfl rfl b0 t0, c⟩
    · have h5 : isW (takeS T (mk4 T a) 1) wRoot = true := h5
      have h8 : takeB T (mk4 T a) 1 = true := nc h8
      have e : markV T a p = (2, { p with states := orSt p.states 1 }, takeA T (mk4 T a) 1) := by
        unfold markV; rw [if_neg (nt h1), if_neg (nt h2), if_neg (nt h3), if_pos h4, if_pos h5, if_pos h8]
      rw [e] at c
      exact LoopToT.ren [0, 1, 2, 3, 4] rfl (prtF_ren f0 3 4) (qRM_ren (p := { p with states := orSt p.states 1 }) rfl (by decide) rfl rfl rfl (zB_ren _) rfl rfl rfl b0 t0) c
    · have h5 : isW (takeS T (mk4 T a) 1) wRoot = false := h5
      have h6 : isW (takeS T (mk4 T a) 1) wFirst = true := h6
      have h8 : takeB T (mk4 T a) 1 = false := nb h8
      have e : markV T a p = (0, { p with states := orSt p.states 2 }, takeA T (mk4 T a) 1) := by
        unfold markV; rw [if_neg (nt h1), if_neg (nt h2), if_neg (nt h3), if_pos h4, if_neg (nt h5), if_pos h6, if_neg (nt h8)]
      rw [e] at c
      exact ⟨_, _, [0, 1, 2, 3, 4], rfl, prtE_ren f0 false 3 4, qRM_ren (p := { p with states := orSt p.states 2 }) rfl (by decide) rfl rfl rfl (ptB_ren (p := { p with states := orSt p.states 2 }) (by simp) (by simp)) rfl rfl rfl b0 t0, c⟩
    · have h5 : isW (takeS T (mk4 T a) 1) wRoot = false := h5
      have h6 : isW (takeS T (mk4 T a) 1) wFirst = true := h6
      have h8 : takeB T (mk4 T a) 1 = true := nc h8
      have e : markV T a p = (2, { p with states := orSt p.states 2 }, takeA T (mk4 T a) 1) := by
        unfold markV; rw [if_neg (nt h1), if_neg (nt h2), if_neg (nt h3), if_pos h4, if_neg (nt h5), if_pos h6, if_pos h8]
      rw [e] at c
      exact LoopToT.ren [0, 1, 2, 3, 4] rfl (prtF_ren f0 3 4) (qRM_ren (p := { p with states := orSt p.states 2 }) rfl (by decide) rfl rfl rfl (zB_ren _) rfl rfl rfl b0 t0) c
    · have h5 : isW (takeS T (mk4 T a) 1) wRoot = false := h5
      have h6 : isW (takeS T (mk4 T a) 1) wFirst = false := h6
      have h7 : isW (takeS T (mk4 T a) 1) wLast = true := h7
      have h8 : takeB T (mk4 T a) 1 = false := nb h8
      have e : markV T a p = (0, { p with states := orSt p.states 4 }, takeA T (mk4 T a) 1) := by
        unfold markV; rw [if_neg (nt h1), if_neg (nt h2), if_neg (nt h3), if_pos h4, if_neg (nt h5), if_neg (nt h6), if_pos h7, if_neg (nt h8)]
      rw [e] at c
      exact ⟨_, _, [0, 1, 2, 3, 4], rfl, prtE_ren f0 false 3 4, qRM_ren (p := { p with states := orSt p.states 4 }) rfl (by decide) rfl rfl rfl (ptB_ren (p := { p with states := orSt p.states 4 }) (by simp) (by simp)) rfl rfl rfl b0 t0, c⟩
    · have h5 : isW (takeS T (mk4 T a) 1) wRoot = false := h5
      have h6 : isW (takeS T (mk4 T a) 1) wFirst = false := h6
      have h7 : isW (takeS T (mk4 T a) 1) wLast = true := h7
      have h8 : takeB T (mk4 T a) 1 = true := nc h8
      have e : markV T a p = (2, { p with states := orSt p.states 4 }, takeA T (mk4 T a) 1) := by
        unfold markV; rw [if_neg (nt h1), if_neg (nt h2), if_neg (nt h3), if_pos h4, if_neg (nt h5), if_neg (nt h6), if_pos h7, if_pos h8]
      rw [e] at c
      exact LoopToT.ren [0, 1, 2, 3, 4] rfl (prtF_ren f0 3 4) (qRM_ren (p := { p with states := orSt p.states 4 }) rfl (by decide) rfl rfl rfl (zB_ren _) rfl rfl rfl b0 t0) c
    · have h5 : isW (takeS T (mk4 T a) 1) wRoot = false := h5
      have h6 : isW (takeS T (mk4 T a) 1) wFirst = false := h6
      have h7 : isW (takeS T (mk4 T a) 1) wLast = false := h7
      have e : markV T a p = (0, p, takeA T (mk4 T a) 1) := by
        unfold markV; rw [if_neg (nt h1), if_neg (nt h2), if_neg (nt h3), if_pos h4, if_neg (nt h5), if_neg (nt h6), if_neg (nt h7)]
      rw [e] at c
      exact ⟨_, _, [0, 1, 2, 3, 4], rfl, prtE_ren f0 false 3 4, qRM_ren (p := p) rfl (by decide) rfl rfl rfl (ptB_ren (p := p) (by simp) (by simp)) rfl rfl rfl b0 t0, c⟩
  · have h2 : signB T (mk1 T a) ⟨⟨[46]⟩⟩ = false := h2
    have h3 : takeB T (mk2 T a) 15 = false := h3
    have h4 : takeB T (mk3 T a) 10 = false := h4
    have e : markV T a p = (1, p, mk4 T a) := by
      unfold markV; rw [if_neg (nt h1), if_neg (nt h2), if_neg (nt h3), if_neg (nt h4)]
    rw [e] at c
    refine fork_ok (fun h5 => need_so ⟨?_, hp⟩ ?_) (fun h5 => ?_)
    · exact Conv.cons (Conv1.agg (Conv.cons (Conv1.lit _ _) (Conv.cons (Conv1.lit _ _) (Conv.cons (Conv1.lit _ _) (Conv.cons (Conv1.own (b := 3) rfl rfl (Nat.le_refl _) rfl fun i j _ _ => ⟨trivial, rfl⟩) (Conv.cons (Conv1.own (b := 4) rfl rfl (Nat.le_refl _) rfl fun i j _ _ => ⟨trivial, rfl⟩) (Conv.cons (Conv1.lit _ _) (Conv.nil _)))))))) (Conv.nil _)
    · have e5 : (!leI (mk4 T a) f0 && !wrongB p) = (!wrongB p) := by
        rw [show (!leI (mk4 T a) f0) = true from h5]; rfl
      have c : G .ret (prtE f0 (!leI (mk4 T a) f0 && !wrongB p)) (qRM T (mk4 T a) (ptB p) p) := c
      rw [e5] at c
      exact ⟨_, _, [0, 1, 2, 3, 4], rfl, prtE_ren f0 (!wrongB p) 3 4, qRM_ren (p := p) rfl (by decide) rfl rfl rfl (ptB_ren (p := p) (by simp) (by simp)) rfl rfl rfl b0 t0, c⟩
    · have e5 : (!leI (mk4 T a) f0 && !wrongB p) = false := by
        rw [show (!leI (mk4 T a) f0) = false from h5]; rfl
      have c : G .ret (prtE f0 (!leI (mk4 T a) f0 && !wrongB p)) (qRM T (mk4 T a) (ptB p) p) := c
      rw [e5] at c
      exact ⟨_, _, [0, 1, 2, 3, 4], rfl, prtE_ren f0 false 3 4, qRM_ren (p := p) rfl (by decide) rfl rfl rfl (ptB_ren (p := p) (by simp) (by simp)) rfl rfl rfl b0 t0, c⟩
def marksV (T : List TokV) (f0 : Int) : Nat → Int → PartV → PartV × Int × Bool
  | 0, a, p => (p, a, false)
  | n + 1, a, p => match (markV T a p).1 with
    | 2 => marksV T f0 n (markV T a p).2.2 (markV T a p).2.1
    | 1 => ((markV T a p).2.1, (markV T a p).2.2, !leI (markV T a p).2.2 f0 && !wrongB (markV T a p).2.1)
    | _ => ((markV T a p).2.1, (markV T a p).2.2, false)
theorem takeA_ge (T : List TokV) (a k : Int) : a ≤ takeA T a k := by unfold takeA; split <;> omega
theorem takeA_t {T : List TokV} {a k : Int} (h : takeB T a k = true) : takeA T a k = a + 1 := by unfold takeA; rw [if_pos h]
theorem signA_ge (T : List TokV) (a : Int) (s : ByteArray) : a ≤ signA T a s := by unfold signA; split <;> omega
theorem signA_t {T : List TokV} {a : Int} {s : ByteArray} (h : signB T a s = true) : signA T a s = a + 1 := by unfold signA; rw [if_pos h]
theorem valA_ge {T : List TokV} {a : Int} (h : InT T a) : a ≤ valA T a := by
  have h1 := (skI_le h.1.1 h.1.2).1
  have h2 := takeA_ge T (skI T a) 1
  have h3 := takeA_ge T (takeA T (skI T a) 1) 5
  unfold valA
  split <;> omega
theorem testM_ge {T : List TokV} {b : Int} (h : InT T b) : b ≤ (testM T b).2.2 ∧ InT T (testM T b).2.2 := by
  have j1 : InT T (ts1 T b) := skI_in h
  have j0 : InT T (takeA T (ts1 T b) 1) := takeA_in j1 (by decide)
  have j2 : InT T (ts2 T b) := skI_in j0
  have j3 : InT T (ts3 T b) := signA_in j2
  have j5 : InT T (valA T (ts3 T b)) := valA_in j3
  have j4 : InT T (ts4 T b) := skI_in j5
  have k1 : b ≤ ts1 T b := (skI_le h.1.1 h.1.2).1
  have k0 := takeA_ge T (ts1 T b) 1
  have k2 : takeA T (ts1 T b) 1 ≤ ts2 T b := (skI_le j0.1.1 j0.1.2).1
  have k3 : ts2 T b ≤ ts3 T b := signA_ge T _ _
  have k5 := valA_ge j3
  have k4 : valA T (ts3 T b) ≤ ts4 T b := (skI_le j5.1.1 j5.1.2).1
  have l1 := takeA_ge T (ts4 T b) 16
  have l2 := takeA_ge T (ts3 T b) 16
  have l3 := takeA_ge T (ts2 T b) 16
  unfold testM
  split
  · split
    · exact ⟨by show b ≤ takeA T (ts4 T b) 16; omega, takeA_in j4 (by decide)⟩
    · exact ⟨by show b ≤ takeA T (ts3 T b) 16; omega, takeA_in j3 (by decide)⟩
  · exact ⟨by show b ≤ takeA T (ts2 T b) 16; omega, takeA_in j2 (by decide)⟩
theorem valS_le {T : List TokV} (hx : ∀ i, (T.getD i tok0).text.size ≤ maxLen) (a : Int) : (valS T a).size ≤ maxLen := by
  unfold valS
  split
  · exact takeS_le hx _ _
  · exact takeS_le hx _ _
theorem testM_le {T : List TokV} (hx : ∀ i, (T.getD i tok0).text.size ≤ maxLen) (b : Int) : (testM T b).2.1.Ok := by
  unfold testM
  split
  · split
    · exact ⟨takeS_le hx _ _, valS_le hx _⟩
    · exact ⟨takeS_le hx _ _, Nat.zero_le _⟩
  · exact ⟨takeS_le hx _ _, Nat.zero_le _⟩
def PInv (p : PartV) (a : Int) : Prop := PartOk p ∧ (p.cls.length : Int) ≤ a ∧ (p.tests.length : Int) ≤ a
theorem markV_in {T : List TokV} (hT : limT T.length) (hx : ∀ i, (T.getD i tok0).text.size ≤ maxLen) {a : Int} {p : PartV} (h : InT T a) (hp : PInv p a) (h2 : (markV T a p).1 = 2) : a < (markV T a p).2.2 ∧ InT T (markV T a p).2.2 ∧ PInv (markV T a p).2.1 (markV T a p).2.2 := by
  have i1 : InT T (mk1 T a) := takeA_in h (by decide)
  have i2 : InT T (mk2 T a) := signA_in i1
  have i3 : InT T (mk3 T a) := takeA_in i2 (by decide)
  have i4 : InT T (mk4 T a) := takeA_in i3 (by decide)
  have k1 : a ≤ mk1 T a := takeA_ge T _ _
  have k2 : mk1 T a ≤ mk2 T a := signA_ge T _ _
  have k3 : mk2 T a ≤ mk3 T a := takeA_ge T _ _
  have k4 : mk3 T a ≤ mk4 T a := takeA_ge T _ _
  unfold limT at hT
  obtain ⟨⟨o1, o2, o3, o4⟩, o5, o6⟩ := hp
  by_cases h1 : takeB T a 4 = true
  · have e : (markV T a p).2 = ({ p with id := takeS T a 4 }, mk1 T a) := by
      unfold markV; rw [if_pos h1]; split
      · split <;> rfl
      · rfl
    have e1 : mk1 T a = a + 1 := takeA_t h1
    rw [e]
    exact ⟨by show a < mk1 T a; omega, i1, ⟨o1, takeS_le hx _ _, o3, o4⟩, by show (p.cls.length : Int) ≤ mk1 T a; omega, by show (p.tests.length : Int) ≤ mk1 T a; omega⟩
  by_cases h3 : signB T (mk1 T a) ⟨⟨[46]⟩⟩ = true
  · have e : (markV T a p).2 = ({ p with cls := p.cls ++ [takeS T (mk2 T a) 1] }, takeA T (mk2 T a) 1) := by
      unfold markV; rw [if_neg h1, if_pos h3]
    have e1 : mk2 T a = mk1 T a + 1 := signA_t h3
    have e2 := takeA_ge T (mk2 T a) 1
    have i5 : InT T (takeA T (mk2 T a) 1) := takeA_in i2 (by decide)
    rw [e]
    refine ⟨by show a < takeA T (mk2 T a) 1; omega, i5, ⟨o1, o2, ⟨?_, fun s hs => ?_⟩, o4⟩, ?_, by show (p.tests.length : Int) ≤ takeA T (mk2 T a) 1; omega⟩
    · have := i5.1.2
      simp only [List.length_append, List.length_cons, List.length_nil]
      omega
    · rw [List.mem_append, List.mem_singleton] at hs
      rcases hs with hs | rfl
      · exact o3.2 s hs
      · exact takeS_le hx _ _
    · show ((p.cls ++ [takeS T (mk2 T a) 1]).length : Int) ≤ takeA T (mk2 T a) 1
      simp only [List.length_append, List.length_cons, List.length_nil]
      omega
  by_cases h4 : takeB T (mk2 T a) 15 = true
  · have e : (markV T a p).2 = ({ p with tests := p.tests ++ [(testM T (mk3 T a)).2.1] }, (testM T (mk3 T a)).2.2) := by
      unfold markV; rw [if_neg h1, if_neg h3, if_pos h4]
    have e1 : mk3 T a = mk2 T a + 1 := takeA_t h4
    obtain ⟨e2, i5⟩ := testM_ge i3
    rw [e]
    refine ⟨by show a < (testM T (mk3 T a)).2.2; omega, i5, ⟨o1, o2, o3, ⟨?_, fun s hs => ?_⟩⟩, by show (p.cls.length : Int) ≤ (testM T (mk3 T a)).2.2; omega, ?_⟩
    · have := i5.1.2
      simp only [List.length_append, List.length_cons, List.length_nil]
      omega
    · rw [List.mem_append, List.mem_singleton] at hs
      rcases hs with hs | rfl
      · exact o4.2 s hs
      · exact testM_le hx _
    · show ((p.tests ++ [(testM T (mk3 T a)).2.1]).length : Int) ≤ (testM T (mk3 T a)).2.2
      simp only [List.length_append, List.length_cons, List.length_nil]
      omega
  by_cases h5 : takeB T (mk3 T a) 10 = true
  · have i5 : InT T (takeA T (mk4 T a) 1) := takeA_in i4 (by decide)
    have e1 : mk4 T a = mk3 T a + 1 := takeA_t h5
    have e2 := takeA_ge T (mk4 T a) 1
    have e : ∃ n, (markV T a p).2 = ({ p with states := n }, takeA T (mk4 T a) 1) := by
      unfold markV; rw [if_neg h1, if_neg h3, if_neg h4, if_pos h5]
      split
      · exact ⟨_, rfl⟩
      · split
        · exact ⟨_, rfl⟩
        · split
          · exact ⟨_, rfl⟩
          · exact ⟨p.states, rfl⟩
    obtain ⟨n, e⟩ := e
    rw [e]
    exact ⟨by show a < takeA T (mk4 T a) 1; omega, i5, ⟨o1, o2, o3, o4⟩, by show (p.cls.length : Int) ≤ takeA T (mk4 T a) 1; omega, by show (p.tests.length : Int) ≤ takeA T (mk4 T a) 1; omega⟩
  · have e : (markV T a p).1 = 1 := by
      unfold markV; rw [if_neg h1, if_neg h3, if_neg h4, if_neg h5]
    rw [e] at h2
    cases h2
theorem marksV_2 {T : List TokV} {f0 : Int} {n : Nat} {a : Int} {p : PartV} (h : (markV T a p).1 = 2) : marksV T f0 (n + 1) a p = marksV T f0 n (markV T a p).2.2 (markV T a p).2.1 := by
  simp only [marksV, h]
theorem Sy.prt_loop (T : List TokV) (hT : limT T.length) (hx : ∀ i, (T.getD i tok0).text.size ≤ maxLen) (f0 : Int) : ∀ (n : Nat) (a : Int) (p : PartV), InT T a → PInv p a → T.length - a < n →
    LoopToT 3 Try.prog (theBody Try.prog 46 8) n (prtF f0) (pM T a p) (RG 3 fun ex F M => ex = .ret ∧ F = prtE f0 (marksV T f0 n a p).2.2 ∧ M = qRM T (marksV T f0 n a p).2.1 (ptB (marksV T f0 n a p).1) (marksV T f0 n a p).1) := by
  intro n
  induction n with
  | zero =>
    intro a p h hp hn
    have := h.1.2
    omega
  | succ n ih =>
    intro a p h hp hn
    have hl := hT
    unfold limT at hl
    have := h.1.2
    have := hp.2
    refine Sy.prt_step T hx a f0 p hp.1 n _ h ⟨by omega, by omega⟩ ?_
    unfold MarkC
    by_cases h2 : (markV T a p).1 = 2
    · rw [marksV_2 h2, h2]
      obtain ⟨q1, q2, q3⟩ := markV_in hT hx h hp h2
      exact ih _ _ q2 q3 (by omega)
    by_cases h1 : (markV T a p).1 = 1
    · have e : marksV T f0 (n + 1) a p = ((markV T a p).2.1, (markV T a p).2.2, !leI (markV T a p).2.2 f0 && !wrongB (markV T a p).2.1) := by simp only [marksV, h1]
      rw [e, h1]
      exact ⟨rfl, rfl, rfl⟩
    · have e : marksV T f0 (n + 1) a p = ((markV T a p).2.1, (markV T a p).2.2, false) := by
        simp only [marksV]
      rw [e]
      split
      · contradiction
      · contradiction
      · exact ⟨rfl, rfl, rfl⟩
end Go.Proofs.Ytconlneohilnmaa
namespace Go.Proofs.Ytconlneohilnmaa
open Go Go.RowKit Pl Sy
theorem Sy.LoopToT.nilc {T : Nat} {P : Program} {body : Code} {n : Nat} {F : Fr} {M : Mem} {G : Ex → Fr → Mem → Prop} (b i : Nat) (B : Blk) (e : TypeId) (s : Nat) (cell : Nat → Nat → AV) (hT : T ≤ M.top) (hb : M.get b = some B) (hi : B.cells[i]? = some (.lit (.slice none 0 0))) (h : LoopToT T P body n F ((M.push ⟨[], e, some ⟨0, s, cell⟩⟩).put b (some ⟨B.cells.set i (.own M.top 0 s), B.elem, B.rows⟩)) G) : LoopToT T P body n F M G := fun w0 ρ a w Q hF hW hQ => by
  obtain ⟨h1, h2, h3⟩ := hW.virt e s cell
  have hlt := Mem.get_lt hb
  have hlt' : b < (M.push ⟨[], e, some ⟨0, s, cell⟩⟩).top := by show b < M.top + 1; omega
  have h4 : WR w0 (nilled ρ M.top) ((M.push ⟨[], e, some ⟨0, s, cell⟩⟩).put b (some ⟨B.cells.set i (.own M.top 0 s), B.elem, B.rows⟩)) w := by
    refine WR.swap h3 (Nat.le_refl _) fun b' B' hb' => ?_
    rcases Mem.get_put hlt' hb' with ⟨rfl, hB⟩ | ⟨hne, hB⟩
    · simp at hB; subst hB
      refine ⟨B, by rw [Mem.get_push_old _ _ hlt]; exact hb, rfl, fun cur hH => ⟨fun k v hv => ?_, hH.2⟩, .inr (by intro h0; rw [h0] at hi; simp at hi)⟩
      simp only [List.getElem?_set] at hv
      by_cases hk : i = k
      · subst hk
        simp only [if_true] at hv
        split at hv
        · simp at hv; subst hv
          obtain ⟨u, q1, q2⟩ := hH.1 i _ hi
          refine ⟨u, q1, ?_⟩
          simp only [rel] at q2 ⊢
          exact .inl ⟨h2, trivial, q2⟩
        · cases hv
      · rw [if_neg hk] at hv
        exact hH.1 k v hv
    · exact ⟨B', hB, rfl, fun cur hH => hH, .inl rfl⟩
  refine h w0 _ a w Q ⟨hF.len, fun t v hv => (hF.val t v hv).ext h1, hF.defers⟩ h4 fun ex F' M' ρ' a' w' hg q1 q2 q3 => hQ ex F' M' ρ' a' w' hg ?_ q2 q3
  exact ⟨fun b g hb => q1.blk b g (by
      simp only [Sy.cutR] at hb ⊢
      split at hb
      · rename_i hlt; rw [if_pos hlt]; exact h1.blk b g hb
      · cases hb), fun b hb => q1.nil b (by
      simp only [Sy.cutR] at hb ⊢
      split at hb
      · rename_i hlt; rw [if_pos hlt]; exact h1.nil b hb
      · cases hb), fun g o v hv => q1.still g o v (h1.still g o v hv), q1.base.trans h1.base, q1.mine.trans h1.mine⟩
def RdOk (T : List TokV) : Prop := limT T.length ∧ ∀ i, (T.getD i tok0).text.size ≤ maxLen
namespace Sy
abbrev p0V (c : Int) (s : ByteArray) : PartV := ⟨c, s, ⟨⟨[]⟩⟩, [], [], 0⟩
abbrev nM (T : List TokV) (a c : Int) (s : ByteArray) (k : Nat) : Mem := ⟨3, k, [some ⟨[int c, .lit (.string s), .lit (.string ⟨⟨[]⟩⟩), .lit (.slice none 0 0), .lit (.slice none 0 0), int 0], 55, none⟩, some zB, some (rdB T a)]⟩
theorem pM_nil {P : Program} {body : Code} {n : Nat} {F : Fr} {G : Ex → Fr → Mem → Prop} (T : List TokV) (a c : Int) (s : ByteArray) (k : Nat) (h : LoopToT 3 P body n F (pM T a (p0V c s)) G) : LoopTo P body n F (nM T a c s k) G := by
  refine LoopToT.to (T := 3) ?_ (Nat.le_refl _)
  refine LoopToT.nilc 2 3 _ 9 1 (strC []) (Nat.le_refl _) rfl rfl ?_
  refine LoopToT.nilc 2 4 _ 79 3 (tstC []) (show 3 ≤ 4 by decide) rfl rfl ?_
  exact LoopToT.stamp 0 h
structure PrX where
  f0 : Int
  a : Int
  c : Int
  s : ByteArray
  k : Nat
noncomputable def prGet (F : Fr) (M : Mem) : Option PrX := match slotI F 7, M.bs with
  | some f0, [some ⟨.lit (.int .i64 c) :: .lit (.string s) :: _, _, _⟩, _, some ⟨[_, .lit (.int .i64 a)], _, _⟩] => some ⟨f0, a, c, s, M.stamp⟩
  | _, _ => none
end Sy
def prtV (T : List TokV) (f0 a c : Int) (s : ByteArray) : PartV × Int × Bool := marksV T f0 (T.length + 1) a (p0V c s)
namespace Sy
noncomputable abbrev lpPrt (T : List TokV) : Lp Try.prog where
  f := 46
  key := 8
  S := formS prGet (fun x => prtF x.f0) (fun x => nM T x.a x.c x.s x.k) (fun x => RdOk T ∧ InT T x.a ∧ x.s.size ≤ maxLen) (fun x => .leaf (.ret, prtE x.f0 (prtV T x.f0 x.a x.c x.s).2.2, qRM T (prtV T x.f0 x.a x.c x.s).2.1 (ptB (prtV T x.f0 x.a x.c x.s).1) (prtV T x.f0 x.a x.c x.s).1)) (true :: false :: false :: false :: true :: true :: true :: true :: false :: false :: true :: (ff42 []))
  one := by kernel_rfl
  ok := formS_ok fun x ⟨h1, h2, h3⟩ => by
    refine ⟨T.length + 1, ?_⟩
    have key := LoopToT.out (prt_loop T h1.1 h1.2 x.f0 (T.length + 1) x.a (p0V x.c x.s) h2 ⟨⟨h3, Nat.zero_le _, ⟨Nat.zero_le _, fun s hs => by cases hs⟩, ⟨Nat.zero_le _, fun s hs => by cases hs⟩⟩, h2.1.1, h2.1.1⟩ (by have := h2.1; omega))
    refine (pM_nil T x.a x.c x.s x.k key).mono fun ex F M hg => ?_
    obtain ⟨rfl, rfl, rfl⟩ := hg
    rfl
end Sy
def rprtV (T : List TokV) (a c : Int) : PartV × Int × Bool := if takeB T a 1 = true then prtV T a (takeA T a 1) c (takeS T a 1) else prtV T a (signA T (takeA T a 1) ⟨⟨[42]⟩⟩) c ⟨⟨[]⟩⟩
theorem Sy.prt_t (T : List TokV) (hT : RdOk T) (a c : Int) (h : InT T a) : CallTo Try.prog 46 [.ptr 0 0, int c] (rdM T a) fun v M' => Frz true 1 M' v (.tup [partG (rprtV T a c).1, boo (rprtV T a c).2.2]) ∧ M'.get 0 = some (rdB T (rprtV T a c).2.1) :=
  to (G := fun r => Frz true 1 r.2 r.1 (.tup [partG (rprtV T a c).1, boo (rprtV T a c).2.2]) ∧ r.2.get 0 = some (rdB T (rprtV T a c).2.1)) [cTake T, cSign T] [lpPrt T] 400 30 (.yes (.br .done (.yes .done))) (let e1 := (@Value.tuple (@Array.mk _ [])); let e2 := (@AV.view (T).length 3 (fun y0 => (fun y1 => (@AV.lit ([(@Value.int IntKind.i64 ((T.getD y0 tok0)).kind), (@Value.string ((T.getD y0 tok0)).text), (@Value.int IntKind.i64 ((T.getD y0 tok0)).n)].getD y1 e1))))); let e3 := (some (@Blk.mk [e2, (int a)] 63 none)); let e4 := (((some (@AV.ptr 0 0)) :: none :: (none :: none :: (some (@AV.ptr 1 0)) :: (some (boo false)) :: (some (@AV.ptr (1 + 1) 0)) :: (some (int a)) :: none :: none :: (some (@AV.fn (@Fn.func 75) [(@AV.ptr 0 0)] [])) :: (nn42 []))) = ((some (@AV.ptr 0 0)) :: none :: none :: none :: (some (@AV.ptr 1 0)) :: (some (boo false)) :: (some (@AV.ptr 2 0)) :: (some (int a)) :: none :: none :: (some (@AV.fn (@Fn.func markF) [(@AV.ptr 0 0)] [])) :: (nn42 []))); let e5 := (((0 + 1) + 1) + 1); let e6 := (@takeS T a (1 : Int)); let e7 := (@AV.lit (@Value.string e6)); let e8 := (@ByteArray.mk (@Array.mk _ [])); let e9 := (@Value.string e8); let e10 := (@AV.lit e9); let e11 := (@Value.slice none 0 0); let e12 := (@AV.lit e11); let e13 := (int (0 : Int)); let e14 := (@Value.int IntKind.i64 (0 : Int)); let e15 := ((int c) :: (e10 :: e10 :: e12 :: e12 :: e13 :: (@List.drop _ (0 + (((int c) :: (@List.drop _ (0 + ([(int c)]).length) (@List.map _ _ AV.lit (@Array.toList _ (@Array.mk _ [e14, e9, e9, e11, e11, e14])))))).length) [e13, e10, e10, e12, e12, e13]))); let e16 := (some (@Blk.mk [e13, e10, e10, e12, e12, e13] 55 none)); let e17 := (@takeA T a (1 : Int)); let e18 := (some (@Blk.mk [e2, (int e17)] 63 none)); let e19 := (((@prtV T a e17 c e6)).fst); let e20 := (@AV.lit (@Value.string e19.tag)); let e21 := (@AV.lit (@Value.string e19.id)); let e22 := (@AV.own 3 (e19.cls).length 1); let e23 := (@AV.own 4 (e19.tests).length 3); let e24 := (some (@Blk.mk [(int e19.comb), e20, e21, e22, e23, (int e19.states)] 55 none)); let e25 := (@ByteArray.mk (@Array.mk _ [(42 : UInt8)])); let e26 := (@AV.lit (@Value.string e25)); let e27 := (@signA T e17 e25); let e28 := (some (@Blk.mk [e2, (int e27)] 63 none)); let e29 := (((@prtV T a e27 c e8)).fst); let e30 := (@AV.lit (@Value.string e29.tag)); let e31 := (@AV.lit (@Value.string e29.id)); let e32 := (@AV.own 3 (e29.cls).length 1); let e33 := (@AV.own 4 (e29.tests).length 3); let e34 := (some (@Blk.mk [(int e29.comb), e30, e31, e32, e33, (int e29.states)] 55 none)); (.need (@isSo (@And (e3 = e3) (@And ([(int (1 : Int))] = [(int (1 : Int))]) (@And (@InT T a) (@Not ((1 : Int) = (0 : Int))))))) (.fork (@takeB T a (1 : Int)) (.need (@isSo (@And e4 ((@Mem.mk ((1 + 1) + 1) e5 [(some (@Blk.mk ((int c) :: (e7 :: (@List.drop _ (1 + ([e7]).length) e15))) 55 none)), e16, e18]) = (@Mem.mk 3 e5 [(some (@Blk.mk [(int c), e7, e10, e12, e12, e13] 55 none)), (some zB), e18])))) (.need (@isSo (@And (@RdOk T) (@And (@InT T e17) ((@ByteArray.size e6) ≤ 9223372036854775807)))) (.leaf ((@AV.tup [(@AV.agg [(int e19.comb), e20, e21, e22, e23, (int e19.states)]), (boo (((@prtV T a e17 c e6)).snd).snd)]), (@Mem.mk 5 0 [(some (@Blk.mk [] 79 (some (@Rw.mk (e19.tests).length 3 (fun y0 => (fun y1 => (@AV.lit ([(@Value.string ((e19.tests.getD y0 testNone)).name), (@Value.bool ((e19.tests.getD y0 testNone)).equal), (@Value.string ((e19.tests.getD y0 testNone)).value)].getD y1 e1)))))))), (some (@Blk.mk [] 9 (some (@Rw.mk (e19.cls).length 1 (fun y0 => (fun y1 => (@AV.lit ([(@Value.string (e19.cls.getD y0 e8))].getD y1 e1)))))))), e24, e24, (some (@Blk.mk [e2, (int (((@prtV T a e17 c e6)).snd).fst)] 63 none))]))))) (.need (@isSo (@And (e18 = e18) (@And ([e26] = [e26]) (@InT T e17)))) (.need (@isSo (@And e4 ((@Mem.mk ((1 + 1) + 1) e5 [(some (@Blk.mk e15 55 none)), e16, e28]) = (@Mem.mk 3 e5 [(some (@Blk.mk [(int c), e10, e10, e12, e12, e13] 55 none)), (some zB), e28])))) (.need (@isSo (@And (@RdOk T) (@And (@InT T e27) ((@ByteArray.size e8) ≤ 9223372036854775807)))) (.leaf ((@AV.tup [(@AV.agg [(int e29.comb), e30, e31, e32, e33, (int e29.states)]), (boo (((@prtV T a e27 c e8)).snd).snd)]), (@Mem.mk 5 0 [(some (@Blk.mk [] 79 (some (@Rw.mk (e29.tests).length 3 (fun y0 => (fun y1 => (@AV.lit ([(@Value.string ((e29.tests.getD y0 testNone)).name), (@Value.bool ((e29.tests.getD y0 testNone)).equal), (@Value.string ((e29.tests.getD y0 testNone)).value)].getD y1 e1)))))))), (some (@Blk.mk [] 9 (some (@Rw.mk (e29.cls).length 1 (fun y0 => (fun y1 => (@AV.lit ([(@Value.string (e29.cls.getD y0 e8))].getD y1 e1)))))))), e34, e34, (some (@Blk.mk [e2, (int (((@prtV T a e27 c e8)).snd).fst)] 63 none))]))))))))) (by kernel_rfl) (by
    have i1 : InT T (takeA T a 1) := takeA_in h (by decide)
    have i2 : InT T (signA T (takeA T a 1) ⟨⟨[42]⟩⟩) := signA_in i1
    have fin : ∀ (M : Mem) (x : PartV × Int × Bool) c1 c2, M.get 3 = some ⟨[], 9, some ⟨x.1.cls.length, 1, c1⟩⟩ → M.get 4 = some ⟨[], 79, some ⟨x.1.tests.length, 3, c2⟩⟩ → (∀ i j, c1 i j = strC x.1.cls i j) → (∀ i j, c2 i j = tstC x.1.tests i j) → Frz true 1 M (.tup [.agg [int x.1.comb, .lit (.string x.1.tag), .lit (.string x.1.id), .own 3 x.1.cls.length 1, .own 4 x.1.tests.length 3, int x.1.states], boo x.2.2]) (.tup [partG x.1, boo x.2.2]) := fun M x c1 c2 h1 h2 h3 h4 => Frz.tup ⟨Frz.agg ⟨Frz.lit _ _ _ _, Frz.lit _ _ _ _, Frz.lit _ _ _ _, Frz.own (by decide) h1 rfl (Nat.le_refl _) rfl fun i j _ _ => by show Frz _ _ _ (c1 i j) _; rw [h3]; exact Frz.lit _ _ _ _, Frz.own (by decide) h2 rfl (Nat.le_refl _) rfl fun i j _ _ => by show Frz _ _ _ (c2 i j) _; rw [h4]; exact Frz.lit _ _ _ _, Frz.lit _ _ _ _, trivial⟩, Frz.lit _ _ _ _, trivial⟩
    refine need_so ⟨rfl, rfl, h, by decide⟩ (fork_ok (fun h1 => need_so ⟨rfl, rfl⟩ (need_so ⟨hT, i1, takeS_le hT.2 _ _⟩ ?_)) (fun h1 => need_so ⟨rfl, rfl, i1⟩ (need_so ⟨rfl, rfl⟩ (need_so ⟨hT, i2, Nat.zero_le _⟩ ?_))))
    · unfold rprtV
      rw [if_pos h1]
      exact ⟨fin _ _ _ _ rfl rfl (fun _ _ => rfl) (fun _ _ => rfl), rfl⟩
    · unfold rprtV
      rw [if_neg (nt h1)]
      exact ⟨fin _ _ _ _ rfl rfl (fun _ _ => rfl) (fun _ _ => rfl), rfl⟩)
noncomputable abbrev Sy.cPart (T : List TokV) : Con Try.prog := conR T 46 (fun r => match r with | [.lit (.int .i64 c)] => some c | _ => none) (fun c => [int c]) (fun a c => .tup [partG (rprtV T a c).1, boo (rprtV T a c).2.2]) (fun a c => (rprtV T a c).2.1) (fun a _ => InT T a ∧ RdOk T) fun a c h =>
  ⟨⟨⟨trivial, trivial⟩, ⟨partG_free _, trivial, trivial⟩⟩, prt_t T h.2 a c h.1⟩
end Go.Proofs.Ytconlneohilnmaa
namespace Go.Proofs.Ytconlneohilnmaa
open Go Go.RowKit Pl Sy
namespace Sy
def PRows (n : Nat) (c : Nat → Nat → AV) (ps : List PartV) : Prop := n = ps.length ∧ ∀ i j, i < n → j < 6 → c i j = pcell ps i j
theorem PRows.base (ps : List PartV) : PRows ps.length (pcell ps) ps := ⟨rfl, fun _ _ _ _ => rfl⟩
theorem PRows.app1 {n : Nat} {c c' : Nat → Nat → AV} {ps : List PartV} (p : PartV) (h : PRows n c ps) (hx : ∀ j, j < 6 → c' 0 j = partA p j) : PRows (n + 1) (appc n c c') (ps ++ [p]) := ⟨by rw [h.1]; simp, fun i j hi hj => by
  have hl := h.1
  by_cases hlt : i < n
  · rw [appc_lt hlt, h.2 i j hlt hj]
    have : (ps ++ [p]).getD i partNone = ps.getD i partNone := by
      simp only [List.getD_eq_getElem?_getD]
      rw [List.getElem?_append_left (by omega)]
    unfold pcell
    rw [this]
  · have e : i = n := by omega
    subst e
    rw [appc_ge (Nat.le_refl _), Nat.sub_self, hx j hj]
    have : (ps ++ [p]).getD i partNone = p := by
      simp only [List.getD_eq_getElem?_getD]
      rw [List.getElem?_append_right (by omega), hl, Nat.sub_self]; rfl
    unfold pcell
    rw [this]⟩
abbrev selB (b n : Nat) : Blk := ⟨[.own b n 6], 43, none⟩
abbrev zS : Blk := ⟨[.lit (.slice none 0 0)], 43, none⟩
abbrev pgB (p : PartV) : Blk := ⟨[int p.comb, .lit (.string p.tag), .lit (.string p.id), cview p.cls, tview p.tests, int p.states], 55, none⟩
abbrev slM (T : List TokV) (a : Int) (R : Blk) (ps : List PartV) (p : PartV) : Mem := ⟨5, 0, [some ⟨[], 55, some ⟨ps.length, 6, pcell ps⟩⟩, some (pgB p), some (selB 4 ps.length), some R, some (rdB T a)]⟩
abbrev slF (r ok : Bool) : Fr := (some (.ptr 0 0) :: none :: some (.ptr 1 0) :: some (boo r) :: some (.ptr 2 0) :: some (.ptr 3 0) :: some (boo ok) :: (nn40 []))
end Sy
namespace Sy
theorem slM_ren {M : Mem} {l : List Nat} {b n : Nat} {c : Nat → Nat → AV} {T : List TokV} {a a' : Int} {R R' : Blk} {ps : List PartV} {p : PartV} (hl : l = [0, 1, 2, 3, b]) (hn : 4 ≤ b) (h0 : M.get 0 = some (rdB T a')) (ha : a' = a) (h1 : M.get 1 = some R') (hR : RenB (nm l) R' R) (h2 : M.get 2 = some (selB b n)) (h3 : M.get 3 = some (pgB p)) (h4 : M.get b = some ⟨[], 55, some ⟨n, 6, c⟩⟩) (e1 : PRows n c ps) : RenM (nm l) M (slM T a R ps p) := by
  subst hl ha
  refine .of rfl rfl (by simp; omega) ⟨⟨b, _, rfl, h4, rfl, trivial, e1.1.symm, rfl, fun i j hi hj => ?_⟩, ⟨3, _, rfl, h3, rfl, ⟨rfl, rfl, rfl, RenV.free _ (viewOf_free strCells ⟨#[]⟩ 1 _), RenV.free _ (viewOf_free TestV.cells testNone 3 _), rfl, trivial⟩, trivial⟩, ⟨2, _, rfl, h2, rfl, ⟨⟨rfl, e1.1, rfl⟩, trivial⟩, trivial⟩, ⟨1, _, rfl, h1, hR⟩, ⟨0, _, rfl, h0, rfl, ⟨RenV.free _ (kv_free T), rfl, trivial⟩, trivial⟩, trivial⟩
  show RenV _ (c i j) (pcell ps i j)
  rw [e1.2 i j (by have := e1.1; change i < ps.length at hi; omega) hj]
  exact RenV.free _ (partA_free _ j)
theorem zS_ren (σ : Nat → Option Nat) : RenB σ zS zS := ⟨rfl, ⟨rfl, trivial⟩, trivial⟩
theorem selB_ren {b n m : Nat} (e : n = m) : RenB (nm [0, 1, 2, 3, b]) (selB b n) (selB 4 m) := ⟨rfl, ⟨⟨rfl, e, rfl⟩, trivial⟩, trivial⟩
theorem slF_ren (r ok : Bool) (b : Nat) : RenF (nm [0, 1, 2, 3, b]) (slF r ok) (slF r ok) := by
  simp [RenF, RenV, RenVs, nm]
end Sy
structure SelE where
  ret : Bool
  r : Bool
  ok : Bool
  ps : List PartV
  p : PartV
  a : Int
def selsV (T : List TokV) : Nat → Int → Bool → List PartV → PartV → SelE
  | 0, a, ok, ps, p => ⟨false, false, ok, ps, p, a⟩
  | n + 1, a, ok, ps, p => if ok = true then
      if eqI a T.length = true then ⟨true, leI (ps.length + 1 : Nat) 8, ok, ps ++ [p], p, a⟩
      else if eqI (cmbI T a) 0 = true then ⟨true, false, ok, ps ++ [p], p, cmbA T a⟩
      else selsV T n (rprtV T (cmbA T a) (cmbI T a)).2.1 (rprtV T (cmbA T a) (cmbI T a)).2.2 (ps ++ [p]) (rprtV T (cmbA T a) (cmbI T a)).1
    else ⟨false, false, ok, ps, p, a⟩
theorem markV_ge {T : List TokV} {a : Int} {p : PartV} (h : InT T a) : a ≤ (markV T a p).2.2 ∧ InT T (markV T a p).2.2 := by
  have i1 : InT T (mk1 T a) := takeA_in h (by decide)
  have i2 : InT T (mk2 T a) := signA_in i1
  have i3 : InT T (mk3 T a) := takeA_in i2 (by decide)
  have i4 : InT T (mk4 T a) := takeA_in i3 (by decide)
  have i5 : InT T (takeA T (mk4 T a) 1) := takeA_in i4 (by decide)
  have i6 : InT T (takeA T (mk2 T a) 1) := takeA_in i2 (by decide)
  obtain ⟨k7, i7⟩ := testM_ge i3
  have k1 : a ≤ mk1 T a := takeA_ge T _ _
  have k2 : mk1 T a ≤ mk2 T a := signA_ge T _ _
  have k3 : mk2 T a ≤ mk3 T a := takeA_ge T _ _
  have k4 : mk3 T a ≤ mk4 T a := takeA_ge T _ _
  have k5 := takeA_ge T (mk4 T a) 1
  have k6 := takeA_ge T (mk2 T a) 1
  have e : (markV T a p).2.2 = mk1 T a ∨ (markV T a p).2.2 = takeA T (mk2 T a) 1 ∨ (markV T a p).2.2 = (testM T (mk3 T a)).2.2 ∨ (markV T a p).2.2 = takeA T (mk4 T a) 1 ∨ (markV T a p).2.2 = mk4 T a := by
    unfold markV
    repeat' split
    all_goals first | exact .inl rfl | exact .inr (.inl rfl) | exact .inr (.inr (.inl rfl)) | exact .inr (.inr (.inr (.inl rfl))) | exact .inr (.inr (.inr (.inr rfl)))
  rcases e with e | e | e | e | e <;> rw [e]
  · exact ⟨by omega, i1⟩
  · exact ⟨by omega, i6⟩
  · exact ⟨by omega, i7⟩
  · exact ⟨by omega, i5⟩
  · exact ⟨by omega, i4⟩
theorem marksV_ge {T : List TokV} {f0 : Int} : ∀ (n : Nat) (a : Int) (p : PartV), InT T a → a ≤ (marksV T f0 n a p).2.1 ∧ InT T (marksV T f0 n a p).2.1
  | 0, a, p, h => ⟨Int.le_refl _, h⟩
  | n + 1, a, p, h => by
    obtain ⟨q1, q2⟩ := markV_ge (p := p) h
    unfold marksV
    split
    · have := marksV_ge (f0 := f0) n _ (markV T a p).2.1 q2
      exact ⟨by omega, this.2⟩
    · exact ⟨q1, q2⟩
    · exact ⟨q1, q2⟩
theorem rprtV_ge {T : List TokV} {a c : Int} (h : InT T a) : a ≤ (rprtV T a c).2.1 ∧ InT T (rprtV T a c).2.1 := by
  have i1 : InT T (takeA T a 1) := takeA_in h (by decide)
  have k1 := takeA_ge T a 1
  have i2 : InT T (signA T (takeA T a 1) ⟨⟨[42]⟩⟩) := signA_in i1
  have k2 := signA_ge T (takeA T a 1) ⟨⟨[42]⟩⟩
  unfold rprtV prtV
  split
  · have := marksV_ge (f0 := a) (T.length + 1) _ (p0V c (takeS T a 1)) i1
    exact ⟨by omega, this.2⟩
  · have := marksV_ge (f0 := a) (T.length + 1) _ (p0V c ⟨⟨[]⟩⟩) i2
    exact ⟨by omega, this.2⟩
theorem cmbA_gt {T : List TokV} {a : Int} (h : InT T a) (hc : cmbI T a ≠ 0) : a < cmbA T a := by
  have h1 : InT T (cmB1 T a) := signA_in (skI_in h)
  have h2 : InT T (cmB2 T a) := signA_in h1
  have h3 : InT T (cmB3 T a) := signA_in h2
  have k0 := (skI_le h.1.1 h.1.2).1
  have k1 : skI T a ≤ cmB1 T a := signA_ge T _ _
  have k2 : cmB1 T a ≤ cmB2 T a := signA_ge T _ _
  have k3 : cmB2 T a ≤ cmB3 T a := signA_ge T _ _
  have l1 := (skI_le h1.1.1 h1.1.2).1
  have l2 := (skI_le h2.1.1 h2.1.2).1
  have l3 := (skI_le h3.1.1 h3.1.2).1
  unfold cmbI at hc
  unfold cmbA
  split
  · rename_i e
    have : cmB1 T a = skI T a + 1 := signA_t e
    omega
  · rename_i e1
    rw [if_neg e1] at hc
    split
    · rename_i e
      have : cmB2 T a = cmB1 T a + 1 := signA_t e
      omega
    · rename_i e2
      rw [if_neg e2] at hc
      split
      · rename_i e
        have : cmB3 T a = cmB2 T a + 1 := signA_t e
        omega
      · rename_i e3
        rw [if_neg e3] at hc
        split at hc
        · exact absurd rfl hc
        · rename_i e4
          rw [Bool.not_eq_true, leI_f] at e4
          omega
theorem room3 {n k : Nat} (h : n ≤ 1000000) (hk : k ≤ 100) : (Bool.true && (Nat.ble n n && (Nat.ble ((n + 1) * k) 140737488355328 && Nat.ble (n + 1) 17592186044416))) = true := by
  have h1 : (n + 1) * k ≤ 1000001 * 100 := Nat.mul_le_mul (by omega) hk
  simp only [Bool.and_eq_true, Nat.ble_eq]
  exact ⟨trivial, Nat.le_refl _, by generalize (n + 1) * k = x at h1; omega, by omega⟩
namespace Sy
def SelG (T : List TokV) (x : SelE) (ex : Ex) (F : Fr) (M : Mem) : Prop := (x.ret = true ∧ ex = .ret ∧ F = slF x.r x.ok ∧ M = slM T x.a (selB 4 x.ps.length) x.ps x.p) ∨ (x.ret = false ∧ ex = .exit 0 ∧ F = slF false x.ok ∧ M = slM T x.a zS x.ps x.p)
theorem rsel_loop (T : List TokV) (hT : RdOk T) : ∀ (n : Nat) (a : Int) (ok : Bool) (ps : List PartV) (p : PartV), InT T a → (ps.length : Int) ≤ a → T.length - a < n →
    LoopToT 4 Try.prog (theBody Try.prog 26 4) n (slF false ok) (slM T a zS ps p) (RG 4 (SelG T (selsV T n a ok ps p))) := by
  intro n
  induction n with
  | zero =>
    intro a ok ps p h hp hn
    have := h.1.2
    omega
  | succ n ih =>
    intro a ok ps p h hp hn
    have hl := hT.1
    unfold limT at hl
    have hle := h.1.2
    have hb := PRows.base ps
    refine roundT plain mixed 4 [cPart T, cRComb T] [] 400 30 26 4 Try.func26 rfl (by kernel_rfl) (true :: false :: true :: true :: true :: true :: true :: (ff40 [])) (.br (.yes (.br .done (.yes (.br .done (.yes .done))))) .done) (let e1 := ((ps).length + 1); let e2 := (some (@AV.ptr 0 0)); let e3 := (some (@AV.ptr 1 0)); let e4 := (some (@AV.ptr 2 0)); let e5 := (some (@AV.ptr 3 0)); let e6 := (@AV.lit (@Value.string (p).tag)); let e7 := (@AV.lit (@Value.string (p).id)); let e8 := (cview ((p).cls)); let e9 := (tview ((p).tests)); let e10 := (@Value.int IntKind.i64 (0 : Int)); let e11 := (@Value.string (@ByteArray.mk (@Array.mk _ []))); let e12 := (@Array.toList _ (@Array.mk _ [e10, e11, e11, (@Value.slice none 0 0), (@Value.slice none 0 0), e10])); let e13 := ((int (p).comb) :: e6 :: e7 :: e8 :: e9 :: (int (p).states) :: (@List.drop _ (0 + ([(int (p).comb), e6, e7, e8, e9, (int (p).states)]).length) (@List.map _ _ AV.lit (@Array.toList _ (@Array.mk _ [(@List.get _ e12 (@Fin.mk _ 0 (@Nat.le_of_ble_eq_true _ _ (@Eq.refl _ true)))), (@List.get _ e12 (@Fin.mk _ 1 (@Nat.le_of_ble_eq_true _ _ (@Eq.refl _ true)))), (@List.get _ e12 (@Fin.mk _ 2 (@Nat.le_of_ble_eq_true _ _ (@Eq.refl _ true)))), (@List.get _ e12 (@Fin.mk _ 3 (@Nat.le_of_ble_eq_true _ _ (@Eq.refl _ true)))), (@List.get _ e12 (@Fin.mk _ 4 (@Nat.le_of_ble_eq_true _ _ (@Eq.refl _ true)))), (@List.get _ e12 (@Fin.mk _ 5 (@Nat.le_of_ble_eq_true _ _ (@Eq.refl _ true))))]))))); let e14 := (some (@Blk.mk [] 55 (some (@Rw.mk e1 6 (@appc (ps).length (@pcell ps) (fun y0 => (fun y1 => (@getA (@List.take _ 6 e13) ((y0 * 6) + y1))))))))); let e15 := (some (@Blk.mk e13 55 none)); let e16 := (some (@Blk.mk [(int (p).comb), e6, e7, e8, e9, (int (p).states)] 55 none)); let e17 := (some (@Blk.mk [(@AV.own (5 + 1) e1 6)] 43 none)); let e18 := (@AV.view (T).length 3 (fun y0 => (fun y1 => (@AV.lit ([(@Value.int IntKind.i64 ((T.getD y0 tok0)).kind), (@Value.string ((T.getD y0 tok0)).text), (@Value.int IntKind.i64 ((T.getD y0 tok0)).n)].getD y1 (@Value.tuple (@Array.mk _ []))))))); let e19 := (some (@Blk.mk [e18, (int a)] 63 none)); let e20 := (some (boo false)); let e21 := (some (@Blk.mk [e18, (int (@cmbA T a))] 63 none)); let e22 := (((@rprtV T (@cmbA T a) (@cmbI T a))).snd); let e23 := (((@rprtV T (@cmbA T a) (@cmbI T a))).fst); (.fork ok (.need (Bool.true && ((@Nat.ble (ps).length (ps).length) && ((@Nat.ble (e1 * 96) 140737488355328) && (@Nat.ble e1 17592186044416)))) (.fork (eqI a (((T).length : Nat) : Int)) (.leaf (Ex.ret, ((e2 :: none :: e3 :: (some (boo (leI ((e1 : Nat) : Int) (8 : Int)))) :: e4 :: e5 :: (some (boo ok)) :: (nn40 [])), (@Mem.mk ((5 + 1) + 1) (((0 + 1) + 1) + 1) (e14 :: [e15, none, e16, e17, e17, e19]))))) (.need (@isSo (@And (e19 = e19) (@And (([] : List AV) = []) (@InT T a)))) (.fork (eqI (@cmbI T a) (0 : Int)) (.leaf (Ex.ret, ((e2 :: none :: e3 :: e20 :: e4 :: e5 :: (some (boo ok)) :: (nn40 [])), (@Mem.mk ((5 + 1) + 1) ((((0 + 1) + 1) + 1) + 1) (e14 :: [e15, none, e16, e17, e17, e21]))))) (.need (@isSo (@And (e21 = e21) (@And ([(int (@cmbI T a))] = [(int (@cmbI T a))]) (@And (@InT T (@cmbA T a)) (@RdOk T))))) (.leaf (Ex.norm, ((e2 :: none :: e3 :: e20 :: e4 :: e5 :: (some (boo e22.snd)) :: (nn40 [])), (@Mem.mk ((5 + 1) + 1) (((((0 + 1) + 1) + 1) + 1) + 1) (e14 :: [e15, none, (some (@Blk.mk [(int e23.comb), (@AV.lit (@Value.string e23.tag)), (@AV.lit (@Value.string e23.id)), (cview (e23.cls)), (tview (e23.tests)), (int e23.states)] 55 none)), e17, (some zS), (some (@Blk.mk [e18, (int e22.fst)] 63 none))])))))))))) (.leaf ((@Ex.exit 0), ((e2 :: none :: e3 :: e20 :: e4 :: e5 :: (some (boo ok)) :: (nn40 [])), (@Mem.mk 5 0 [(some (@Blk.mk [] 55 (some (@Rw.mk (ps).length 6 (@pcell ps))))), e16, (some (@Blk.mk [(@AV.own 4 (ps).length 6)] 43 none)), (some zS), e19])))))) (by kernel_rfl) ?_
    refine fork_ok (fun h1 => need_t (room3 (by omega) (by decide)) (fork_ok (fun h2 => ?_) (fun h2 => need_so ⟨rfl, rfl, h⟩ (fork_ok (fun h3 => ?_) (fun h3 => need_so ⟨rfl, rfl, cmbA_in h, hT⟩ ?_))))) (fun h1 => ?_)
    · have e : selsV T (n + 1) a ok ps p = ⟨true, leI (ps.length + 1 : Nat) 8, ok, ps ++ [p], p, a⟩ := by
        unfold selsV; rw [if_pos h1, if_pos h2]
      rw [e]
      exact ⟨_, _, [0, 1, 2, 3, 6], rfl, slF_ren _ ok 6, slM_ren (ps := ps ++ [p]) (p := p) rfl (by decide) rfl rfl rfl (selB_ren (by simp)) rfl rfl rfl (hb.app1 p fun j hj => by
        rcases j with _ | _ | _ | _ | _ | _ | j
        · rfl
        · rfl
        · rfl
        · rfl
        · rfl
        · rfl
        · omega), .inl ⟨rfl, rfl, rfl, rfl⟩⟩
    · have e : selsV T (n + 1) a ok ps p = ⟨true, false, ok, ps ++ [p], p, cmbA T a⟩ := by
        unfold selsV; rw [if_pos h1, if_neg (nt h2), if_pos h3]
      rw [e]
      exact ⟨_, _, [0, 1, 2, 3, 6], rfl, slF_ren _ ok 6, slM_ren (ps := ps ++ [p]) (p := p) rfl (by decide) rfl rfl rfl (selB_ren (by simp)) rfl rfl rfl (hb.app1 p fun j hj => by
        rcases j with _ | _ | _ | _ | _ | _ | j
        · rfl
        · rfl
        · rfl
        · rfl
        · rfl
        · rfl
        · omega), .inl ⟨rfl, rfl, rfl, rfl⟩⟩
    · have e : selsV T (n + 1) a ok ps p = selsV T n (rprtV T (cmbA T a) (cmbI T a)).2.1 (rprtV T (cmbA T a) (cmbI T a)).2.2 (ps ++ [p]) (rprtV T (cmbA T a) (cmbI T a)).1 := by
        rw [selsV]; rw [if_pos h1, if_neg (nt h2), if_neg (nt h3)]
      rw [e]
      obtain ⟨g1, g2⟩ := rprtV_ge (c := cmbI T a) (cmbA_in h)
      have g3 := cmbA_gt h (by rw [eqI_f] at h3; exact h3)
      exact LoopToT.ren [0, 1, 2, 3, 6] rfl (slF_ren false _ 6) (slM_ren (ps := ps ++ [p]) (p := (rprtV T (cmbA T a) (cmbI T a)).1) rfl (by decide) rfl rfl rfl (zS_ren _) rfl rfl rfl (hb.app1 p fun j hj => by
        rcases j with _ | _ | _ | _ | _ | _ | j
        · rfl
        · rfl
        · rfl
        · rfl
        · rfl
        · rfl
        · omega)) (ih _ _ _ _ g2 (by simp only [List.length_append, List.length_cons, List.length_nil]; omega) (by omega))
    · have e : selsV T (n + 1) a ok ps p = ⟨false, false, ok, ps, p, a⟩ := by
        unfold selsV; rw [if_neg (nt h1)]
      rw [e]
      exact ⟨_, _, [0, 1, 2, 3, 4], rfl, slF_ren _ ok 4, slM_ren (ps := ps) (p := p) rfl (by decide) rfl rfl rfl (zS_ren _) rfl rfl rfl hb, .inr ⟨rfl, rfl, rfl, rfl⟩⟩
end Sy
end Go.Proofs.Ytconlneohilnmaa
namespace Go.Proofs.Ytconlneohilnmaa
open Go Go.RowKit Pl Sy
def rselV (T : List TokV) (a : Int) : SelE := selsV T (T.length + 1) (rprtV T a 0).2.1 (rprtV T a 0).2.2 [] (rprtV T a 0).1
namespace Sy
abbrev s0M (T : List TokV) (a : Int) (p : PartV) (k : Nat) : Mem := ⟨4, k, [some (pgB p), some zS, some zS, some (rdB T a)]⟩
theorem slM_nil {P : Program} {body : Code} {n : Nat} {F : Fr} {G : Ex → Fr → Mem → Prop} (T : List TokV) (a : Int) (p : PartV) (k : Nat) (h : LoopToT 4 P body n F (slM T a zS [] p) G) : LoopTo P body n F (s0M T a p k) G := by
  refine LoopToT.to (T := 4) ?_ (Nat.le_refl _)
  refine LoopToT.nilc 2 0 _ 55 6 (pcell []) (Nat.le_refl _) rfl rfl ?_
  exact LoopToT.stamp 0 h
noncomputable abbrev lpSel (T : List TokV) (a : Int) : Lp Try.prog where
  f := 26
  key := 4
  S := formS (fun _ M => some M.stamp) (fun _ => slF false (rprtV T a 0).2.2) (fun k => s0M T (rprtV T a 0).2.1 (rprtV T a 0).1 k) (fun _ => RdOk T ∧ InT T a) (fun _ => .fork (rselV T a).ret (.leaf (.ret, slF (rselV T a).r (rselV T a).ok, slM T (rselV T a).a (selB 4 (rselV T a).ps.length) (rselV T a).ps (rselV T a).p)) (.leaf (.exit 0, slF false (rselV T a).ok, slM T (rselV T a).a zS (rselV T a).ps (rselV T a).p))) (true :: false :: true :: true :: true :: true :: true :: (ff40 []))
  one := by kernel_rfl
  ok := formS_ok fun k ⟨h1, h2⟩ => by
    refine ⟨T.length + 1, ?_⟩
    obtain ⟨g1, g2⟩ := rprtV_ge (c := 0) h2
    have key := LoopToT.out (rsel_loop T h1 (T.length + 1) (rprtV T a 0).2.1 (rprtV T a 0).2.2 [] (rprtV T a 0).1 g2 (by have := g2.1.1; simpa using this) (by have := g2.1.1; omega))
    refine (slM_nil T _ _ k key).mono fun ex F M hg => ?_
    rcases hg with ⟨q, rfl, rfl, rfl⟩ | ⟨q, rfl, rfl, rfl⟩
    · exact .inl ⟨q, rfl⟩
    · exact .inr ⟨q, rfl⟩
end Sy
theorem Sy.rsel_t (T : List TokV) (hT : RdOk T) (a : Int) (h : InT T a) : CallTo Try.prog 26 [.ptr 0 0] (rdM T a) fun v M' => Frz true 1 M' v (.tup [.agg [pview (rselV T a).ps], boo ((rselV T a).ret && (rselV T a).r)]) ∧ M'.get 0 = some (rdB T (rselV T a).a) :=
  to (G := fun r => Frz true 1 r.2 r.1 (.tup [.agg [pview (rselV T a).ps], boo ((rselV T a).ret && (rselV T a).r)]) ∧ r.2.get 0 = some (rdB T (rselV T a).a)) [cPart T, cRComb T] [lpSel T a] 400 30 (.yes (.br .done .done)) (let e1 := (@AV.view (T).length 3 (fun y0 => (fun y1 => (@AV.lit ([(@Value.int IntKind.i64 ((T.getD y0 tok0)).kind), (@Value.string ((T.getD y0 tok0)).text), (@Value.int IntKind.i64 ((T.getD y0 tok0)).n)].getD y1 (@Value.tuple (@Array.mk _ []))))))); let e2 := (some (@Blk.mk [e1, (int a)] 63 none)); let e3 := (int (0 : Int)); let e4 := (((@rprtV T a (0 : Int))).snd); let e5 := (((@rprtV T a (0 : Int))).fst); let e6 := (@AV.lit (@Value.string e5.tag)); let e7 := (@AV.lit (@Value.string e5.id)); let e8 := (tview (e5.tests)); let e9 := (@AV.lit (@Value.string (@ByteArray.mk (@Array.mk _ [])))); let e10 := (@AV.lit (@Value.slice none 0 0)); let e11 := (some (@Blk.mk [e10] 43 none)); let e12 := (some (@Blk.mk [e1, (int e4.fst)] 63 none)); let e13 := (@AV.own 4 (((@rselV T a)).ps).length 6); let e14 := (some (@Blk.mk [] 55 (some (@Rw.mk (((@rselV T a)).ps).length 6 (@pcell ((@rselV T a)).ps))))); let e15 := (((@rselV T a)).p); let e16 := (some (@Blk.mk [(int e15.comb), (@AV.lit (@Value.string e15.tag)), (@AV.lit (@Value.string e15.id)), (cview (e15.cls)), (tview (e15.tests)), (int e15.states)] 55 none)); let e17 := (some (@Blk.mk [e13] 43 none)); let e18 := (some (@Blk.mk [e1, (int ((@rselV T a)).a)] 63 none)); (.need (@isSo (@And (e2 = e2) (@And ([e3] = [e3]) (@And (@InT T a) (@RdOk T))))) (.need (@isSo (@And (((some (@AV.ptr 0 0)) :: none :: (some (@AV.ptr 1 0)) :: (some (boo false)) :: (some (@AV.ptr (1 + 1) 0)) :: (some (@AV.ptr ((1 + 1) + 1) 0)) :: (some (boo e4.snd)) :: (nn40 [])) = ((some (@AV.ptr 0 0)) :: none :: (some (@AV.ptr 1 0)) :: (some (boo false)) :: (some (@AV.ptr 2 0)) :: (some (@AV.ptr 3 0)) :: (some (boo e4.snd)) :: (nn40 []))) ((@Mem.mk (((1 + 1) + 1) + 1) ((0 + 1) + 1) ((some (@Blk.mk ((int e5.comb) :: e6 :: e7 :: (cview (e5.cls)) :: e8 :: (int e5.states) :: (@List.drop _ (0 + ([(int e5.comb), e6, e7, (cview (e5.cls)), e8, (int e5.states)]).length) [e3, e9, e9, e10, e10, e3])) 55 none)) :: [e11, e11, e12])) = (@Mem.mk 4 ((0 + 1) + 1) [(some (@Blk.mk [(int e5.comb), e6, e7, (cview (e5.cls)), e8, (int e5.states)] 55 none)), (some zS), (some zS), e12])))) (.need (@isSo (@And (@RdOk T) (@InT T a))) (.fork ((@rselV T a)).ret (.leaf ((@AV.tup [(@AV.agg [e13]), (boo ((@rselV T a)).r)]), (@Mem.mk 5 0 [e14, e16, e17, e17, e18]))) (.leaf ((@AV.tup [(@AV.agg (@List.take _ 1 [e13])), (boo false)]), (@Mem.mk 5 (0 + 1) [e14, e16, e17, e17, e18])))))))) (by kernel_rfl) (by
    have fin : ∀ (M : Mem) (x : SelE) (r : Bool) c1, r = (x.ret && x.r) → M.get 4 = some ⟨[], 55, some ⟨x.ps.length, 6, c1⟩⟩ → (∀ i j, c1 i j = pcell x.ps i j) → Frz true 1 M (.tup [.agg [.own 4 x.ps.length 6], boo r]) (.tup [.agg [pview x.ps], boo (x.ret && x.r)]) := fun M x r c1 h0 h1 h2 => by
      rw [h0]
      exact Frz.tup ⟨Frz.agg ⟨Frz.own (by decide) h1 rfl (Nat.le_refl _) rfl fun i j _ _ => by
        show Frz _ _ _ (c1 i j) _
        rw [h2]; exact Frz.free _ _ (partA_free _ j), trivial⟩, Frz.lit _ _ _ _, trivial⟩
    refine need_so ⟨rfl, rfl, h, hT⟩ (need_so ⟨rfl, rfl⟩ (need_so ⟨hT, h⟩ (fork_ok (fun h1 => ?_) (fun h1 => ?_))))
    · exact ⟨fin _ (rselV T a) _ _ (by rw [h1]; rfl) rfl (fun _ _ => rfl), rfl⟩
    · exact ⟨fin _ (rselV T a) _ _ (by rw [h1]; rfl) rfl (fun _ _ => rfl), rfl⟩)
end Go.Proofs.Ytconlneohilnmaa
namespace Go.Proofs.Ytconlneohilnmaa
open Go Go.RowKit Pl Sy
abbrev Sy.bxk : AV := .vptr 1 (fun _ => int 12)
def comB (t : TokV) : Bool := eqI t.kind 12
theorem Sy.spl1_t (t : TokV) : CallTo Try.prog 42 [tokA t, bxk] M0 fun v _ => v = boo (comB t) :=
  toV [] [] 400 30 (.br (.auto 6 .done) (.auto 2 .done)) (.fork (eqI (t).kind (12 : Int)) (.leaf (boo true)) (.leaf (boo false))) (by kernel_rfl) (by
    unfold comB
    refine fork_ok (fun h => ?_) (fun h => ?_)
    · rw [h]; exact rfl
    · rw [h]; exact rfl)
noncomputable abbrev Sy.cSpl1 : Con Try.prog :=
  atX 42 (fun args => match args with | [.agg [.lit (.int .i64 a), .lit (.string s), .lit (.int .i64 c)], _] => some (⟨a, s, c⟩ : TokV) | _ => none) (fun t => [tokA t, bxk]) (fun t => boo (comB t)) (fun _ => True) fun t _ => ⟨⟨⟨⟨trivial, trivial, trivial, trivial⟩, fun j => trivial, trivial⟩, trivial⟩, spl1_t t⟩
namespace Sy
abbrev fkF (l : List TokV) (k : Int) : Fr := (some ((@AV.view (l).length 3 (fun x564010 => (fun x256573 => (@AV.lit ([(@Value.int IntKind.i64 ((l.getD x564010 tok0)).kind), (@Value.string ((l.getD x564010 tok0)).text), (@Value.int IntKind.i64 ((l.getD x564010 tok0)).n)].getD x256573 (@Value.tuple (@Array.mk _ [])))))))) :: some (int k) :: some ((@AV.fn (@Fn.func 42) [] [(@AV.vptr 1 (fun x989285 => (int (12 : Int))))])) :: (nn25 []))
end Sy
theorem Sy.firstk_scan (l : List TokV) (hl : lim l) : ∀ k, k ≤ l.length → LoopTo Try.prog (theBody Try.prog 69 2) (l.length - k + 1) (fkF l k) M0 fun ex F' M' => M' = M0 ∧ ((tops comB l k < l.length ∧ ex = .exit 0 ∧ F' = fkF l (tops comB l k : Nat)) ∨ (tops comB l k = l.length ∧ ex = .exit 0 ∧ F' = fkF l l.length)) :=
  hopL l.length (fun j => comB (tokAt l j)) (nxt l) (nxt_gt l) (nxt_le l) (fun k => fkF l k) (fun k => fkF l k) (fun _ => M0) (.exit 0) fun κ n G h0 c1 c2 c3 => by
    generalize hκ : (κ : Int) = k at *
    refine roundL [cMatch l, cSpl1] [] 400 30 69 2 Try.func69 rfl (by kernel_rfl) (true :: true :: true :: (ff25 [])) (.br (.auto 2 (.yes (.auto 1 (.yes (.auto 1 (.br (.yes .done) .done)))))) (.auto 7 .done)) (let e1 := (((l).length : Nat) : Int); let e2 := (@AV.agg [(int ((l.getD (k).toNat tok0)).kind), (@AV.lit (@Value.string ((l.getD (k).toNat tok0)).text)), (int ((l.getD (k).toNat tok0)).n)]); let e3 := (@AV.vptr 1 (fun y0 => (int (12 : Int)))); let e4 := (@AV.view (l).length 3 (fun y0 => (fun y1 => (@AV.lit ([(@Value.int IntKind.i64 ((l.getD y0 tok0)).kind), (@Value.string ((l.getD y0 tok0)).text), (@Value.int IntKind.i64 ((l.getD y0 tok0)).n)].getD y1 (@Value.tuple (@Array.mk _ []))))))); let e5 := (w64 ((@mtI l k) + (1 : Int))); let e6 := (some (@AV.fn (@Fn.func 42) [] [e3])); (.fork (!(leI e1 k)) (.need (@inR k (l).length) (.need (@isSo (@And ((@HAppend.hAppend _ _ _ _ (@HAppend.hAppend _ _ _ _ [] [e2]) [e3]) = [e2, e3]) True)) (.fork (!(@comB (@TokV.mk ((l.getD (k).toNat tok0)).kind ((l.getD (k).toNat tok0)).text ((l.getD (k).toNat tok0)).n))) (.need (@isSo (@And ((@HAppend.hAppend _ _ _ _ (@HAppend.hAppend _ _ _ _ [] [e4, (int k)]) []) = [e4, (int k)]) (@lim l))) (.leaf (Ex.norm, (((some e4) :: (some (int (if (e1 < e5) then e1 else e5))) :: e6 :: (nn25 [])), (@Mem.mk 0 0 []))))) (.leaf ((@Ex.exit 0), (((some e4) :: (some (int k)) :: e6 :: (nn25 [])), (@Mem.mk 0 0 []))))))) (.leaf ((@Ex.exit 0), (((some e4) :: (some (int k)) :: e6 :: (nn25 [])), (@Mem.mk 0 0 [])))))) (by kernel_rfl) ?_
    have hl' : l.length ≤ 17592186044416 := hl
    refine fork_ok (fun h => ?_) (fun h => ?_)
    · simp only [Bool.not_eq_true', Bool.not_eq_false', leI_t, leI_f, eqI_t, eqI_f, inR_t, inR_f, isSo_t, isSo_f] at h
      have hk : κ < l.length := by omega
      have hr : inR k l.length = true := by rw [inR_t]; omega
      have hm := mt_le hk
      have hκ' : tokAt l κ = l.getD k.toNat tok0 := by rw [← hκ]; rfl
      refine need_t hr (need_so ⟨rfl, trivial⟩ (fork_ok (fun h2 => need_so ⟨rfl, hl⟩ ?_) (fun h2 => c2 hk (by rw [hκ']; simpa using h2))))
      have e : (if ((l.length : Nat) : Int) < w64 (mtI l k + 1) then ((l.length : Nat) : Int) else w64 (mtI l k + 1)) = (nxt l κ : Nat) := by
        have e1 : mtI l k = (mt l κ : Int) := by rw [← hκ]; exact (mt_int l κ).1
        rw [e1, w64_in (r := (mt l κ : Int) + 1) (by omega)]
        unfold nxt
        split <;> omega
      have := c1 hk (by rw [hκ']; simpa using h2)
      rw [← e] at this
      exact this
    · simp only [Bool.not_eq_true', Bool.not_eq_false', leI_t, leI_f, eqI_t, eqI_f, inR_t, inR_f, isSo_t, isSo_f] at h
      have hk : κ = l.length := by omega
      have := c3 hk
      rw [← hk, hκ] at this
      exact this
namespace Sy
noncomputable abbrev lp_firstk (l : List TokV) : Lp Try.prog where
  f := 69
  key := 2
  S := formS (fun F M => slotI F 1) (fun k => fkF l k) (fun _ => M0) (fun k => lim l ∧ 0 ≤ k ∧ k ≤ l.length) (fun k => .leaf (.exit 0, fkF l (tops comB l k.toNat : Nat), M0)) (true :: true :: true :: (ff25 []))
  one := by kernel_rfl
  ok := formS_ok fun k ⟨h1, h2, h3⟩ => by
    obtain ⟨k, rfl⟩ := Int.eq_ofNat_of_zero_le h2
    refine ⟨l.length - k + 1, ?_⟩
    refine (Sy.firstk_scan l h1 k (by omega)).mono fun ex F M hg => ?_
    obtain ⟨rfl, hg⟩ := hg
    rcases hg with ⟨q1, rfl, rfl⟩ | ⟨q1, rfl, rfl⟩
    · rfl
    · show _ = _
      rw [Int.toNat_natCast, q1]
end Sy
theorem Sy.firstk_t (l : List TokV) (hl : lim l) (i : Int) (h0 : 0 ≤ i) (h1 : i ≤ l.length) : CallTo Try.prog 69 [kv l, int i, .fn (.func 42) [] [bxk]] M0 fun v _ => v = int (tops comB l i.toNat : Nat) :=
  toV [] [lp_firstk l] 400 30 .done (let e1 := (some (@AV.view (l).length 3 (fun y0 => (fun y1 => (@AV.lit ([(@Value.int IntKind.i64 ((l.getD y0 tok0)).kind), (@Value.string ((l.getD y0 tok0)).text), (@Value.int IntKind.i64 ((l.getD y0 tok0)).n)].getD y1 (@Value.tuple (@Array.mk _ [])))))))); let e2 := (some (@AV.fn (@Fn.func 42) [] [(@AV.vptr 1 (fun y0 => (int (12 : Int))))])); (.need (@isSo (@And ((e1 :: (some (int i)) :: e2 :: (nn25 [])) = (e1 :: (some (int i)) :: e2 :: (nn25 []))) ((@Mem.mk 0 0 []) = M0))) (.need (@isSo (@And (@lim l) (@And ((0 : Int) ≤ i) (i ≤ (((l).length : Nat) : Int))))) (.leaf (int (((@tops comB l (i).toNat) : Nat) : Int)))))) (by kernel_rfl) (need_so ⟨rfl, rfl⟩ (need_so ⟨hl, h0, h1⟩ rfl))
theorem Sy.Conv1.ptr {M : Mem} {b : Nat} {B : Blk} {m : Nat} {cell : Nat → AV} (hb : M.get b = some B) (hc : ∀ j, j < m → ∃ v, B.cells[j]? = some v ∧ Free v ∧ v = cell j) : Conv1 M (.ptr b 0) (.vptr m cell) := fun w0 ρ w u hW hr => by
  simp only [rel] at hr ⊢
  obtain ⟨g, tot, hg, rfl⟩ := hr
  obtain ⟨q2, cur, q3, q4, q5⟩ := hW.holds hb hg
  refine ⟨g, 0, rfl, fun j hj => ?_⟩
  obtain ⟨v, r1, r2, r3⟩ := hc j hj
  obtain ⟨x, r4, r5⟩ := q5.1 j v r1
  have hlt : g < w.heap.size := (Array.getElem?_eq_some_iff.1 q3).1
  refine ⟨x, ?_, ?_⟩
  · simp only [rho0, if_pos hlt]
    rw [cell_at q3, Nat.zero_add]; exact r4
  · rw [← r3]; exact rel.free (rho0_still hW) r2 r5
noncomputable abbrev Sy.cFirstK (l : List TokV) : Con Try.prog := atM 69 (fun args _ => match args with | [_, .lit (.int .i64 i), _] => some i | _ => none) (fun i => [kv l, int i, .fn (.func 42) [] [bxk]]) (fun i => int (tops comB l i.toNat : Nat)) (fun i => lim l ∧ 0 ≤ i ∧ i ≤ l.length) fun i h => ⟨⟨_, rfl⟩, firstk_t l h.1 i h.2.1 h.2.2⟩
namespace Sy
abbrev lcell (ls : List (List TokV)) (i j : Nat) : AV := kv (ls.getD i [])
abbrev boxB : Blk := ⟨[int 12], 3, none⟩
abbrev splF : FuncId := 42
abbrev pcM (ls : List (List TokV)) : Mem := ⟨2, 0, [some ⟨[], 24, some ⟨ls.length, 1, lcell ls⟩⟩, some boxB]⟩
abbrev pcF (l : List TokV) (n : Nat) : Fr := (some (kv l) :: some (.fn (.func splF) [] [.ptr 0 0]) :: none :: none :: some ((@AV.lit (@Value.slice none 0 0))) :: some (.own 1 n 1) :: (nn20 []))
end Sy
theorem Sy.Conv1.fn {M : Mem} {f : Fn} {a a1 c c1 : List AV} (h : Conv M a a1) (h' : Conv M c c1) : Conv1 M (.fn f a c) (.fn f a1 c1) := fun w0 ρ w u hW hr => by
  simp only [rel] at hr ⊢
  obtain ⟨us, vs, rfl, q1, q2⟩ := hr
  exact ⟨us, vs, rfl, h w0 ρ w us hW q1, h' w0 ρ w vs hW q2⟩
namespace Sy
def LRows (n : Nat) (c : Nat → Nat → AV) (ls : List (List TokV)) : Prop := n = ls.length ∧ ∀ (σ : Nat → Option Nat) i j, i < n → j < 1 → RenV σ (c i j) (lcell ls i j)
theorem LRows.base (ls : List (List TokV)) : LRows ls.length (lcell ls) ls := ⟨rfl, fun σ _ _ _ _ => RenV.free σ (kv_free _)⟩
theorem LRows.app1 {n : Nat} {c c' : Nat → Nat → AV} {ls : List (List TokV)} (x : List TokV) (h : LRows n c ls) (hx : ∀ σ : Nat → Option Nat, RenV σ (c' 0 0) (kv x)) : LRows (n + 1) (appc n c c') (ls ++ [x]) := ⟨by rw [h.1]; simp, fun σ i j hi hj => by
  have hl := h.1
  obtain rfl : j = 0 := by omega
  by_cases hlt : i < n
  · rw [appc_lt hlt]
    have : (ls ++ [x]).getD i [] = ls.getD i [] := by
      simp only [List.getD_eq_getElem?_getD]
      rw [List.getElem?_append_left (by omega)]
    have h3 := h.2 σ i 0 hlt hj
    unfold lcell at h3 ⊢
    rw [this]
    exact h3
  · have e : i = n := by omega
    subst e
    rw [appc_ge (Nat.le_refl _), Nat.sub_self]
    have : (ls ++ [x]).getD i [] = x := by
      simp only [List.getD_eq_getElem?_getD]
      rw [List.getElem?_append_right (by omega), hl, Nat.sub_self]; rfl
    unfold lcell
    rw [this]
    exact hx σ⟩
abbrev pcE (l : List TokV) (n : Nat) : Fr := (some (kv l) :: some (.fn (.func splF) [] [.ptr 0 0]) :: none :: none :: some (.own 1 n 1) :: some (.own 1 n 1) :: (nn20 []))
theorem pcM_ren {M : Mem} {l : List Nat} {b n : Nat} {c : Nat → Nat → AV} {ls : List (List TokV)} (hl : l = [0, b]) (hn : 1 ≤ b) (h0 : M.get 0 = some boxB) (h1 : M.get b = some ⟨[], 24, some ⟨n, 1, c⟩⟩) (e1 : LRows n c ls) : RenM (nm l) M (pcM ls) := by
  subst hl
  refine .of rfl rfl (by simp; omega) ⟨⟨b, _, rfl, h1, rfl, trivial, e1.1.symm, rfl, fun i j hi hj => ?_⟩, ⟨0, _, rfl, h0, rfl, ⟨rfl, trivial⟩, trivial⟩, trivial⟩
  exact e1.2 _ i j (by have := e1.1; change i < ls.length at hi; omega) hj
theorem kv_take (l : List TokV) (k : Nat) (hk : k ≤ l.length) (σ : Nat → Option Nat) : RenV σ (.view k 3 (fun i j => .lit ((TokV.cells (l.getD i tok0)).getD j undef))) (kv (l.take k)) := by
  refine ⟨by rw [List.length_take]; omega, rfl, fun i j hi hj => ?_⟩
  have : (l.take k).getD i tok0 = l.getD i tok0 := by
    simp only [List.getD_eq_getElem?_getD]
    rw [List.getElem?_take, if_pos hi]
  simp only [this]
  exact RenV.free σ (v := .lit _) trivial
theorem kv_drop (l : List TokV) (k : Nat) (σ : Nat → Option Nat) : RenV σ (.view (l.length - k) 3 (fun i j => .lit ((TokV.cells (l.getD (k + i) tok0)).getD j undef))) (kv (l.drop k)) := by
  refine ⟨by rw [List.length_drop], rfl, fun i j hi hj => ?_⟩
  have : (l.drop k).getD i tok0 = l.getD (k + i) tok0 := by
    simp only [List.getD_eq_getElem?_getD]
    rw [List.getElem?_drop]
  simp only [this]
  exact RenV.free σ (v := .lit _) trivial
def PcG (LS : List (List TokV)) (ex : Ex) (F : Fr) (M : Mem) : Prop := ex = .ret ∧ (∃ l', F = pcE l' LS.length) ∧ M = pcM LS
theorem pcs_loop : ∀ (n : Nat) (l : List TokV) (ls : List (List TokV)), l.length < n → ls.length + l.length ≤ 1000000 →
    LoopToT 1 Try.prog (theBody Try.prog 41 3) n (pcF l ls.length) (pcM ls) (RG 1 (PcG (ls ++ pieces comB l))) := by
  intro n
  induction n with
  | zero => intro l ls h; omega
  | succ n ih =>
    intro l ls h hlim
    have hstep := pieces_step comB l
    have hk := tops_le comB l 0 (Nat.zero_le _)
    refine roundT plain mixed 1 [cFirstK l] [] 400 30 41 3 Try.func41 rfl (by kernel_rfl) (true :: true :: false :: false :: true :: true :: (ff20 [])) (.yes (.yes (.yes (.br .done (.yes .done))))) (let e1 := (@Value.tuple (@Array.mk _ [])); let e2 := (fun y0 => (fun y1 => (@AV.view ((ls.getD y0 [])).length 3 (fun y2 => (fun y3 => (@AV.lit ([(@Value.int IntKind.i64 (((ls.getD y0 []).getD y2 tok0)).kind), (@Value.string (((ls.getD y0 []).getD y2 tok0)).text), (@Value.int IntKind.i64 (((ls.getD y0 []).getD y2 tok0)).n)].getD y3 e1))))))); let e3 := (fun y0 => (fun y1 => (@AV.lit ([(@Value.int IntKind.i64 ((l.getD y0 tok0)).kind), (@Value.string ((l.getD y0 tok0)).text), (@Value.int IntKind.i64 ((l.getD y0 tok0)).n)].getD y1 e1)))); let e4 := (@AV.view (l).length 3 e3); let e5 := (0 : Int); let e6 := (@AV.fn (@Fn.func splF) [] [(@AV.ptr 0 0)]); let e7 := (((l).length : Nat) : Int); let e8 := (((@tops comB l 0) : Nat) : Int); let e9 := ((ls).length + 1); let e10 := (some (@AV.own (2 + 1) e9 1)); let e11 := (@AV.view (e8).toNat 3 (fun y2 => (fun y3 => (@AV.lit ([(@Value.int IntKind.i64 ((l.getD y2 tok0)).kind), (@Value.string ((l.getD y2 tok0)).text), (@Value.int IntKind.i64 ((l.getD y2 tok0)).n)].getD y3 e1))))); let e12 := (@List.map _ _ AV.lit (@Array.toList _ (@Array.mk _ [(@List.get _ (@Array.toList _ (@Array.mk _ [(@Value.slice none 0 0)])) (@Fin.mk _ 0 (@Nat.le_of_ble_eq_true _ _ (@Eq.refl _ true))))]))); let e13 := (@Mem.mk ((2 + 1) + 1) (0 + 1) ((some (@Blk.mk [] 24 (some (@Rw.mk e9 1 (@appc (ls).length e2 (fun y0 => (fun y1 => (@getA (@List.take _ 1 (e11 :: (@List.drop _ (0 + ([e11]).length) e12))) ((y0 * 1) + y1))))))))) :: [(some (@Blk.mk ((@AV.view (e8).toNat 3 e3) :: (@List.drop _ (0 + ([(@AV.view (e8).toNat 3 e3)]).length) e12)) 24 none)), none, (some boxB)])); let e14 := (w64 (e8 + (1 : Int))); (.need (@isSo (@And (@Conv (@Mem.mk 2 0 [(some (@Blk.mk [] 24 (some (@Rw.mk (ls).length 1 e2)))), (some boxB)]) (@HAppend.hAppend _ _ _ _ (@HAppend.hAppend _ _ _ _ [] [e4, (int e5), e6]) []) [e4, (int e5), (@AV.fn (@Fn.func 42) [] [(@AV.vptr 1 (fun y0 => (int (12 : Int))))])]) (@And (@lim l) (@And (e5 ≤ e5) (e5 ≤ e7))))) (.need ((leI e5 e8) && ((leI e8 e8) && (leI e8 e7))) (.need (Bool.true && ((@Nat.ble (ls).length (ls).length) && ((@Nat.ble (e9 * 24) 140737488355328) && (@Nat.ble e9 17592186044416)))) (.fork (eqI e8 e7) (.leaf (Ex.ret, (((some e4) :: (some e6) :: none :: none :: e10 :: e10 :: (nn20 [])), e13))) (.need ((leI e5 e14) && ((leI e14 e7) && (leI e7 e7))) (.leaf (Ex.norm, (((some (@AV.view ((e7).toNat - (e14).toNat) 3 (fun y0 => (fun y1 => (@AV.lit ([(@Value.int IntKind.i64 ((l.getD ((e14).toNat + y0) tok0)).kind), (@Value.string ((l.getD ((e14).toNat + y0) tok0)).text), (@Value.int IntKind.i64 ((l.getD ((e14).toNat + y0) tok0)).n)].getD y1 e1)))))) :: (some e6) :: none :: none :: (some (@AV.lit (@Value.slice none 0 0))) :: e10 :: (nn20 [])), e13))))))))) (by kernel_rfl) ?_
    have ht := kv_take l (tops comB l 0) hk.2
    have hd := kv_drop l (tops comB l 0 + 1)
    generalize tops comB l 0 = k at *
    have hb := LRows.base ls
    refine need_so ⟨Conv.cons (Conv1.free _ (kv_free l)) (Conv.cons (Conv1.lit _ _) (Conv.cons (Conv1.fn (Conv.nil _) (Conv.cons (Conv1.ptr rfl fun j hj => ⟨int 12, (by
      obtain rfl : j = 0 := by omega
      rfl), trivial, rfl⟩) (Conv.nil _))) (Conv.nil _))), show lim l by unfold lim; omega, by omega, by omega⟩ (need_t (by simp only [Bool.and_eq_true, leI_t]; omega) (need_t (room3 (by omega) (by decide)) (fork_ok (fun h2 => ?_) (fun h2 => ?_))))
    · simp only [Bool.not_eq_true', Bool.not_eq_false', leI_t, leI_f, eqI_t, eqI_f, inR_t, inR_f, isSo_t, isSo_f] at h2
      have hkl : k = l.length := by omega
      rw [if_pos hkl] at hstep
      rw [hstep]
      exact ⟨pcE l (ls ++ [l.take k]).length, _, [0, 3], rfl, by
        simp only [RenF, and_true]
        exact ⟨RenV.free _ (kv_free l), ⟨rfl, trivial, ⟨rfl, rfl⟩, trivial⟩, ⟨rfl, by simp, rfl⟩, ⟨rfl, by simp, rfl⟩⟩, pcM_ren (ls := ls ++ [l.take k]) rfl (by decide) rfl rfl (hb.app1 _ ht), rfl, ⟨l, rfl⟩, rfl⟩
    · simp only [Bool.not_eq_true', Bool.not_eq_false', leI_t, leI_f, eqI_t, eqI_f, inR_t, inR_f, isSo_t, isSo_f] at h2
      have hkl : ¬ k = l.length := by omega
      rw [if_neg hkl] at hstep
      have ew : w64 ((k : Int) + 1) = ((k + 1 : Nat) : Int) := by rw [w64_in (by omega)]; omega
      rw [ew]
      refine need_t (by simp only [Bool.and_eq_true, leI_t]; omega) ?_
      have key := ih (l.drop (k + 1)) (ls ++ [l.take k]) (by rw [List.length_drop]; omega) (by rw [List.length_drop, List.length_append]; simp only [List.length_cons, List.length_nil]; omega)
      rw [List.append_assoc] at key
      rw [hstep]
      refine LoopToT.ren [0, 3] rfl ?_ (pcM_ren (ls := ls ++ [l.take k]) rfl (by decide) rfl rfl (hb.app1 _ ht)) key
      simp only [RenF, and_true]
      exact ⟨hd _, ⟨rfl, trivial, ⟨rfl, rfl⟩, trivial⟩, rfl, ⟨rfl, by simp, rfl⟩⟩
end Sy
end Go.Proofs.Ytconlneohilnmaa
namespace Go.Proofs.Ytconlneohilnmaa
open Go Go.RowKit Pl Sy
namespace Sy
abbrev pc0F (l : List TokV) : Fr := (some (kv l) :: some (.fn (.func splF) [] [.ptr 0 0]) :: none :: none :: some ((@AV.lit (@Value.slice none 0 0))) :: some ((@AV.lit (@Value.slice none 0 0))) :: (nn20 []))
abbrev pcR (n : Nat) : Fr := (none :: none :: none :: none :: some (.own 1 n 1) :: some (.own 1 n 1) :: (nn20 []))
theorem pc_nil {P : Program} {body : Code} {n : Nat} {G : Ex → Fr → Mem → Prop} (l : List TokV) (k : Nat) (h : LoopToT 1 P body n (pcF l 0) (pcM []) G) : LoopTo P body n (pc0F l) ⟨1, k, [some boxB]⟩ G := by
  refine LoopToT.to (T := 1) ?_ (Nat.le_refl _)
  refine LoopToT.nil 5 24 1 (lcell []) (Nat.le_refl _) rfl ?_
  exact LoopToT.stamp 0 h
noncomputable abbrev lpPc (l : List TokV) : Lp Try.prog where
  f := 41
  key := 3
  S := formS (fun _ M => some M.stamp) (fun _ => pc0F l) (fun k => ⟨1, k, [some boxB]⟩) (fun _ => limT l.length) (fun _ => .leaf (.ret, pcR (pieces comB l).length, pcM (pieces comB l))) (true :: true :: false :: false :: true :: true :: (ff20 []))
  one := by kernel_rfl
  ok := formS_ok fun k h1 => by
    unfold limT at h1
    refine ⟨l.length + 1, ?_⟩
    have key := LoopToT.out (pcs_loop (l.length + 1) l [] (by omega) (by simpa using h1))
    refine ((pc_nil l k key).out (false :: false :: false :: false :: true :: true :: (ff20 []))).mono fun ex F M hg => ?_
    obtain ⟨F0, ⟨rfl, ⟨l', rfl⟩, rfl⟩, rfl⟩ := hg
    rfl
end Sy
namespace Sy
abbrev spF (n : Nat) (k : Int) : Fr := (nn5 (some (.own 1 n 1) :: none :: none :: none :: none :: some (.own 1 n 1) :: some (int n) :: some (int k) :: (nn12 [])))
end Sy
theorem piecesF_le (p : TokV → Bool) : ∀ (n : Nat) (l x : List TokV), x ∈ piecesF p n l → x.length ≤ l.length
  | 0, l, x, h => by cases h
  | n + 1, l, x, h => by
    simp only [piecesF, List.mem_cons] at h
    rcases h with rfl | h
    · rw [List.length_take]; omega
    · split at h
      · cases h
      · have := piecesF_le p n _ x h
        rw [List.length_drop] at this
        omega
theorem pieces_le (p : TokV → Bool) (l x : List TokV) (h : x ∈ pieces p l) : x.length ≤ l.length := piecesF_le p _ l x h
theorem pieces_num (p : TokV → Bool) : ∀ (n : Nat) (l : List TokV), l.length ≤ n → (pieces p l).length ≤ l.length + 1 := by
  intro n
  induction n with
  | zero =>
    intro l h
    rw [pieces_step]
    have := tops_le p l 0 (Nat.zero_le _)
    rw [if_pos (by omega)]; simp
  | succ n ih =>
    intro l h
    rw [pieces_step]
    have := tops_le p l 0 (Nat.zero_le _)
    split
    · simp
    · have := ih (l.drop (tops p l 0 + 1)) (by rw [List.length_drop]; omega)
      rw [List.length_drop] at this
      simp only [List.length_cons]
      omega
theorem getD_le (ls : List (List TokV)) (h : ∀ x ∈ ls, x.length ≤ 100000) (k : Nat) : (ls.getD k []).length ≤ 100000 := by
  rw [List.getD_eq_getElem?_getD]
  cases hk : ls[k]? with
  | none => simp
  | some x => exact h x (List.mem_of_getElem? hk)
namespace Sy
theorem spF_ren (n : Nat) (k k' : Int) (h : k = k') : RenF (nm [0, 1]) (spF n k) (spF n k') := by
  subst h
  simp [RenF, RenV, RenVs, nm]
theorem LRows.set (ls : List (List TokV)) (k : Nat) {v : AV} (hv : ∀ σ : Nat → Option Nat, RenV σ v (lcell ls k 0)) : LRows ls.length (setc k 0 [v] (lcell ls)) ls := ⟨rfl, fun σ i j hi hj => by
  obtain rfl : j = 0 := by omega
  by_cases e : i = k
  · subst e
    rw [setc_in (by simp)]
    exact hv σ
  · rw [setc_out (fun q => e q.1)]
    exact RenV.free σ (kv_free _)⟩
theorem spl_loop (ls : List (List TokV)) (hn : ls.length ≤ 1000000) (hs : ∀ x ∈ ls, x.length ≤ 100000) : ∀ (n k : Nat), k ≤ ls.length → ls.length - k < n →
    LoopToT 2 Try.prog (theBody Try.prog 24 4) n (spF ls.length k) (pcM ls) (RG 2 fun ex F M => ex = .exit 0 ∧ F = spF ls.length ls.length ∧ M = pcM ls) := by
  intro n
  induction n with
  | zero => intro k h1 h2; omega
  | succ n ih =>
    intro k h1 h2
    have hb := LRows.base ls
    refine roundT plain mixed 2 [cCloneD (ls.getD (k : Int).toNat [])] [] 400 30 24 4 Try.func24 rfl (by kernel_rfl) (ff5 (true :: false :: false :: false :: false :: true :: true :: true :: (ff12 []))) ((.br (.yes (.yes (.yes (.yes (.yes .done))))) .done)) (let k : Int := k; (let e1 := (@Nat.blt (k).toNat (ls).length); let e2 := (@Value.tuple (@Array.mk _ [])); let e3 := (@AV.view ((ls.getD (k).toNat [])).length 3 (fun y0 => (fun y1 => (@AV.lit ([(@Value.int IntKind.i64 (((ls.getD (k).toNat []).getD y0 tok0)).kind), (@Value.string (((ls.getD (k).toNat []).getD y0 tok0)).text), (@Value.int IntKind.i64 (((ls.getD (k).toNat []).getD y0 tok0)).n)].getD y1 e2))))); let e4 := (some (@AV.own 1 (ls).length 1)); let e5 := (some (int (((ls).length : Nat) : Int))); let e6 := (fun y0 => (fun y1 => (@AV.view ((ls.getD y0 [])).length 3 (fun y2 => (fun y3 => (@AV.lit ([(@Value.int IntKind.i64 (((ls.getD y0 []).getD y2 tok0)).kind), (@Value.string (((ls.getD y0 []).getD y2 tok0)).text), (@Value.int IntKind.i64 (((ls.getD y0 []).getD y2 tok0)).n)].getD y3 e2))))))); (.fork (!(leI (((ls).length : Nat) : Int) k)) (.need (@inR k (ls).length) (.need e1 (.need (@isSo (@And ((@HAppend.hAppend _ _ _ _ (@HAppend.hAppend _ _ _ _ [] [e3]) []) = [e3]) (((ls.getD (k).toNat [])).length ≤ 100000))) (.need (@inR k (ls).length) (.need e1 (.leaf (Ex.norm, ((nn5 (e4 :: none :: none :: none :: none :: e4 :: e5 :: (some (int (w64 (k + (1 : Int))))) :: (nn12 []))), (@Mem.mk 2 (0 + 1) [(some (@Blk.mk [] 24 (some (@Rw.mk (ls).length 1 (@setc (k).toNat 0 [e3] e6))))), (some boxB)]))))))))) (.leaf ((@Ex.exit 0), ((nn5 (e4 :: none :: none :: none :: none :: e4 :: e5 :: (some (int k)) :: (nn12 []))), (@Mem.mk 2 0 [(some (@Blk.mk [] 24 (some (@Rw.mk (ls).length 1 e6)))), (some boxB)]))))))) (by kernel_rfl) ?_
    refine fork_ok (fun h3 => ?_) (fun h3 => ?_)
    · simp only [Bool.not_eq_true', Bool.not_eq_false', leI_t, leI_f, eqI_t, eqI_f, inR_t, inR_f, isSo_t, isSo_f] at h3
      have hin : inR (k : Int) ls.length = true := by rw [inR_t]; omega
      have hlt : Nat.blt (k : Int).toNat ls.length = true := by rw [Nat.blt_eq]; omega
      refine need_t hin (need_t hlt (need_so ⟨rfl, getD_le ls hs _⟩ (need_t hin (need_t hlt ?_))))
      refine LoopToT.ren [0, 1] rfl (spF_ren _ _ _ (by rw [w64_in (by omega)]; rfl)) (pcM_ren (ls := ls) rfl (by decide) rfl rfl (LRows.set ls (k : Int).toNat fun σ => RenV.free σ (kv_free _))) (ih (k + 1) (by omega) (by omega))
    · simp only [Bool.not_eq_true', Bool.not_eq_false', leI_t, leI_f, eqI_t, eqI_f, inR_t, inR_f, isSo_t, isSo_f] at h3
      have hk : k = ls.length := by omega
      subst hk
      exact ⟨_, _, [0, 1], rfl, spF_ren _ _ _ rfl, pcM_ren (ls := ls) rfl (by decide) rfl rfl hb, rfl, rfl, rfl⟩
noncomputable abbrev lpSpl (ls : List (List TokV)) : Lp Try.prog where
  f := 24
  key := 4
  S := formS (fun _ M => some M.stamp) (fun _ => spF ls.length 0) (fun k => ⟨2, k, [some ⟨[], 24, some ⟨ls.length, 1, lcell ls⟩⟩, some boxB]⟩) (fun _ => ls.length ≤ 1000000 ∧ ∀ x ∈ ls, x.length ≤ 100000) (fun _ => .leaf (.exit 0, spF ls.length ls.length, pcM ls)) (ff5 (true :: false :: false :: false :: false :: true :: true :: true :: (ff12 [])))
  one := by kernel_rfl
  ok := formS_ok fun k ⟨h1, h2⟩ => by
    refine ⟨ls.length + 1, ?_⟩
    have key := LoopToT.out (spl_loop ls h1 h2 (ls.length + 1) 0 (by omega) (by omega))
    have key2 := LoopToT.to (T := 2) key (Nat.le_refl 2)
    exact (LoopTo.stampA 0 key2).mono fun ex F M hg => by
      obtain ⟨rfl, rfl, rfl⟩ := hg
      rfl
end Sy
theorem Sy.split_t (l : List TokV) (h : limC l) : CallTo Try.prog 24 [kv l, int 12] M0 fun v M' => Frz true 0 M' v (.view (pieces comB l).length 1 (lcell (pieces comB l))) :=
  to (G := fun r => Frz true 0 r.2 r.1 (.view (pieces comB l).length 1 (lcell (pieces comB l)))) [] [lpPc l, lpSpl (pieces comB l)] 400 30 .done (let e1 := (@Value.tuple (@Array.mk _ [])); let e2 := (some (@AV.view (l).length 3 (fun y0 => (fun y1 => (@AV.lit ([(@Value.int IntKind.i64 ((l.getD y0 tok0)).kind), (@Value.string ((l.getD y0 tok0)).text), (@Value.int IntKind.i64 ((l.getD y0 tok0)).n)].getD y1 e1)))))); let e3 := (some (@AV.lit (@Value.slice none 0 0))); let e4 := (@AV.own 1 ((@pieces comB l)).length 1); let e5 := (some (int ((((@pieces comB l)).length : Nat) : Int))); let e6 := (@Mem.mk 2 0 [(some (@Blk.mk [] 24 (some (@Rw.mk ((@pieces comB l)).length 1 (fun y0 => (fun y1 => (@AV.view (((@pieces comB l).getD y0 [])).length 3 (fun y2 => (fun y3 => (@AV.lit ([(@Value.int IntKind.i64 ((((@pieces comB l).getD y0 []).getD y2 tok0)).kind), (@Value.string ((((@pieces comB l).getD y0 []).getD y2 tok0)).text), (@Value.int IntKind.i64 ((((@pieces comB l).getD y0 []).getD y2 tok0)).n)].getD y3 e1))))))))))), (some boxB)]); (.need (@isSo (@And ((e2 :: (some (@AV.fn (@Fn.func 42) [] [(@AV.ptr 0 0)])) :: (none :: none :: e3 :: e3 :: (nn20 []))) = (e2 :: (some (@AV.fn (@Fn.func splF) [] [(@AV.ptr 0 0)])) :: none :: none :: e3 :: e3 :: (nn20 []))) ((@Mem.mk 1 0 [(some (@Blk.mk [(int (12 : Int))] 3 none))]) = (@Mem.mk 1 0 [(some boxB)])))) (.need (@isSo ((l).length ≤ 1000000)) (.need (@isSo (@And ((none :: none :: (none :: none :: none :: (some e4) :: none :: none :: none :: none :: (some e4) :: e5 :: (some (int (0 : Int))) :: (nn12 []))) = (nn5 ((some e4) :: none :: none :: none :: none :: (some e4) :: e5 :: (some (int (0 : Int))) :: (nn12 [])))) (e6 = e6))) (.need (@isSo (@And (((@pieces comB l)).length ≤ 1000000) (∀ (x : List TokV), x ∈ pieces comB l → x.length ≤ 100000))) (.leaf (e4, e6))))))) (by kernel_rfl) (by
    unfold limC at h
    have h1 := pieces_num comB _ l (Nat.le_refl _)
    refine need_so ⟨rfl, rfl⟩ (need_so (show l.length ≤ 1000000 by omega) (need_so ⟨rfl, rfl⟩ (need_so ⟨by omega, fun x hx => Nat.le_trans (pieces_le comB l x hx) h⟩ ?_)))
    exact Frz.own (b := 1) (by decide) rfl rfl (Nat.le_refl _) rfl fun i j _ _ => Frz.free _ _ (kv_free _))
abbrev Sy.lview (ls : List (List TokV)) : AV := .view ls.length 1 (lcell ls)
theorem Sy.lview_free (ls : List (List TokV)) : Free (lview ls) := fun i j => kv_free _
theorem Sy.split_v (l : List TokV) (h : limC l) : CallTo Try.prog 24 [kv l, int 12] M0 fun v _ => v = lview (pieces comB l) :=
  CallTo.frz0 (split_t l h) ⟨kv_free l, trivial, trivial⟩ (lview_free _)
noncomputable abbrev Sy.cSplit (l : List TokV) : Con Try.prog := at1 24 [kv l, int 12] (lview (pieces comB l)) (limC l) fun h => ⟨⟨⟨kv_free l, trivial, trivial⟩, lview_free _⟩, split_v l h⟩
end Go.Proofs.Ytconlneohilnmaa
namespace Go.Proofs.Ytconlneohilnmaa
open Go Go.RowKit Pl Sy
noncomputable abbrev Sy.cTrimW (l : List TokV) : Con Try.prog := at1 25 [kv l] (kv (trim l)) (limC l) fun h => ⟨⟨⟨kv_free l, trivial⟩, kv_free _⟩, trimp_t l h⟩
noncomputable abbrev Sy.cRSel (T : List TokV) : Con Try.prog := conR T 26 (fun r => match r with | [] => some () | _ => none) (fun _ => []) (fun a _ => .tup [.agg [pview (rselV T a).ps], boo ((rselV T a).ret && (rselV T a).r)]) (fun a _ => (rselV T a).a) (fun a _ => InT T a ∧ RdOk T) fun a c h =>
  ⟨⟨trivial, ⟨⟨pview_free _, trivial⟩, trivial, trivial⟩⟩, rsel_t T h.2 a h.1⟩
namespace Sy
abbrev sscell (ss : List (List PartV)) (i j : Nat) : AV := pview (ss.getD i [])
abbrev paM (ss : List (List PartV)) : Mem := ⟨1, 0, [some ⟨[], 43, some ⟨ss.length, 1, sscell ss⟩⟩]⟩
abbrev paF (ls : List (List TokV)) (n : Nat) (k : Int) : Fr := (none :: none :: some ((@AV.lit (@Value.slice none 0 0))) :: some ((int (0 : Int))) :: some (.own 0 n 1) :: (nn6 (some (lview ls) :: some (int ls.length) :: some (int k) :: (nn20 []))))
end Sy
def selOk (x : List TokV) : Bool := (rselV (trim x) 0).ret && (rselV (trim x) 0).r
def selPs (x : List TokV) : List PartV := (rselV (trim x) 0).ps
def ToksOk (l : List TokV) : Prop := ∀ t ∈ l, t.text.size ≤ maxLen
theorem trim_sub {l : List TokV} {t : TokV} (h : t ∈ trim l) : t ∈ l := by
  unfold trim at h
  rw [List.mem_reverse] at h
  have h1 := (List.dropWhile_sublist spB (l := (l.dropWhile spB).reverse)).subset h
  rw [List.mem_reverse] at h1
  exact (List.dropWhile_sublist spB).subset h1
theorem piecesF_mem (p : TokV → Bool) (t : TokV) : ∀ (n : Nat) (l x : List TokV), x ∈ piecesF p n l → t ∈ x → t ∈ l
  | 0, l, x, h, _ => by cases h
  | n + 1, l, x, h, ht => by
    simp only [piecesF, List.mem_cons] at h
    rcases h with rfl | h
    · exact List.mem_of_mem_take ht
    · split at h
      · cases h
      · exact List.mem_of_mem_drop (piecesF_mem p t n _ x h ht)
theorem rdOk_of {x : List TokV} (h : limC x) (hx : ToksOk x) : RdOk (trim x) := by
  have := trim_len x
  unfold limC at h
  refine ⟨by unfold limT; omega, fun i => ?_⟩
  rw [List.getD_eq_getElem?_getD]
  cases hk : (trim x)[i]? with
  | none => exact Nat.zero_le _
  | some t => exact hx t (trim_sub (List.mem_of_getElem? hk))
def PcOk (ls : List (List TokV)) : Prop := ls.length ≤ 1000000 ∧ ∀ x ∈ ls, limC x ∧ ToksOk x
namespace Sy
def SRows (n : Nat) (c : Nat → Nat → AV) (ss : List (List PartV)) : Prop := n = ss.length ∧ ∀ (σ : Nat → Option Nat) i j, i < n → j < 1 → RenV σ (c i j) (sscell ss i j)
theorem SRows.base (ss : List (List PartV)) : SRows ss.length (sscell ss) ss := ⟨rfl, fun σ _ _ _ _ => RenV.free σ (pview_free _)⟩
theorem SRows.app1 {n : Nat} {c c' : Nat → Nat → AV} {ss : List (List PartV)} (x : List PartV) (h : SRows n c ss) (hx : ∀ σ : Nat → Option Nat, RenV σ (c' 0 0) (pview x)) : SRows (n + 1) (appc n c c') (ss ++ [x]) := ⟨by rw [h.1]; simp, fun σ i j hi hj => by
  have hl := h.1
  obtain rfl : j = 0 := by omega
  by_cases hlt : i < n
  · rw [appc_lt hlt]
    have : (ss ++ [x]).getD i [] = ss.getD i [] := by
      simp only [List.getD_eq_getElem?_getD]
      rw [List.getElem?_append_left (by omega)]
    have h3 := h.2 σ i 0 hlt hj
    unfold sscell at h3 ⊢
    rw [this]
    exact h3
  · have e : i = n := by omega
    subst e
    rw [appc_ge (Nat.le_refl _), Nat.sub_self]
    have : (ss ++ [x]).getD i [] = x := by
      simp only [List.getD_eq_getElem?_getD]
      rw [List.getElem?_append_right (by omega), hl, Nat.sub_self]; rfl
    unfold sscell
    rw [this]
    exact hx σ⟩
theorem paM_ren {M : Mem} {l : List Nat} {b n : Nat} {c : Nat → Nat → AV} {ss : List (List PartV)} (hl : l = [b]) (h1 : M.get b = some ⟨[], 43, some ⟨n, 1, c⟩⟩) (e1 : SRows n c ss) : RenM (nm l) M (paM ss) := by
  subst hl
  refine .of rfl rfl (by simp) ⟨⟨b, _, rfl, h1, rfl, trivial, e1.1.symm, rfl, fun i j hi hj => ?_⟩, trivial⟩
  exact e1.2 _ i j (by have := e1.1; change i < ss.length at hi; omega) hj
abbrev paX : Fr := (none :: none :: some ((@AV.lit (@Value.slice none 0 0))) :: some (int 20) :: (nn30 []))
abbrev paN (n : Nat) : Fr := (none :: none :: some ((@AV.lit (@Value.slice none 0 0))) :: some ((int (0 : Int))) :: some (.own 0 n 1) :: (nn29 []))
def PaG (ls : List (List TokV)) (ss : List (List PartV)) (ex : Ex) (F : Fr) (M : Mem) : Prop := (ls.all selOk = true ∧ ex = .exit 0 ∧ F = paN (ss ++ ls.map selPs).length ∧ M = paM (ss ++ ls.map selPs)) ∨ (ls.all selOk = false ∧ ex = .ret ∧ F = paX ∧ M = ⟨0, 0, []⟩)
theorem par_loop (ls : List (List TokV)) (hls : PcOk ls) : ∀ (l pre : List (List TokV)) (ss : List (List PartV)), ls = pre ++ l → ss.length ≤ pre.length →
    LoopToT 0 Try.prog (theBody Try.prog 9 4) (l.length + 1) (paF ls ss.length pre.length) (paM ss) (RG 0 (PaG l ss)) := by
  intro l
  induction l with
  | nil =>
    intro pre ss h hn
    have hb := SRows.base ss
    have hp : ls.length = pre.length := by rw [h]; simp
    refine roundT plain mixed 0 [cTrimW (ls.getD (pre.length : Int).toNat []), cRSel (trim (ls.getD (pre.length : Int).toNat []))] [] 400 30 9 4 Try.func9 rfl (by kernel_rfl) (false :: false :: true :: true :: true :: (ff6 (true :: true :: true :: (ff20 [])))) ((.br (.yes (.yes (.yes (.br .done (.yes .done))))) .done)) (let k : Int := pre.length; (let e1 := (ls.getD (k).toNat []); let e2 := (@Value.tuple (@Array.mk _ [])); let e3 := (@AV.view (e1).length 3 (fun y0 => (fun y1 => (@AV.lit ([(@Value.int IntKind.i64 ((e1.getD y0 tok0)).kind), (@Value.string ((e1.getD y0 tok0)).text), (@Value.int IntKind.i64 ((e1.getD y0 tok0)).n)].getD y1 e2))))); let e4 := (@AV.view ((@trim e1)).length 3 (fun y0 => (fun y1 => (@AV.lit ([(@Value.int IntKind.i64 (((@trim e1).getD y0 tok0)).kind), (@Value.string (((@trim e1).getD y0 tok0)).text), (@Value.int IntKind.i64 (((@trim e1).getD y0 tok0)).n)].getD y1 e2))))); let e5 := (@Value.slice none 0 0); let e6 := (some (@AV.lit e5)); let e7 := (some (@AV.own 0 (ss).length 1)); let e8 := (some (@AV.view (ls).length 1 (fun y0 => (fun y1 => (@AV.view ((ls.getD y0 [])).length 3 (fun y2 => (fun y3 => (@AV.lit ([(@Value.int IntKind.i64 (((ls.getD y0 []).getD y2 tok0)).kind), (@Value.string (((ls.getD y0 []).getD y2 tok0)).text), (@Value.int IntKind.i64 (((ls.getD y0 []).getD y2 tok0)).n)].getD y3 e2))))))))); let e9 := (some (int (((ls).length : Nat) : Int))); let e10 := (@AV.view (((@rselV (@trim e1) (Int.ofNat 0))).ps).length 6 (@pcell ((@rselV (@trim e1) (Int.ofNat 0))).ps)); let e11 := (some (@Blk.mk (e10 :: (@List.drop _ (0 + ([e10]).length) [(@AV.lit e5)])) 43 none)); let e12 := (some (@Blk.mk [e4, (int ((@rselV (@trim e1) (Int.ofNat 0))).a)] 63 none)); let e13 := (fun y0 => (fun y1 => (@AV.view ((ss.getD y0 [])).length 6 (@pcell (ss.getD y0 []))))); let e14 := (some (@Blk.mk [] 43 (some (@Rw.mk (ss).length 1 e13)))); let e15 := ((ss).length + 1); let e16 := (e10 :: (@List.drop _ (0 + ([e10]).length) (@List.map _ _ AV.lit (@Array.toList _ (@Array.mk _ [(@List.get _ (@Array.toList _ (@Array.mk _ [e5])) (@Fin.mk _ 0 (@Nat.le_of_ble_eq_true _ _ (@Eq.refl _ true))))]))))); (.fork (!(leI (((ls).length : Nat) : Int) k)) (.need (@inR k (ls).length) (.need (@isSo (@And ((@HAppend.hAppend _ _ _ _ (@HAppend.hAppend _ _ _ _ [] [e3]) []) = [e3]) ((e1).length ≤ 100000))) (.need (@isSo (@And ((some (@Blk.mk (e4 :: (@List.drop _ (0 + ([e4]).length) (@List.map _ _ AV.lit (@Array.toList _ (@Array.mk _ [e5, (@Value.int IntKind.i64 (0 : Int))]))))) 63 none)) = (some (@Blk.mk [e4, (int (Int.ofNat 0))] 63 none))) (@And (([] : List AV) = []) (@And (@InT (@trim e1) (Int.ofNat 0)) (@RdOk (@trim e1)))))) (.fork (!(((@rselV (@trim e1) (Int.ofNat 0))).ret && ((@rselV (@trim e1) (Int.ofNat 0))).r)) (.leaf (Ex.ret, ((none :: none :: e6 :: (some (int (20 : Int))) :: e7 :: (nn6 (e8 :: e9 :: (some (int k)) :: (nn20 [])))), (@Mem.mk ((1 + 1) + 1) ((0 + 1) + 1) (e11 :: [e12, e14]))))) (.need (Bool.true && ((@Nat.ble (ss).length (ss).length) && ((@Nat.ble (e15 * 24) 140737488355328) && (@Nat.ble e15 17592186044416)))) (.leaf (Ex.norm, ((none :: none :: e6 :: (some (int (0 : Int))) :: (some (@AV.own (((1 + 1) + 1) + 1) e15 1)) :: (nn6 (e8 :: e9 :: (some (int (w64 (k + (1 : Int))))) :: (nn20 [])))), (@Mem.mk ((((1 + 1) + 1) + 1) + 1) (((0 + 1) + 1) + 1) ((some (@Blk.mk [] 43 (some (@Rw.mk e15 1 (@appc (ss).length e13 (fun y0 => (fun y1 => (@getA (@List.take _ 1 e16) ((y0 * 1) + y1))))))))) :: ((some (@Blk.mk e16 43 none)) :: (e11 :: [e12, none])))))))))))) (.leaf ((@Ex.exit 0), ((none :: none :: e6 :: (some (int (0 : Int))) :: e7 :: (nn6 (e8 :: e9 :: (some (int k)) :: (nn20 [])))), (@Mem.mk 1 0 [e14]))))))) (by kernel_rfl) ?_
    refine fork_ok (fun h3 => ?_) (fun h3 => ?_)
    · simp only [Bool.not_eq_true', Bool.not_eq_false', leI_t, leI_f, eqI_t, eqI_f, inR_t, inR_f, isSo_t, isSo_f] at h3
      omega
    · refine ⟨paN ss.length, paM ss, [0], rfl, ?_, paM_ren rfl rfl hb, .inl ⟨rfl, rfl, by simp, by simp⟩⟩
      simp [RenF, RenV, RenVs, nm]
  | cons x l ih =>
    intro pre ss h hn
    have hb := SRows.base ss
    have hp : ls.length = pre.length + l.length + 1 := by rw [h]; simp; omega
    have hg : ls.getD (pre.length : Int).toNat [] = x := by rw [h]; exact getD_at _ _ _ _ _ rfl
    have hx := hls.2 x (by rw [h]; simp)
    have hln := hls.1
    refine roundT plain mixed 0 [cTrimW (ls.getD (pre.length : Int).toNat []), cRSel (trim (ls.getD (pre.length : Int).toNat []))] [] 400 30 9 4 Try.func9 rfl (by kernel_rfl) (false :: false :: true :: true :: true :: (ff6 (true :: true :: true :: (ff20 [])))) ((.br (.yes (.yes (.yes (.br .done (.yes .done))))) .done)) (let k : Int := pre.length; (let e1 := (ls.getD (k).toNat []); let e2 := (@Value.tuple (@Array.mk _ [])); let e3 := (@AV.view (e1).length 3 (fun y0 => (fun y1 => (@AV.lit ([(@Value.int IntKind.i64 ((e1.getD y0 tok0)).kind), (@Value.string ((e1.getD y0 tok0)).text), (@Value.int IntKind.i64 ((e1.getD y0 tok0)).n)].getD y1 e2))))); let e4 := (@AV.view ((@trim e1)).length 3 (fun y0 => (fun y1 => (@AV.lit ([(@Value.int IntKind.i64 (((@trim e1).getD y0 tok0)).kind), (@Value.string (((@trim e1).getD y0 tok0)).text), (@Value.int IntKind.i64 (((@trim e1).getD y0 tok0)).n)].getD y1 e2))))); let e5 := (@Value.slice none 0 0); let e6 := (some (@AV.lit e5)); let e7 := (some (@AV.own 0 (ss).length 1)); let e8 := (some (@AV.view (ls).length 1 (fun y0 => (fun y1 => (@AV.view ((ls.getD y0 [])).length 3 (fun y2 => (fun y3 => (@AV.lit ([(@Value.int IntKind.i64 (((ls.getD y0 []).getD y2 tok0)).kind), (@Value.string (((ls.getD y0 []).getD y2 tok0)).text), (@Value.int IntKind.i64 (((ls.getD y0 []).getD y2 tok0)).n)].getD y3 e2))))))))); let e9 := (some (int (((ls).length : Nat) : Int))); let e10 := (@AV.view (((@rselV (@trim e1) (Int.ofNat 0))).ps).length 6 (@pcell ((@rselV (@trim e1) (Int.ofNat 0))).ps)); let e11 := (some (@Blk.mk (e10 :: (@List.drop _ (0 + ([e10]).length) [(@AV.lit e5)])) 43 none)); let e12 := (some (@Blk.mk [e4, (int ((@rselV (@trim e1) (Int.ofNat 0))).a)] 63 none)); let e13 := (fun y0 => (fun y1 => (@AV.view ((ss.getD y0 [])).length 6 (@pcell (ss.getD y0 []))))); let e14 := (some (@Blk.mk [] 43 (some (@Rw.mk (ss).length 1 e13)))); let e15 := ((ss).length + 1); let e16 := (e10 :: (@List.drop _ (0 + ([e10]).length) (@List.map _ _ AV.lit (@Array.toList _ (@Array.mk _ [(@List.get _ (@Array.toList _ (@Array.mk _ [e5])) (@Fin.mk _ 0 (@Nat.le_of_ble_eq_true _ _ (@Eq.refl _ true))))]))))); (.fork (!(leI (((ls).length : Nat) : Int) k)) (.need (@inR k (ls).length) (.need (@isSo (@And ((@HAppend.hAppend _ _ _ _ (@HAppend.hAppend _ _ _ _ [] [e3]) []) = [e3]) ((e1).length ≤ 100000))) (.need (@isSo (@And ((some (@Blk.mk (e4 :: (@List.drop _ (0 + ([e4]).length) (@List.map _ _ AV.lit (@Array.toList _ (@Array.mk _ [e5, (@Value.int IntKind.i64 (0 : Int))]))))) 63 none)) = (some (@Blk.mk [e4, (int (Int.ofNat 0))] 63 none))) (@And (([] : List AV) = []) (@And (@InT (@trim e1) (Int.ofNat 0)) (@RdOk (@trim e1)))))) (.fork (!(((@rselV (@trim e1) (Int.ofNat 0))).ret && ((@rselV (@trim e1) (Int.ofNat 0))).r)) (.leaf (Ex.ret, ((none :: none :: e6 :: (some (int (20 : Int))) :: e7 :: (nn6 (e8 :: e9 :: (some (int k)) :: (nn20 [])))), (@Mem.mk ((1 + 1) + 1) ((0 + 1) + 1) (e11 :: [e12, e14]))))) (.need (Bool.true && ((@Nat.ble (ss).length (ss).length) && ((@Nat.ble (e15 * 24) 140737488355328) && (@Nat.ble e15 17592186044416)))) (.leaf (Ex.norm, ((none :: none :: e6 :: (some (int (0 : Int))) :: (some (@AV.own (((1 + 1) + 1) + 1) e15 1)) :: (nn6 (e8 :: e9 :: (some (int (w64 (k + (1 : Int))))) :: (nn20 [])))), (@Mem.mk ((((1 + 1) + 1) + 1) + 1) (((0 + 1) + 1) + 1) ((some (@Blk.mk [] 43 (some (@Rw.mk e15 1 (@appc (ss).length e13 (fun y0 => (fun y1 => (@getA (@List.take _ 1 e16) ((y0 * 1) + y1))))))))) :: ((some (@Blk.mk e16 43 none)) :: (e11 :: [e12, none])))))))))))) (.leaf ((@Ex.exit 0), ((none :: none :: e6 :: (some (int (0 : Int))) :: e7 :: (nn6 (e8 :: e9 :: (some (int k)) :: (nn20 [])))), (@Mem.mk 1 0 [e14]))))))) (by kernel_rfl) ?_
    refine fork_ok (fun h3 => ?_) (fun h3 => ?_)
    · have hin : inR (pre.length : Int) ls.length = true := by rw [inR_t]; omega
      refine need_t hin (need_so ⟨rfl, by rw [hg]; exact hx.1⟩ (need_so ⟨rfl, rfl, ?_, ?_⟩ (fork_ok (fun h4 => ?_) (fun h4 => need_t (room3 (by omega) (by decide)) ?_))))
      · have hr : RdOk (trim x) := rdOk_of hx.1 hx.2
        have hrl := hr.1
        unfold limT at hrl
        rw [hg]
        exact ⟨⟨by decide, by show (0 : Int) ≤ _; omega⟩, by unfold lim; omega⟩
      · rw [hg]; exact rdOk_of hx.1 hx.2
      · rw [hg] at h4
        have e : selOk x = false := nb h4
        refine ⟨paX, ⟨0, 0, []⟩, [], rfl, ?_, .of rfl rfl (by simp) trivial, .inr ⟨by simp [e], rfl, rfl, rfl⟩⟩
        simp [RenF, RenV, RenVs, nm]
      · rw [hg] at h4
        have e : selOk x = true := nc h4
        have key := ih (pre ++ [x]) (ss ++ [selPs x]) (by rw [h]; simp) (by simp; omega)
        have key2 : LoopToT 0 Try.prog (theBody Try.prog 9 4) (l.length + 1) (paF ls (ss ++ [selPs x]).length (pre ++ [x]).length) (paM (ss ++ [selPs x])) (RG 0 (PaG (x :: l) ss)) := key.mono fun ex F M ⟨F2, M2, q, q1, q2, q3, q4⟩ => ⟨F2, M2, q, q1, q2, q3, by
          rcases q4 with ⟨r1, r2, r3, r4⟩ | ⟨r1, r2, r3, r4⟩
          · exact .inl ⟨by rw [List.all_cons, e, r1]; rfl, r2, by rw [r3]; simp, by rw [r4]; simp⟩
          · exact .inr ⟨by rw [List.all_cons, e, r1]; rfl, r2, r3, r4⟩⟩
        refine LoopToT.ren [4] rfl ?_ (paM_ren (ss := ss ++ [selPs x]) rfl rfl (hb.app1 _ fun σ => ?_)) key2
        · simp only [RenF, and_true]
          refine ⟨rfl, rfl, ⟨rfl, by simp, rfl⟩, RenV.free _ (lview_free ls), rfl, ?_⟩
          rw [w64_in (by omega), show ((pre ++ [x]).length : Int) = (pre.length : Int) + 1 by simp]
          exact rfl
        · rw [show selPs x = (rselV (trim (ls.getD (pre.length : Int).toNat [])) 0).ps by rw [hg]; rfl]
          exact RenV.free σ (pview_free _)
    · simp only [Bool.not_eq_true', Bool.not_eq_false', leI_t, leI_f, eqI_t, eqI_f, inR_t, inR_f, isSo_t, isSo_f] at h3
      omega
abbrev pa0F (ls : List (List TokV)) : Fr := (none :: none :: some ((@AV.lit (@Value.slice none 0 0))) :: some ((int (0 : Int))) :: some ((@AV.lit (@Value.slice none 0 0))) :: (nn6 (some (lview ls) :: some (int ls.length) :: some (int 0) :: (nn20 []))))
theorem pa_nil {P : Program} {body : Code} {n : Nat} {G : Ex → Fr → Mem → Prop} (ls : List (List TokV)) (k : Nat) (h : LoopToT 0 P body n (paF ls 0 0) (paM []) G) : LoopTo P body n (pa0F ls) ⟨0, k, []⟩ G := by
  refine LoopToT.to (T := 0) ?_ (Nat.le_refl _)
  refine LoopToT.nil 4 43 1 (sscell []) (Nat.le_refl _) rfl ?_
  exact LoopToT.stamp 0 h
noncomputable abbrev lpPar (ls : List (List TokV)) : Lp Try.prog where
  f := 9
  key := 4
  S := formS (fun _ M => some M.stamp) (fun _ => pa0F ls) (fun k => ⟨0, k, []⟩) (fun _ => PcOk ls) (fun _ => .fork (ls.all selOk) (.leaf (.exit 0, paN (ls.map selPs).length, paM (ls.map selPs))) (.leaf (.ret, paX, ⟨0, 0, []⟩))) (false :: false :: true :: true :: true :: (ff6 (true :: true :: true :: (ff20 []))))
  one := by kernel_rfl
  ok := formS_ok fun k h1 => by
    refine ⟨ls.length + 1, ?_⟩
    have key := LoopToT.out (par_loop ls h1 ls [] [] rfl (Nat.le_refl _))
    refine (pa_nil ls k key).mono fun ex F M hg => ?_
    rcases hg with ⟨r1, rfl, rfl, rfl⟩ | ⟨r1, rfl, rfl, rfl⟩
    · exact .inl ⟨r1, rfl⟩
    · exact .inr ⟨r1, rfl⟩
end Sy
def parseV (l : List TokV) : List (List PartV) := if (pieces comB l).all selOk = true then (pieces comB l).map selPs else []
def parseE (l : List TokV) : Int := if (pieces comB l).all selOk = true then 0 else 20
theorem pcOk_of {l : List TokV} (h : limC l) (hx : ToksOk l) : PcOk (pieces comB l) := by
  have h1 := pieces_num comB _ l (Nat.le_refl _)
  unfold limC at h
  refine ⟨by omega, fun x hxm => ⟨?_, fun t ht => hx t (piecesF_mem comB t _ l x hxm ht)⟩⟩
  have := pieces_le comB l x hxm
  unfold limC
  omega
theorem Sy.parse_f (l : List TokV) (h : limC l) (hx : ToksOk l) : CallTo Try.prog 9 [kv l] M0 fun v M' => Frz true 0 M' v (.tup [sview (parseV l), int (parseE l)]) :=
  to (G := fun r => Frz true 0 r.2 r.1 (.tup [sview (parseV l), int (parseE l)])) [cSplit l] [lpPar (pieces comB l)] 400 30 (.yes (.br .done .done)) (let e1 := (@Value.tuple (@Array.mk _ [])); let e2 := (@AV.view (l).length 3 (fun y0 => (fun y1 => (@AV.lit ([(@Value.int IntKind.i64 ((l.getD y0 tok0)).kind), (@Value.string ((l.getD y0 tok0)).text), (@Value.int IntKind.i64 ((l.getD y0 tok0)).n)].getD y1 e1))))); let e3 := (@AV.lit (@Value.slice none 0 0)); let e4 := (some (int (0 : Int))); let e5 := (@pieces comB l); let e6 := (some (@AV.view (e5).length 1 (fun y0 => (fun y1 => (@AV.view ((e5.getD y0 [])).length 3 (fun y2 => (fun y3 => (@AV.lit ([(@Value.int IntKind.i64 (((e5.getD y0 []).getD y2 tok0)).kind), (@Value.string (((e5.getD y0 []).getD y2 tok0)).text), (@Value.int IntKind.i64 (((e5.getD y0 []).getD y2 tok0)).n)].getD y3 e1))))))))); let e7 := (some (int (((e5).length : Nat) : Int))); (.need (@isSo (@And ((@HAppend.hAppend _ _ _ _ (@HAppend.hAppend _ _ _ _ [] [e2, (int (12 : Int))]) []) = [e2, (int (12 : Int))]) ((l).length ≤ 100000))) (.need (@isSo (@And ((none :: (none :: (some e3) :: e4 :: (some e3) :: (nn6 (e6 :: e7 :: e4 :: (nn20 []))))) = (none :: none :: (some e3) :: e4 :: (some e3) :: (nn6 (e6 :: e7 :: e4 :: (nn20 []))))) ((@Mem.mk 0 0 []) = (@Mem.mk 0 0 [])))) (.need (@isSo (@PcOk e5)) (.fork (@List.all _ e5 selOk) (.leaf ((@AV.tup [(@AV.own 0 ((@List.map _ _ selPs e5)).length 1), (int (0 : Int))]), (@Mem.mk 1 0 [(some (@Blk.mk [] 43 (some (@Rw.mk ((@List.map _ _ selPs e5)).length 1 (fun y0 => (fun y1 => (@AV.view (((@List.map _ _ selPs e5).getD y0 [])).length 6 (@pcell ((@List.map _ _ selPs e5).getD y0 [])))))))))]))) (.leaf ((@AV.tup [e3, (int (20 : Int))]), (@Mem.mk 0 0 [])))))))) (by kernel_rfl) (by
    refine need_so ⟨rfl, h⟩ (need_so ⟨rfl, rfl⟩ (need_so (pcOk_of h hx) (fork_ok (fun h1 => ?_) (fun h1 => ?_))))
    · unfold parseV parseE
      rw [if_pos h1, if_pos h1]
      exact Frz.tup ⟨Frz.own (b := 0) (by decide) rfl rfl (Nat.le_refl _) rfl fun i j _ _ => Frz.free _ _ (pview_free _), Frz.lit _ _ _ _, trivial⟩
    · unfold parseV parseE
      rw [if_neg (nt h1), if_neg (nt h1)]
      exact Frz.tup ⟨Frz.nil _ _ _ _ _, Frz.lit _ _ _ _, trivial⟩)
theorem Sy.parse_v (l : List TokV) (h : limC l) (hx : ToksOk l) : CallTo Try.prog 9 [kv l] M0 fun v _ => v = .tup [sview (parseV l), int (parseE l)] :=
  CallTo.frz0 (parse_f l h hx) ⟨kv_free l, trivial⟩ ⟨sview_free _, trivial, trivial⟩
end Go.Proofs.Ytconlneohilnmaa
namespace Go.Proofs.Ytconlneohilnmaa
open Go Go.RowKit Pl Sy
theorem Sy.WR.giveO {w0 : World} {ρ : Rho} {M : Mem} {w : World} (h : WR w0 ρ M w) {b n s : Nat} {B : Blk} {R : Rw} {u : Value} (hb : M.get b = some B) (hR : B.rows = some R) (hn : n ≤ R.n) (hs : R.s = s) (hr : rel ρ (.own b n s) u) {cell : Nat → Nat → AV} (hc : ∀ i j, i < n → j < s → Sub (R.cell i j) (cell i j)) :
    ∃ ρ', Ext ρ ρ' ∧ WR w0 ρ' (M.put b none) w ∧ rel ρ' (.view n s cell) u := by
  have hr' := hr
  simp only [rel] at hr'
  rcases hr' with ⟨_, rfl, rfl⟩ | ⟨g, tot, cap, hg, rfl, h1, h2, h3⟩
  · refine ⟨ρ, Ext.refl ρ, h.die (Mem.get_lt hb), ?_⟩
    simp only [rel]
    exact ⟨none, 0, rfl, Nat.le_refl _, by unfold maxLen; omega, fun _ => rfl, fun h => by omega⟩
  · obtain ⟨cur, q1, q2, q3, q4, q5⟩ := h.freeze hb hg
    refine ⟨_, q4, q5, ?_⟩
    simp only [rel]
    refine ⟨_, cap, rfl, h1, h2, (fun h => by cases h), fun _ => ⟨g, 0, rfl, fun i j hi hj => ?_⟩⟩
    obtain ⟨x, r1, r2, r3⟩ := q3.2 R hR i j (by omega) (by omega)
    refine ⟨x, ?_, hc i j hi hj _ _ (r2.ext q4), r3⟩
    show (quiet ρ g cur).still g _ = _
    simp only [quiet, if_true]
    rw [Nat.zero_add, ← hs]; exact r1
theorem Sy.CallTo.give {P : Program} {f : FuncId} {args args' : List AV} {G : AV → Prop} {b : Nat} {M : Mem} (h : CallTo P f args' ⟨0, 0, []⟩ fun v _ => Free v ∧ G v) (hf : Frees args')
    (hs : ∀ w0 ρ w us, WR w0 ρ M w → rels ρ args us → ∃ ρ', Ext ρ ρ' ∧ WR w0 ρ' (M.put b none) w ∧ rels ρ' args' us) : CallTo P f args M fun v M' => M' = M.put b none ∧ G v := fun w0 ρ us w hr hW => by
  obtain ⟨ρ', q1, q2, q3⟩ := hs w0 ρ w us hW hr
  refine (h.frame hf (M.put b none) w0 ρ' us w q3 q2).mono ?_
  rintro e w' ⟨ρ2, u, v, M', r1, r2, r3, r4, r5, r6⟩
  exact ⟨ρ2, u, v, M', r1, q1.trans r2, r3, r4, r5, r6⟩
theorem Sy.CallTo.sub {P : Program} {f : FuncId} {args args' : List AV} {G : AV → Mem → Prop} {M : Mem} (h : CallTo P f args' M G) (hs : ∀ ρ us, rels ρ args us → rels ρ args' us) : CallTo P f args M G := fun w0 ρ us w hr hW => h w0 ρ us w (hs ρ us hr) hW
def intA : AV → Int
  | .lit (.int _ k) => k
  | _ => 0
def strA : AV → ByteArray
  | .lit (.string s) => s
  | _ => ⟨#[]⟩
def toksOf (n : Nat) (c : Nat → Nat → AV) : List TokV := (List.range n).map fun i => ⟨intA (c i 0), strA (c i 1), intA (c i 2)⟩
theorem toksOf_is {n : Nat} {c : Nat → Nat → AV} {L : List TokV} (h : CellIs n c L) : toksOf n c = L := by
  obtain ⟨h1, h2⟩ := h
  unfold toksOf
  refine List.ext_getElem (by simp [h1]) fun i q1 q2 => ?_
  simp only [List.getElem_map, List.getElem_range]
  have hi : i < n := by omega
  rw [h2 i 0 hi (by decide), h2 i 1 hi (by decide), h2 i 2 hi (by decide)]
  have e : L.getD i tok0 = L[i] := by rw [List.getD_eq_getElem?_getD, List.getElem?_eq_getElem q2]; rfl
  show (⟨(L.getD i tok0).kind, (L.getD i tok0).text, (L.getD i tok0).n⟩ : TokV) = _
  rw [e]
namespace Sy
structure GX where
  b : Option Nat
  n : Nat
  m : Nat
  c : Nat → Nat → AV
def gGet3 (b n : Nat) : Option Blk → Option GX
  | some ⟨_, _, some R⟩ => match Nat.beq R.s 3 with
    | true => some ⟨some b, n, R.n, R.cell⟩
    | false => none
  | _ => none
noncomputable def gGet (M : Mem) : AV → Option GX
  | .view n s c => match Nat.beq s 3 with
    | true => some ⟨none, n, n, c⟩
    | false => none
  | .own b n s => match Nat.beq s 3 with
    | true => gGet3 b n (M.get b)
    | false => none
  | _ => none
noncomputable def gMem (M : Mem) : Option Nat → Mem
  | none => M
  | some b => M.put b none
end Sy
theorem gGet_ok {M : Mem} {v : AV} {x : GX} (h : gGet M v = some x) : (x.b = none ∧ v = .view x.n 3 x.c) ∨ ∃ b B R, x.b = some b ∧ v = .own b x.n 3 ∧ M.get b = some B ∧ B.rows = some R ∧ R.s = 3 ∧ x.m = R.n ∧ x.c = R.cell := by
  unfold gGet at h
  split at h
  · rename_i n s c
    split at h
    · rename_i hs
      have hs := Nat.eq_of_beq_eq_true hs
      subst hs
      simp at h
      subst h
      exact .inl ⟨rfl, rfl⟩
    · cases h
  · rename_i b n s
    split at h
    · rename_i hs
      have hs := Nat.eq_of_beq_eq_true hs
      subst hs
      cases hg : M.get b with
      | none => rw [hg] at h; cases h
      | some B =>
        rw [hg] at h
        unfold gGet3 at h
        split at h
        · rename_i cs e R heq
          simp at heq
          subst heq
          split at h
          · rename_i hb
            have h1 := Nat.eq_of_beq_eq_true hb
            simp at h
            subst h
            exact .inr ⟨b, _, R, rfl, rfl, hg, rfl, h1, rfl, rfl⟩
          · cases h
        · cases h
    · cases h
  · cases h
noncomputable def Sy.conG (f : FuncId) (v0 : List TokV → AV) (C : List TokV → Prop) (h : ∀ L, C L → Free (v0 L) ∧ CallTo Try.prog f [kv L] M0 fun v _ => v = v0 L) : Con Try.prog where
  f := f
  run := fun args M => match args with
    | [v] => (match gGet M v with | some x => some (v0 (toksOf x.n x.c), gMem M x.b) | none => none)
    | _ => none
  ob := fun args M => match args with
    | [v] => (match gGet M v with | some x => some (isSo (x.n ≤ x.m ∧ TokRows x.n x.c ∧ C (toksOf x.n x.c))) | none => none)
    | _ => none
  ok := fun args M v M' hr hob => by
    match args, hr, hob with
    | [a], hr, hob =>
      have hr : (match gGet M a with | some x => some (v0 (toksOf x.n x.c), gMem M x.b) | none => none) = some (v, M') := hr
      have hob : owed (match gGet M a with | some x => some (isSo (x.n ≤ x.m ∧ TokRows x.n x.c ∧ C (toksOf x.n x.c))) | none => none) := hob
      cases hg : gGet M a with
      | none => rw [hg] at hr; cases hr
      | some x =>
        rw [hg] at hr hob
        simp at hr
        obtain ⟨rfl, rfl⟩ := hr
        have h1 := hob _ rfl
        rw [isSo_t] at h1
        obtain ⟨hm, ⟨L, hL⟩, hC⟩ := h1
        rw [toksOf_is hL] at hC ⊢
        obtain ⟨q1, q2⟩ := h L hC
        rcases gGet_ok hg with ⟨e1, e2⟩ | ⟨b, B, R, e1, e2, e3, e4, e5, e6, e7⟩
        · rw [e1, e2]
          refine ⟨Grow.refl _, ?_⟩
          have k := ((q2.mono fun v _ e => (⟨e ▸ q1, e⟩ : Free v ∧ v = v0 L)).frame ⟨kv_free L, trivial⟩ M).mono fun v' M' (hx : M' = M ∧ v' = v0 L) => (⟨hx.2, hx.1⟩ : v' = v0 L ∧ M' = M)
          refine k.sub fun ρ us hr => ?_
          simp only [rels] at hr ⊢
          obtain ⟨u, us', r1, r2, r3⟩ := hr
          refine ⟨u, us', r1, ?_, r3⟩
          simp only [rel] at r2 ⊢
          obtain ⟨o1, o2, o3, o4, o5, o6, o7⟩ := r2
          refine ⟨o1, o2, by rw [← hL.1]; exact o3, by rw [← hL.1]; exact o4, o5, o6, fun hn => ?_⟩
          obtain ⟨g, o, s1, s2⟩ := o7 (by rw [hL.1]; exact hn)
          refine ⟨g, o, s1, fun i j hi hj => ?_⟩
          obtain ⟨y, t1, t2, t3⟩ := s2 i j (by rw [hL.1]; exact hi) hj
          refine ⟨y, t1, ?_, t3⟩
          rw [hL.2 i j (by rw [hL.1]; exact hi) hj] at t2
          exact t2
        · rw [e1, e2]
          refine ⟨Grow.put M b none, ?_⟩
          refine (CallTo.give (b := b) (q2.mono fun v _ e => (⟨e ▸ q1, e⟩ : Free v ∧ v = v0 L)) ⟨kv_free L, trivial⟩ fun w0 ρ w us hW hr => ?_).mono fun v' M' hx => ⟨hx.2, hx.1⟩
          simp only [rels] at hr
          obtain ⟨u, us', r1, r2, r3⟩ := hr
          obtain ⟨ρ', z1, z2, z3⟩ := WR.giveO hW e3 e4 (by omega) e5 r2 (cell := kcell L) (fun i j hi hj => Sub.of_eq (by rw [← e7]; exact hL.2 i j hi hj))
          refine ⟨ρ', z1, z2, ?_⟩
          simp only [rels]
          refine ⟨u, us', r1, ?_, r3⟩
          have e : kv L = .view L.length 3 (kcell L) := rfl
          rw [e, ← hL.1]
          exact z3
end Go.Proofs.Ytconlneohilnmaa
