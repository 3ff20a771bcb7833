/-
  Which elements parts pick, as the document says: siblings and what stands around.
-/
import Derived.Test.YtmlhipckgmbpfaaGreatMtSy
namespace Go.Proofs.YtmlhipckgmbpfaaGreat
open Go Go.RowKit Pl Sy
set_option linter.unusedVariables false
set_option linter.unusedSimpArgs false

/-sy rup_t
fun (ns : List NodeW) (i : Int) (d : D) => reckV [] [] 400 30 44 [nview ns, int i] M0 d
-/
theorem Sy.rup_t (ns : List NodeW) (i : Int) (h0 : 0 ≤ i) (h1 : i < ns.length) : CallTo Tryz.prog 44 [nview ns, int i] M0 fun v _ => v = int (up (parN ns) i.toNat) :=
  toV [] [] 400 30 (.yes (.br (.auto 2 (.br .done .done)) (.auto 3 .done))) (.need (@inR i (ns).length) (.fork (leI (0 : Int) ((ns.getD (i).toNat nodeNone)).parent) (.fork (!(leI i ((ns.getD (i).toNat nodeNone)).parent)) (.leaf (int ((ns.getD (i).toNat nodeNone)).parent)) (.leaf (int (-1 : Int)))) (.leaf (int (-1 : Int))))) (by kernel_rfl) (by
    have hr : inR i ns.length = true := by rw [inR_t]; omega
    unfold up parN
    refine need_t hr (fork_ok (fun h2 => fork_ok (fun h3 => leaf_int ?_) (fun h3 => leaf_int ?_)) (fun h2 => leaf_int ?_))
    · simp only [Bool.not_eq_true', Bool.not_eq_false', leI_t, leI_f, eqI_t, eqI_f, inR_t, inR_f, isSo_t, isSo_f] at h2 h3
      rw [if_pos (by omega)]
    · simp only [Bool.not_eq_true', Bool.not_eq_false', leI_t, leI_f, eqI_t, eqI_f, inR_t, inR_f, isSo_t, isSo_f] at h2 h3
      rw [if_neg (by omega)]
    · simp only [Bool.not_eq_true', Bool.not_eq_false', leI_t, leI_f, eqI_t, eqI_f, inR_t, inR_f, isSo_t, isSo_f] at h2
      rw [if_neg (by omega)])
noncomputable abbrev Sy.cRup (ns : List NodeW) : Con Tryz.prog := atX 44 (fun args => match args with | [_, .lit (.int .i64 i)] => some i | _ => none) (fun i => [nview ns, int i]) (fun i => int (up (parN ns) i.toNat)) (fun i => 0 ≤ i ∧ i < ns.length) fun i h => ⟨⟨nview_frees ns i, trivial⟩, rup_t ns i h.1 h.2⟩
/-- is a node a sibling ahead of another one? -/
def sibI (ns : List NodeW) (k i : Int) : Bool := !leI i k && (elN ns k.toNat && (leI 0 (up (parN ns) i.toNat) && eqI (up (parN ns) k.toNat) (up (parN ns) i.toNat)))
theorem sibI_iff (ns : List NodeW) (k i : Int) : sibI ns k i = true ↔ k < i ∧ elN ns k.toNat = true ∧ 0 ≤ up (parN ns) i.toNat ∧ up (parN ns) k.toNat = up (parN ns) i.toNat := by
  unfold sibI
  simp only [Bool.and_eq_true, Bool.not_eq_true', leI_f, leI_t, eqI_t]
  constructor
  · rintro ⟨a, b, c, d⟩; exact ⟨by omega, b, c, d⟩
  · rintro ⟨a, b, c, d⟩; exact ⟨by omega, b, c, d⟩
/-sy sib_t
fun (ns : List NodeW) (k i : Int) (d : D) => reckV [cRup ns] [] 400 30 46 [nview ns, int k, int i] M0 d
-/
theorem Sy.sib_t (ns : List NodeW) (k i : Int) (h0 : 0 ≤ k) (h1 : k < ns.length) (h2 : 0 ≤ i) (h3 : i < ns.length) : CallTo Tryz.prog 46 [nview ns, int k, int i] M0 fun v _ => v = boo (sibI ns k i) :=
  toV [cRup ns] [] 400 30 (.br (.auto 1 (.yes (.auto 3 (.br (.auto 1 (.yes (.auto 1 (.br (.auto 1 (.yes (.auto 2 (.yes (.auto 1 .done))))) (.auto 6 .done))))) (.auto 11 .done))))) (.auto 18 .done)) (.fork (!(leI i k)) (.need (@inR k (ns).length) (.fork (!(@bytesEq (@Array.toList _ (@ByteArray.data ((ns.getD (k).toNat nodeNone)).tag)) (@Array.toList _ (@ByteArray.data (@ByteArray.mk (@Array.mk _ [])))))) (.need (@isSo (@And ([(@AV.view (ns).length 6 (@ncell ns)), (int i)] = [(@AV.view (ns).length 6 (@ncell ns)), (int i)]) (@And ((0 : Int) ≤ i) (i < (((ns).length : Nat) : Int))))) (.fork (leI (0 : Int) (@Pl.up (@parN ns) (i).toNat)) (.need (@isSo (@And ([(@AV.view (ns).length 6 (@ncell ns)), (int k)] = [(@AV.view (ns).length 6 (@ncell ns)), (int k)]) (@And ((0 : Int) ≤ k) (k < (((ns).length : Nat) : Int))))) (.need (@isSo (@And ([(@AV.view (ns).length 6 (@ncell ns)), (int i)] = [(@AV.view (ns).length 6 (@ncell ns)), (int i)]) (@And ((0 : Int) ≤ i) (i < (((ns).length : Nat) : Int))))) (.leaf (boo (eqI (@Pl.up (@parN ns) (k).toNat) (@Pl.up (@parN ns) (i).toNat)))))) (.leaf (boo false)))) (.leaf (boo false)))) (.leaf (boo false))) (by kernel_rfl) (by
    have hr : inR k ns.length = true := by rw [inR_t]; omega
    unfold sibI
    rw [← el_B]
    repeat' (first | refine fork_ok (fun _ => ?_) (fun _ => ?_) | refine need_t hr ?_ | refine need_so ⟨rfl, h2, h3⟩ ?_ | refine need_so ⟨rfl, h0, h1⟩ ?_)
    all_goals refine leaf_boo ?_
    all_goals (simp only [Bool.not_eq_true', Bool.not_eq_false', Bool.not_not] at *)
    all_goals simp only [*, Bool.not_true, Bool.not_false, Bool.true_and, Bool.false_and, Bool.and_false, Bool.and_true])
noncomputable abbrev Sy.cSib (ns : List NodeW) : Con Tryz.prog := atX 46 (fun args => match args with | [_, .lit (.int .i64 k), .lit (.int .i64 i)] => some (k, i) | _ => none) (fun x => [nview ns, int x.1, int x.2]) (fun x => boo (sibI ns x.1 x.2)) (fun x => 0 ≤ x.1 ∧ x.1 < ns.length ∧ 0 ≤ x.2 ∧ x.2 < ns.length) fun x h => ⟨⟨⟨nview_free ns, trivial, trivial, trivial⟩, trivial⟩, sib_t ns x.1 x.2 h.1 h.2.1 h.2.2.1 h.2.2.2⟩
/-! ### First, Last, Nearest, Under -/
/-sy rfi_p
fun (ns : List NodeW) (i : Int) (d : D) => probeV SyTool.probe [] 400 30 41 [nview ns, int i] M0 d
-/
namespace Sy
abbrev rfF (ns : List NodeW) (i k : Int) (b : Bool) : Fr := [some ((@AV.view (ns).length 6 (@ncell ns))), some ((int i)), none, none, some (boo b), some (int k), none, none, none, none, none, none, none, none, none]
abbrev rfE (ns : List NodeW) (i : Int) (b : Bool) : Fr := [some ((@AV.view (ns).length 6 (@ncell ns))), some ((int i)), none, none, some (boo b), none, none, none, none, none, none, none, none, none, none]
end Sy
/-sy rfi_r
fun (ns : List NodeW) (i k : Int) (d : D) => reckL [cSib ns] [] 400 30 41 3 [true, true, false, false, true, true, false, false, false, false, false, false, false, false, false] (rfF ns i k false) M0 d
-/
theorem Sy.rf_scan (ns : List NodeW) (hl : ns.length ≤ 17592186044416) (i : Int) (h0 : 0 ≤ i) (h1 : i < ns.length) : LoopTo Tryz.prog (theBody Tryz.prog 41 3) (i.toNat + 1) (rfF ns i 0 false) M0 fun ex F' M' => M' = M0 ∧ ((0 ≤ idxN (fun k => sibI ns (k : Nat) i) i.toNat ∧ ex = .ret ∧ F' = rfF ns i (idxN (fun k => sibI ns (k : Nat) i) i.toNat) false) ∨ (idxN (fun k => sibI ns (k : Nat) i) i.toNat = -1 ∧ ex = .exit 0 ∧ F' = rfF ns i (i.toNat : Nat) false)) :=
  scanN i.toNat (fun k => sibI ns (k : Nat) i) (fun k => rfF ns i k false) (fun k => rfF ns i k false) M0 fun k n G q0 q1 c1 c2 c3 => by
    refine roundL [cSib ns] [] 400 30 41 3 Tryz.func41 rfl (by kernel_rfl) [true, true, false, false, true, true, false, false, false, false, false, false, false, false, false] (.br (.yes (.br .done .done)) .done) (.fork (!(leI i k)) (.need (@isSo (@And ([(@AV.view (ns).length 6 (@ncell ns)), (int k), (int i)] = [(@AV.view (ns).length 6 (@ncell ns)), (int k), (int i)]) (@And ((0 : Int) ≤ k) (@And (k < (((ns).length : Nat) : Int)) (@And ((0 : Int) ≤ i) (i < (((ns).length : Nat) : Int))))))) (.fork (@sibI ns k i) (.leaf (Ex.ret, ([(some (@AV.view (ns).length 6 (@ncell ns))), (some (int i)), none, none, (some (boo false)), (some (int k)), none, none, none, none, none, none, none, none, none], (@Mem.mk 0 0 [])))) (.leaf (Ex.norm, ([(some (@AV.view (ns).length 6 (@ncell ns))), (some (int i)), none, none, (some (boo false)), (some (int (w64 (k + (1 : Int))))), none, none, none, none, none, none, none, none, none], (@Mem.mk 0 0 [])))))) (.leaf ((@Ex.exit 0), ([(some (@AV.view (ns).length 6 (@ncell ns))), (some (int i)), none, none, (some (boo false)), (some (int k)), none, none, none, none, none, none, none, none, none], (@Mem.mk 0 0 []))))) (by kernel_rfl) ?_
    have e : ((k.toNat : Nat) : Int) = k := by omega
    simp only [e] at c1 c2
    refine fork_ok (fun h => ?_) (fun h => ?_)
    · simp only [Bool.not_eq_true', Bool.not_eq_false', leI_t, leI_f, eqI_t, eqI_f, inR_t, inR_f, isSo_t, isSo_f] at h
      refine need_so ⟨rfl, by omega, by omega, h0, h1⟩ (fork_ok (fun h2 => c2 (by omega) h2) (fun h2 => ?_))
      rw [w64_in (r := k + 1) (by omega)]
      exact c1 (by omega) h2
    · simp only [Bool.not_eq_true', Bool.not_eq_false', leI_t, leI_f, eqI_t, eqI_f, inR_t, inR_f, isSo_t, isSo_f] at h
      exact c3 (by omega)
namespace Sy
noncomputable abbrev lpRf (ns : List NodeW) (i : Int) : Lp Tryz.prog where
  f := 41
  key := 3
  S := formS (fun F M => slotI F 5) (fun k => rfF ns i k false) (fun _ => M0) (fun k => (ns.length ≤ 17592186044416 ∧ 0 ≤ i ∧ i < ns.length) ∧ k = 0) (fun k => .fork (anyN (fun k => sibI ns (k : Nat) i) i.toNat) (.leaf (.ret, rfE ns i false, M0)) (.leaf (.exit 0, rfE ns i false, M0))) [true, true, false, false, true, true, false, false, false, false, false, false, false, false, false]
  one := by kernel_rfl
  ok := formS_ok fun k ⟨h1, h2⟩ => by
    subst h2
    refine ⟨i.toNat + 1, ?_⟩
    refine ((Sy.rf_scan ns h1.1 i h1.2.1 h1.2.2).out [true, true, false, false, true, false, false, false, false, false, false, false, false, false, false]).mono fun ex F M hg => ?_
    obtain ⟨F0, ⟨hM, hg⟩, rfl⟩ := hg
    rcases hg with ⟨q1, rfl, rfl⟩ | ⟨q1, rfl, rfl⟩
    · exact .inl ⟨by rw [← anyN_idx, leI_t]; exact q1, by rw [hM]; rfl⟩
    · exact .inr ⟨by rw [← anyN_idx, leI_f, q1]; omega, by rw [hM]; rfl⟩
end Sy
/-sy rfi_t
fun (ns : List NodeW) (i : Int) (d : D) => reckV [] [lpRf ns i] 400 30 41 [nview ns, int i] M0 d
-/
def rfirstB (ns : List NodeW) (i : Int) : Bool := !anyN (fun k => sibI ns (k : Nat) i) i.toNat
theorem Sy.rfirst_t (ns : List NodeW) (i : Int) (h : ns.length ≤ 17592186044416 ∧ 0 ≤ i ∧ i < ns.length) : CallTo Tryz.prog 41 [nview ns, int i] M0 fun v _ => v = boo (rfirstB ns i) :=
  toV [] [lpRf ns i] 400 30 (.br .done .done) (.need (@isSo (@And (((some (@AV.view (ns).length 6 (@ncell ns))) :: (some (int i)) :: [none, none, (some (boo false)), (some (int (0 : Int))), none, none, none, none, none, none, none, none, none]) = [(some (@AV.view (ns).length 6 (@ncell ns))), (some (int i)), none, none, (some (boo false)), (some (int (0 : Int))), none, none, none, none, none, none, none, none, none]) ((@Mem.mk 0 0 []) = M0))) (.need (@isSo (@And (@And ((ns).length ≤ 17592186044416) (@And ((0 : Int) ≤ i) (i < (((ns).length : Nat) : Int)))) ((0 : Int) = (0 : Int)))) (.fork (@anyN (fun x883703 => (@sibI ns ((x883703 : Nat) : Int) i)) (i).toNat) (.leaf (boo false)) (.leaf (boo true))))) (by kernel_rfl) (by
    unfold rfirstB
    refine need_so ⟨rfl, rfl⟩ (need_so ⟨h, rfl⟩ (fork_ok (fun h1 => ?_) (fun h1 => ?_)))
    · rw [h1]; exact rfl
    · rw [h1]; exact rfl)
noncomputable abbrev Sy.cRFirst (ns : List NodeW) (i : Int) : Con Tryz.prog := at1 41 [nview ns, int i] (boo (rfirstB ns i)) (ns.length ≤ 17592186044416 ∧ 0 ≤ i ∧ i < ns.length) fun h => ⟨⟨nview_frees ns i, trivial⟩, rfirst_t ns i h⟩
/-sy rla_p
fun (ns : List NodeW) (i : Int) (d : D) => probeV SyTool.probe [] 400 30 42 [nview ns, int i] M0 d
-/
namespace Sy
abbrev rlF (ns : List NodeW) (i k : Int) (b : Bool) : Fr := [some ((@AV.view (ns).length 6 (@ncell ns))), some ((int i)), none, none, some (boo b), some (int k), none, none, none, none, none, none, none, none, none, none, none, none, none, none, none, none, none, none, none, none]
abbrev rlE (ns : List NodeW) (i : Int) (b : Bool) : Fr := [some ((@AV.view (ns).length 6 (@ncell ns))), some ((int i)), none, none, some (boo b), none, none, none, none, none, none, none, none, none, none, none, none, none, none, none, none, none, none, none, none, none]
end Sy
/-sy rla_r
fun (ns : List NodeW) (i k : Int) (d : D) => reckL [cSib ns] [] 400 30 42 3 [true, true, false, false, true, true, false, false, false, false, false, false, false, false, false, false, false, false, false, false, false, false, false, false, false, false] (rlF ns i k false) M0 d
-/
def rlaN (ns : List NodeW) (i : Int) (k : Nat) : Bool := elN ns (i + 1 + k).toNat && sibI ns i (i + 1 + k)
theorem Sy.rl_scan (ns : List NodeW) (hl : ns.length ≤ 17592186044416) (i : Int) (h0 : 0 ≤ i) (h1 : i < ns.length) : LoopTo Tryz.prog (theBody Tryz.prog 42 3) ((ns.length - i.toNat - 1) + 1) (rlF ns i (i + 1 + 0) false) M0 fun ex F' M' => M' = M0 ∧ ((0 ≤ idxN (rlaN ns i) (ns.length - i.toNat - 1) ∧ ex = .ret ∧ F' = rlF ns i (i + 1 + idxN (rlaN ns i) (ns.length - i.toNat - 1)) false) ∨ (idxN (rlaN ns i) (ns.length - i.toNat - 1) = -1 ∧ ex = .exit 0 ∧ F' = rlF ns i (i + 1 + (ns.length - i.toNat - 1 : Nat)) false)) :=
  scanN (ns.length - i.toNat - 1) (rlaN ns i) (fun k => rlF ns i (i + 1 + k) false) (fun k => rlF ns i (i + 1 + k) false) M0 fun m n G q0 q1 c1 c2 c3 => by
    have e : ((m.toNat : Nat) : Int) = m := by omega
    simp only [rlaN, e] at c1 c2
    have e2 : i + 1 + (m + 1) = i + 1 + m + 1 := by omega
    simp only [e2] at c1
    generalize hk : i + 1 + m = k at *
    refine roundL [cSib ns] [] 400 30 42 3 Tryz.func42 rfl (by kernel_rfl) [true, true, false, false, true, true, false, false, false, false, false, false, false, false, false, false, false, false, false, false, false, false, false, false, false, false] (.br (.yes (.br (.auto 2 (.yes (.auto 0 (.br .done .done)))) (.auto 4 .done))) .done) (.fork (!(leI (((ns).length : Nat) : Int) k)) (.need (@inR k (ns).length) (.fork (!(@bytesEq (@Array.toList _ (@ByteArray.data ((ns.getD (k).toNat nodeNone)).tag)) (@Array.toList _ (@ByteArray.data (@ByteArray.mk (@Array.mk _ [])))))) (.need (@isSo (@And ([(@AV.view (ns).length 6 (@ncell ns)), (int i), (int k)] = [(@AV.view (ns).length 6 (@ncell ns)), (int i), (int k)]) (@And ((0 : Int) ≤ i) (@And (i < (((ns).length : Nat) : Int)) (@And ((0 : Int) ≤ k) (k < (((ns).length : Nat) : Int))))))) (.fork (@sibI ns i k) (.leaf (Ex.ret, ([(some (@AV.view (ns).length 6 (@ncell ns))), (some (int i)), none, none, (some (boo false)), (some (int k)), none, none, none, none, none, none, none, none, none, none, none, none, none, none, none, none, none, none, none, none], (@Mem.mk 0 0 [])))) (.leaf (Ex.norm, ([(some (@AV.view (ns).length 6 (@ncell ns))), (some (int i)), none, none, (some (boo false)), (some (int (w64 (k + (1 : Int))))), none, none, none, none, none, none, none, none, none, none, none, none, none, none, none, none, none, none, none, none], (@Mem.mk 0 0 [])))))) (.leaf (Ex.norm, ([(some (@AV.view (ns).length 6 (@ncell ns))), (some (int i)), none, none, (some (boo false)), (some (int (w64 (k + (1 : Int))))), none, none, none, none, none, none, none, none, none, none, none, none, none, none, none, none, none, none, none, none], (@Mem.mk 0 0 [])))))) (.leaf ((@Ex.exit 0), ([(some (@AV.view (ns).length 6 (@ncell ns))), (some (int i)), none, none, (some (boo false)), (some (int k)), none, none, none, none, none, none, none, none, none, none, none, none, none, none, none, none, none, none, none, none], (@Mem.mk 0 0 []))))) (by kernel_rfl) ?_
    rw [el_B]
    refine fork_ok (fun h => ?_) (fun h => ?_)
    · simp only [Bool.not_eq_true', Bool.not_eq_false', leI_t, leI_f, eqI_t, eqI_f, inR_t, inR_f, isSo_t, isSo_f] at h
      have hr : inR k ns.length = true := by rw [inR_t]; omega
      refine need_t hr (fork_ok (fun h3 => need_so ⟨rfl, h0, h1, by omega, by omega⟩ (fork_ok (fun h2 => c2 (by omega) ?_) (fun h2 => ?_))) (fun h3 => ?_))
      · rw [h3, h2]; rfl
      · rw [w64_in (r := k + 1) (by omega)]
        exact c1 (by omega) (by rw [h2, Bool.and_false])
      · rw [w64_in (r := k + 1) (by omega)]
        exact c1 (by omega) (by rw [h3, Bool.false_and])
    · simp only [Bool.not_eq_true', Bool.not_eq_false', leI_t, leI_f, eqI_t, eqI_f, inR_t, inR_f, isSo_t, isSo_f] at h
      exact c3 (by omega)
namespace Sy
noncomputable abbrev lpRl (ns : List NodeW) (i : Int) : Lp Tryz.prog where
  f := 42
  key := 3
  S := formS (fun F M => slotI F 5) (fun k => rlF ns i k false) (fun _ => M0) (fun k => (ns.length ≤ 17592186044416 ∧ 0 ≤ i ∧ i < ns.length) ∧ k = i + 1) (fun k => .fork (anyN (rlaN ns i) (ns.length - i.toNat - 1)) (.leaf (.ret, rlE ns i false, M0)) (.leaf (.exit 0, rlE ns i false, M0))) [true, true, false, false, true, true, false, false, false, false, false, false, false, false, false, false, false, false, false, false, false, false, false, false, false, false]
  one := by kernel_rfl
  ok := formS_ok fun k ⟨h1, h2⟩ => by
    subst h2
    refine ⟨(ns.length - i.toNat - 1) + 1, ?_⟩
    have key := (Sy.rl_scan ns h1.1 i h1.2.1 h1.2.2).out [true, true, false, false, true, false, false, false, false, false, false, false, false, false, false, false, false, false, false, false, false, false, false, false, false, false]
    rw [show i + 1 + (0 : Int) = i + 1 by omega] at key
    refine key.mono fun ex F M hg => ?_
    obtain ⟨F0, ⟨hM, hg⟩, rfl⟩ := hg
    rcases hg with ⟨q1, rfl, rfl⟩ | ⟨q1, rfl, rfl⟩
    · exact .inl ⟨by rw [← anyN_idx, leI_t]; exact q1, by rw [hM]; rfl⟩
    · exact .inr ⟨by rw [← anyN_idx, leI_f, q1]; omega, by rw [hM]; rfl⟩
end Sy
/-sy rla_t
fun (ns : List NodeW) (i : Int) (d : D) => reckV [] [lpRl ns i] 400 30 42 [nview ns, int i] M0 d
-/
def rlastB (ns : List NodeW) (i : Int) : Bool := !anyN (rlaN ns i) (ns.length - i.toNat - 1)
theorem Sy.rlast_t (ns : List NodeW) (i : Int) (h : ns.length ≤ 17592186044416 ∧ 0 ≤ i ∧ i < ns.length) : CallTo Tryz.prog 42 [nview ns, int i] M0 fun v _ => v = boo (rlastB ns i) :=
  toV [] [lpRl ns i] 400 30 (.br .done .done) (.need (@isSo (@And (((some (@AV.view (ns).length 6 (@ncell ns))) :: (some (int i)) :: [none, none, (some (boo false)), (some (int (w64 (i + (1 : Int))))), none, none, none, none, none, none, none, none, none, none, none, none, none, none, none, none, none, none, none, none]) = [(some (@AV.view (ns).length 6 (@ncell ns))), (some (int i)), none, none, (some (boo false)), (some (int (w64 (i + (1 : Int))))), none, none, none, none, none, none, none, none, none, none, none, none, none, none, none, none, none, none, none, none]) ((@Mem.mk 0 0 []) = M0))) (.need (@isSo (@And (@And ((ns).length ≤ 17592186044416) (@And ((0 : Int) ≤ i) (i < (((ns).length : Nat) : Int)))) ((w64 (i + (1 : Int))) = (i + (1 : Int))))) (.fork (@anyN (@rlaN ns i) (((ns).length - (i).toNat) - 1)) (.leaf (boo false)) (.leaf (boo true))))) (by kernel_rfl) (by
    rw [w64_in (r := i + 1) (by omega)]
    unfold rlastB
    refine need_so ⟨rfl, rfl⟩ (need_so ⟨h, rfl⟩ (fork_ok (fun h1 => ?_) (fun h1 => ?_)))
    · rw [h1]; exact rfl
    · rw [h1]; exact rfl)
noncomputable abbrev Sy.cRLast (ns : List NodeW) (i : Int) : Con Tryz.prog := at1 42 [nview ns, int i] (boo (rlastB ns i)) (ns.length ≤ 17592186044416 ∧ 0 ≤ i ∧ i < ns.length) fun h => ⟨⟨nview_frees ns i, trivial⟩, rlast_t ns i h⟩
/-sy rne_p
fun (ns : List NodeW) (i : Int) (d : D) => probeV SyTool.probe [] 400 30 45 [nview ns, int i] M0 d
-/
namespace Sy
abbrev rnF (ns : List NodeW) (i k j : Int) : Fr := [some ((@AV.view (ns).length 6 (@ncell ns))), some ((int i)), none, none, some (int j), some (int k), none, none, none, none, none, none, none, none, none, none, none]
abbrev rnE (ns : List NodeW) (i j : Int) : Fr := [some ((@AV.view (ns).length 6 (@ncell ns))), some ((int i)), none, none, some (int j), none, none, none, none, none, none, none, none, none, none, none, none]
end Sy
/-sy rne_r
fun (ns : List NodeW) (i k : Int) (d : D) => reckL [cSib ns] [] 400 30 45 3 [true, true, false, false, true, true, false, false, false, false, false, false, false, false, false, false, false] (rnF ns i k 0) M0 d
-/
def rneN (ns : List NodeW) (i : Int) (k : Nat) : Bool := sibI ns (i - 1 - k) i
theorem Sy.rn_scan (ns : List NodeW) (hl : ns.length ≤ 17592186044416) (i : Int) (h0 : 0 ≤ i) (h1 : i < ns.length) : LoopTo Tryz.prog (theBody Tryz.prog 45 3) (i.toNat + 1) (rnF ns i (i - 1 - 0) 0) M0 fun ex F' M' => M' = M0 ∧ ((0 ≤ idxN (rneN ns i) i.toNat ∧ ex = .ret ∧ F' = rnF ns i (i - 1 - idxN (rneN ns i) i.toNat) (i - 1 - idxN (rneN ns i) i.toNat)) ∨ (idxN (rneN ns i) i.toNat = -1 ∧ ex = .exit 0 ∧ F' = rnF ns i (i - 1 - (i.toNat : Nat)) 0)) :=
  scanN i.toNat (rneN ns i) (fun k => rnF ns i (i - 1 - k) 0) (fun k => rnF ns i (i - 1 - k) (i - 1 - k)) M0 fun m n G q0 q1 c1 c2 c3 => by
    have e : ((m.toNat : Nat) : Int) = m := by omega
    simp only [rneN, e] at c1 c2
    have e2 : i - 1 - (m + 1) = i - 1 - m - 1 := by omega
    simp only [e2] at c1
    generalize hk : i - 1 - m = k at *
    refine roundL [cSib ns] [] 400 30 45 3 Tryz.func45 rfl (by kernel_rfl) [true, true, false, false, true, true, false, false, false, false, false, false, false, false, false, false, false] (.br (.yes (.br .done .done)) .done) (.fork (leI (0 : Int) k) (.need (@isSo (@And ([(@AV.view (ns).length 6 (@ncell ns)), (int k), (int i)] = [(@AV.view (ns).length 6 (@ncell ns)), (int k), (int i)]) (@And ((0 : Int) ≤ k) (@And (k < (((ns).length : Nat) : Int)) (@And ((0 : Int) ≤ i) (i < (((ns).length : Nat) : Int))))))) (.fork (@sibI ns k i) (.leaf (Ex.ret, ([(some (@AV.view (ns).length 6 (@ncell ns))), (some (int i)), none, none, (some (int k)), (some (int k)), none, none, none, none, none, none, none, none, none, none, none], (@Mem.mk 0 0 [])))) (.leaf (Ex.norm, ([(some (@AV.view (ns).length 6 (@ncell ns))), (some (int i)), none, none, (some (int (0 : Int))), (some (int (w64 (k - (1 : Int))))), none, none, none, none, none, none, none, none, none, none, none], (@Mem.mk 0 0 [])))))) (.leaf ((@Ex.exit 0), ([(some (@AV.view (ns).length 6 (@ncell ns))), (some (int i)), none, none, (some (int (0 : Int))), (some (int k)), none, none, none, none, none, none, none, none, none, none, none], (@Mem.mk 0 0 []))))) (by kernel_rfl) ?_
    refine fork_ok (fun h => ?_) (fun h => ?_)
    · simp only [Bool.not_eq_true', Bool.not_eq_false', leI_t, leI_f, eqI_t, eqI_f, inR_t, inR_f, isSo_t, isSo_f] at h
      refine need_so ⟨rfl, by omega, by omega, h0, h1⟩ (fork_ok (fun h2 => c2 (by omega) h2) (fun h2 => ?_))
      rw [w64_in (r := k - 1) (by omega)]
      exact c1 (by omega) h2
    · simp only [Bool.not_eq_true', Bool.not_eq_false', leI_t, leI_f, eqI_t, eqI_f, inR_t, inR_f, isSo_t, isSo_f] at h
      exact c3 (by omega)
namespace Sy
noncomputable abbrev lpRn (ns : List NodeW) (i : Int) : Lp Tryz.prog where
  f := 45
  key := 3
  S := formS (fun F M => slotI F 5) (fun k => rnF ns i k 0) (fun _ => M0) (fun k => (ns.length ≤ 17592186044416 ∧ 0 ≤ i ∧ i < ns.length) ∧ k = i - 1) (fun k => .fork (leI 0 (idxN (rneN ns i) i.toNat)) (.leaf (.ret, rnE ns i (i - 1 - idxN (rneN ns i) i.toNat), M0)) (.leaf (.exit 0, rnE ns i 0, M0))) [true, true, false, false, true, true, false, false, false, false, false, false, false, false, false, false, false]
  one := by kernel_rfl
  ok := formS_ok fun k ⟨h1, h2⟩ => by
    subst h2
    refine ⟨i.toNat + 1, ?_⟩
    have key := (Sy.rn_scan ns h1.1 i h1.2.1 h1.2.2).out [true, true, false, false, true, false, false, false, false, false, false, false, false, false, false, false, false]
    rw [show i - 1 - (0 : Int) = i - 1 by omega] at key
    refine key.mono fun ex F M hg => ?_
    obtain ⟨F0, ⟨hM, hg⟩, rfl⟩ := hg
    rcases hg with ⟨q1, rfl, rfl⟩ | ⟨q1, rfl, rfl⟩
    · exact .inl ⟨by rw [leI_t]; exact q1, by rw [hM]; rfl⟩
    · exact .inr ⟨by rw [leI_f, q1]; omega, by rw [hM]; rfl⟩
end Sy
/-sy rne_t
fun (ns : List NodeW) (i : Int) (d : D) => reckV [] [lpRn ns i] 400 30 45 [nview ns, int i] M0 d
-/
def nearI (ns : List NodeW) (i : Int) : Int := if leI 0 (idxN (rneN ns i) i.toNat) then i - 1 - idxN (rneN ns i) i.toNat else -1
theorem Sy.near_t (ns : List NodeW) (i : Int) (h : ns.length ≤ 17592186044416 ∧ 0 ≤ i ∧ i < ns.length) : CallTo Tryz.prog 45 [nview ns, int i] M0 fun v _ => v = int (nearI ns i) :=
  toV [] [lpRn ns i] 400 30 (.br .done .done) (.need (@isSo (@And (((some (@AV.view (ns).length 6 (@ncell ns))) :: (some (int i)) :: [none, none, (some (int (0 : Int))), (some (int (w64 (i - (1 : Int))))), none, none, none, none, none, none, none, none, none, none, none]) = [(some (@AV.view (ns).length 6 (@ncell ns))), (some (int i)), none, none, (some (int (0 : Int))), (some (int (w64 (i - (1 : Int))))), none, none, none, none, none, none, none, none, none, none, none]) ((@Mem.mk 0 0 []) = M0))) (.need (@isSo (@And (@And ((ns).length ≤ 17592186044416) (@And ((0 : Int) ≤ i) (i < (((ns).length : Nat) : Int)))) ((w64 (i - (1 : Int))) = (i - (1 : Int))))) (.fork (leI (0 : Int) (@idxN (@rneN ns i) (i).toNat)) (.leaf (int ((i - (1 : Int)) - (@idxN (@rneN ns i) (i).toNat)))) (.leaf (int (-1 : Int)))))) (by kernel_rfl) (by
    rw [w64_in (r := i - 1) (by omega)]
    unfold nearI
    refine need_so ⟨rfl, rfl⟩ (need_so ⟨h, rfl⟩ (fork_ok (fun h1 => ?_) (fun h1 => ?_)))
    · rw [h1]; exact rfl
    · rw [h1]; exact rfl)
noncomputable abbrev Sy.cNear (ns : List NodeW) (i : Int) : Con Tryz.prog := at1 45 [nview ns, int i] (int (nearI ns i)) (ns.length ≤ 17592186044416 ∧ 0 ≤ i ∧ i < ns.length) fun h => ⟨⟨nview_frees ns i, trivial⟩, near_t ns i h⟩
/-sy run_p
fun (ns : List NodeW) (i j : Int) (d : D) => probeV SyTool.probe [cRup ns] 400 30 43 [nview ns, int i, int j] M0 d
-/
namespace Sy
abbrev ruF (ns : List NodeW) (i j k : Int) (b : Bool) : Fr := [some ((@AV.view (ns).length 6 (@ncell ns))), some ((int i)), some ((int j)), none, none, none, some (boo b), some (int k), none, none, none, none, none, none, none, none, none, none, none]
abbrev ruE (ns : List NodeW) (i j : Int) (b : Bool) : Fr := [some ((@AV.view (ns).length 6 (@ncell ns))), some ((int i)), some ((int j)), none, none, none, some (boo b), none, none, none, none, none, none, none, none, none, none, none, none]
end Sy
/-sy run_r
fun (ns : List NodeW) (i j k : Int) (d : D) => reckL [cRup ns] [] 400 30 43 3 [true, true, true, false, false, false, true, true, false, false, false, false, false, false, false, false, false, false, false] (ruF ns i j k false) M0 d
-/
def onB (j : Int) (x : Nat) : Bool := eqI x j
theorem Sy.ru_loop (ns : List NodeW) (i j : Int) : ∀ (f : Nat) (k : Int), -1 ≤ k → k < ns.length → k < f → LoopTo Tryz.prog (theBody Tryz.prog 43 3) (f + 1) (ruF ns i j k false) M0 fun ex F' M' => M' = M0 ∧ (((from_ (parN ns) k).any (onB j) = true ∧ ex = .ret ∧ ∃ k', F' = ruF ns i j k' true) ∨ ((from_ (parN ns) k).any (onB j) = false ∧ ex = .exit 0 ∧ ∃ k', F' = ruF ns i j k' false)) := by
  intro f
  induction f with
  | zero =>
    intro k h0 h1 h2
    refine roundL [cRup ns] [] 400 30 43 3 Tryz.func43 rfl (by kernel_rfl) [true, true, true, false, false, false, true, true, false, false, false, false, false, false, false, false, false, false, false] (.br (.br .done (.yes .done)) .done) (.fork (leI (0 : Int) k) (.fork (eqI k j) (.leaf (Ex.ret, ([(some (@AV.view (ns).length 6 (@ncell ns))), (some (int i)), (some (int j)), none, none, none, (some (boo true)), (some (int k)), none, none, none, none, none, none, none, none, none, none, none], (@Mem.mk 0 0 [])))) (.need (@isSo (@And ([(@AV.view (ns).length 6 (@ncell ns)), (int k)] = [(@AV.view (ns).length 6 (@ncell ns)), (int k)]) (@And ((0 : Int) ≤ k) (k < (((ns).length : Nat) : Int))))) (.leaf (Ex.norm, ([(some (@AV.view (ns).length 6 (@ncell ns))), (some (int i)), (some (int j)), none, none, none, (some (boo false)), (some (int (@Pl.up (@parN ns) (k).toNat))), none, none, none, none, none, none, none, none, none, none, none], (@Mem.mk 0 0 [])))))) (.leaf ((@Ex.exit 0), ([(some (@AV.view (ns).length 6 (@ncell ns))), (some (int i)), (some (int j)), none, none, none, (some (boo false)), (some (int k)), none, none, none, none, none, none, none, none, none, none, none], (@Mem.mk 0 0 []))))) (by kernel_rfl) ?_
    refine fork_ok (fun h => ?_) (fun h => ?_)
    · simp only [Bool.not_eq_true', Bool.not_eq_false', leI_t, leI_f, eqI_t, eqI_f, inR_t, inR_f, isSo_t, isSo_f] at h
      omega
    · exact ⟨rfl, .inr ⟨by rw [from_none _ (by omega)]; rfl, rfl, _, rfl⟩⟩
  | succ f ih =>
    intro k h0 h1 h2
    refine roundL [cRup ns] [] 400 30 43 3 Tryz.func43 rfl (by kernel_rfl) [true, true, true, false, false, false, true, true, false, false, false, false, false, false, false, false, false, false, false] (.br (.br .done (.yes .done)) .done) (.fork (leI (0 : Int) k) (.fork (eqI k j) (.leaf (Ex.ret, ([(some (@AV.view (ns).length 6 (@ncell ns))), (some (int i)), (some (int j)), none, none, none, (some (boo true)), (some (int k)), none, none, none, none, none, none, none, none, none, none, none], (@Mem.mk 0 0 [])))) (.need (@isSo (@And ([(@AV.view (ns).length 6 (@ncell ns)), (int k)] = [(@AV.view (ns).length 6 (@ncell ns)), (int k)]) (@And ((0 : Int) ≤ k) (k < (((ns).length : Nat) : Int))))) (.leaf (Ex.norm, ([(some (@AV.view (ns).length 6 (@ncell ns))), (some (int i)), (some (int j)), none, none, none, (some (boo false)), (some (int (@Pl.up (@parN ns) (k).toNat))), none, none, none, none, none, none, none, none, none, none, none], (@Mem.mk 0 0 [])))))) (.leaf ((@Ex.exit 0), ([(some (@AV.view (ns).length 6 (@ncell ns))), (some (int i)), (some (int j)), none, none, none, (some (boo false)), (some (int k)), none, none, none, none, none, none, none, none, none, none, none], (@Mem.mk 0 0 []))))) (by kernel_rfl) ?_
    refine fork_ok (fun h => fork_ok (fun h3 => ?_) (fun h3 => need_so ⟨rfl, ?_, h1⟩ ?_)) (fun h => ?_)
    · simp only [Bool.not_eq_true', Bool.not_eq_false', leI_t, leI_f, eqI_t, eqI_f, inR_t, inR_f, isSo_t, isSo_f] at h
      obtain ⟨κ, rfl⟩ := Int.eq_ofNat_of_zero_le h
      refine ⟨rfl, .inl ⟨?_, rfl, _, rfl⟩⟩
      rw [from_nat, List.any_cons]
      unfold onB
      rw [h3, Bool.true_or]
    · simp only [Bool.not_eq_true', Bool.not_eq_false', leI_t, leI_f, eqI_t, eqI_f, inR_t, inR_f, isSo_t, isSo_f] at h
      exact h
    · simp only [Bool.not_eq_true', Bool.not_eq_false', leI_t, leI_f, eqI_t, eqI_f, inR_t, inR_f, isSo_t, isSo_f] at h
      obtain ⟨κ, rfl⟩ := Int.eq_ofNat_of_zero_le h
      have u1 := up_ge (parN ns) κ
      have u2 := up_lt (parN ns) κ
      have := ih (up (parN ns) κ) u1 (by omega) (by omega)
      rw [← ups_from] at this
      rw [from_nat, List.any_cons, show onB j κ = false from h3, Bool.false_or]
      exact this
    · simp only [Bool.not_eq_true', Bool.not_eq_false', leI_t, leI_f, eqI_t, eqI_f, inR_t, inR_f, isSo_t, isSo_f] at h
      refine ⟨rfl, .inr ⟨?_, rfl, _, rfl⟩⟩
      rw [from_none _ (by omega)]
      rfl
def underB (ns : List NodeW) (i j : Int) : Bool := (ups (parN ns) i.toNat).any (onB j)
namespace Sy
noncomputable abbrev lpRu (ns : List NodeW) (i j : Int) : Lp Tryz.prog where
  f := 43
  key := 3
  S := formS (fun F M => slotI F 7) (fun k => ruF ns i j k false) (fun _ => M0) (fun k => (0 ≤ i ∧ i < ns.length) ∧ k = up (parN ns) i.toNat) (fun k => .fork (underB ns i j) (.leaf (.ret, ruE ns i j true, M0)) (.leaf (.exit 0, ruE ns i j false, M0))) [true, true, true, false, false, false, true, true, false, false, false, false, false, false, false, false, false, false, false]
  one := by kernel_rfl
  ok := formS_ok fun k ⟨h1, h2⟩ => by
    subst h2
    refine ⟨ns.length + 1, ?_⟩
    have u1 := up_ge (parN ns) i.toNat
    have u2 := up_lt (parN ns) i.toNat
    refine ((Sy.ru_loop ns i j ns.length _ u1 (by omega) (by omega)).out [true, true, true, false, false, false, true, false, false, false, false, false, false, false, false, false, false, false, false]).mono fun ex F M hg => ?_
    rw [← ups_from] at hg
    obtain ⟨F0, ⟨hM, hg⟩, rfl⟩ := hg
    rcases hg with ⟨q1, rfl, _, rfl⟩ | ⟨q1, rfl, _, rfl⟩
    · exact .inl ⟨q1, by rw [hM]; rfl⟩
    · exact .inr ⟨q1, by rw [hM]; rfl⟩
end Sy
/-sy run_t
fun (ns : List NodeW) (i j : Int) (d : D) => reckV [cRup ns] [lpRu ns i j] 400 30 43 [nview ns, int i, int j] M0 d
-/
theorem Sy.under_t (ns : List NodeW) (i j : Int) (h : 0 ≤ i ∧ i < ns.length) : CallTo Tryz.prog 43 [nview ns, int i, int j] M0 fun v _ => v = boo (underB ns i j) :=
  toV [cRup ns] [lpRu ns i j] 400 30 (.yes (.br .done .done)) (.need (@isSo (@And ([(@AV.view (ns).length 6 (@ncell ns)), (int i)] = [(@AV.view (ns).length 6 (@ncell ns)), (int i)]) (@And ((0 : Int) ≤ i) (i < (((ns).length : Nat) : Int))))) (.need (@isSo (@And (((some (@AV.view (ns).length 6 (@ncell ns))) :: (some (int i)) :: (some (int j)) :: [none, none, none, (some (boo false)), (some (int (@Pl.up (@parN ns) (i).toNat))), none, none, none, none, none, none, none, none, none, none, none]) = [(some (@AV.view (ns).length 6 (@ncell ns))), (some (int i)), (some (int j)), none, none, none, (some (boo false)), (some (int (@Pl.up (@parN ns) (i).toNat))), none, none, none, none, none, none, none, none, none, none, none]) ((@Mem.mk 0 0 []) = M0))) (.need (@isSo (@And (@And ((0 : Int) ≤ i) (i < (((ns).length : Nat) : Int))) ((@Pl.up (@parN ns) (i).toNat) = (@Pl.up (@parN ns) (i).toNat)))) (.fork (@underB ns i j) (.leaf (boo true)) (.leaf (boo false)))))) (by kernel_rfl) (by
    refine need_so ⟨rfl, h⟩ (need_so ⟨rfl, rfl⟩ (need_so ⟨h, rfl⟩ (fork_ok (fun h1 => ?_) (fun h1 => ?_))))
    · rw [h1]; exact rfl
    · rw [h1]; exact rfl)
noncomputable abbrev Sy.cUnder (ns : List NodeW) (i j : Int) : Con Tryz.prog := at1 43 [nview ns, int i, int j] (boo (underB ns i j)) (0 ≤ i ∧ i < ns.length) fun h => ⟨⟨⟨nview_free ns, trivial, trivial, trivial⟩, trivial⟩, under_t ns i j h⟩
/-! ### Seen -/
/-sy seen_t
fun (ns : List NodeW) (i c k : Int) (d : D) => reckV [cUnder ns i k, cRup ns, cNear ns i, cSib ns] [] 400 30 27 [nview ns, int i, int c, int k] M0 d
-/
def seenB (ns : List NodeW) (i c k : Int) : Bool := if c = 1 then underB ns i k else if c = 2 then eqI (up (parN ns) i.toNat) k else if c = 3 then eqI (nearI ns i) k else if c = 4 then sibI ns k i else false
theorem Sy.seen_t (ns : List NodeW) (i c k : Int) (hl : ns.length ≤ 17592186044416) (h : 0 ≤ i ∧ i < ns.length) (hk : 0 ≤ k ∧ k < ns.length) : CallTo Tryz.prog 27 [nview ns, int i, int c, int k] M0 fun v _ => v = boo (seenB ns i c k) :=
  toV [cUnder ns i k, cRup ns, cNear ns i, cSib ns] [] 400 30 (.br (.yes .done) (.br (.yes .done) (.br (.yes .done) (.br (.yes .done) .done)))) (.fork (eqI c (1 : Int)) (.need (@isSo (@And ([(@AV.view (ns).length 6 (@ncell ns)), (int i), (int k)] = [(@AV.view (ns).length 6 (@ncell ns)), (int i), (int k)]) (@And ((0 : Int) ≤ i) (i < (((ns).length : Nat) : Int))))) (.leaf (boo (@underB ns i k)))) (.fork (eqI c (2 : Int)) (.need (@isSo (@And ([(@AV.view (ns).length 6 (@ncell ns)), (int i)] = [(@AV.view (ns).length 6 (@ncell ns)), (int i)]) (@And ((0 : Int) ≤ i) (i < (((ns).length : Nat) : Int))))) (.leaf (boo (eqI (@Pl.up (@parN ns) (i).toNat) k)))) (.fork (eqI c (3 : Int)) (.need (@isSo (@And ([(@AV.view (ns).length 6 (@ncell ns)), (int i)] = [(@AV.view (ns).length 6 (@ncell ns)), (int i)]) (@And ((ns).length ≤ 17592186044416) (@And ((0 : Int) ≤ i) (i < (((ns).length : Nat) : Int)))))) (.leaf (boo (eqI (@nearI ns i) k)))) (.fork (eqI c (4 : Int)) (.need (@isSo (@And ([(@AV.view (ns).length 6 (@ncell ns)), (int k), (int i)] = [(@AV.view (ns).length 6 (@ncell ns)), (int k), (int i)]) (@And ((0 : Int) ≤ k) (@And (k < (((ns).length : Nat) : Int)) (@And ((0 : Int) ≤ i) (i < (((ns).length : Nat) : Int))))))) (.leaf (boo (@sibI ns k i)))) (.leaf (boo false)))))) (by kernel_rfl) (by
    unfold seenB
    refine fork_ok (fun h1 => need_so ⟨rfl, h⟩ ?_) (fun h1 => fork_ok (fun h2 => need_so ⟨rfl, h⟩ ?_) (fun h2 => fork_ok (fun h3 => need_so ⟨rfl, hl, h⟩ ?_) (fun h3 => fork_ok (fun h4 => need_so ⟨rfl, hk.1, hk.2, h⟩ ?_) (fun h4 => ?_))))
    all_goals refine leaf_boo ?_
    all_goals (simp only [eqI_t, eqI_f] at h1)
    all_goals (try simp only [eqI_t, eqI_f] at h2)
    all_goals (try simp only [eqI_t, eqI_f] at h3)
    all_goals (try simp only [eqI_t, eqI_f] at h4)
    · rw [if_pos h1]
    · rw [if_neg h1, if_pos h2]
    · rw [if_neg h1, if_neg h2, if_pos h3]
    · rw [if_neg h1, if_neg h2, if_neg h3, if_pos h4]
    · rw [if_neg h1, if_neg h2, if_neg h3, if_neg h4])
end Go.Proofs.YtmlhipckgmbpfaaGreat
