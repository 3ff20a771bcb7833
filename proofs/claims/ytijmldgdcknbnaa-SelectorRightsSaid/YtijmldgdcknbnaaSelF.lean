/-
  Layer 7: may a selector be? Both say the same.
-/
import Derived.Test.YtijmldgdcknbnaaSelD
import Derived.Test.YtijmldgdcknbnaaSelE
namespace Go.Proofs.Ytijmldgdcknbnaa
open Go Go.RowKit Pl Sy
set_option linter.unusedVariables false
set_option linter.unusedSimpArgs false
namespace Sy
abbrev rrF (k : Int) : Fr := [none, some ((@AV.ptr 0 0)), some ((boo false)), some (int k), none, none, none, none, none, none, none, none, none, none, none, none, none, none, none, none, none, none, none, none, none, none, none, none, none, none, none, none, none, none, none, none, none, none, none, none, none, none, none, none, none, none, none, none, none, none, none, none, none, none, none, none, none, none]
end Sy
/-sy rr_r
fun (xs : List PartV) (k : Int) (d : D) => reckL [cRPart (xs.getD k.toNat partNone)] [] 400 30 14 5 [false, true, true, true, false, false, false, false, false, false, false, false, false, false, false, false, false, false, false, false, false, false, false, false, false, false, false, false, false, false, false, false, false, false, false, false, false, false, false, false, false, false, false, false, false, false, false, false, false, false, false, false, false, false, false, false, false, false] (rrF k) (riM xs) d
-/
/-- may a part not be, or what stands ahead of it? -/
def rbad (xs : List PartV) (k : Nat) : Bool := !rpartB (xs.getD k partNone) || (!leI k 0 && (!leI 1 (xs.getD k partNone).comb || !leI (xs.getD k partNone).comb 4))
theorem Sy.rr_scan (xs : List PartV) (hx : PartsOk xs) : LoopTo Try.prog (theBody Try.prog 14 5) (xs.length + 1) (rrF 0) (riM xs) fun ex F' M' => M' = riM xs ∧ ((0 ≤ idxN (rbad xs) xs.length ∧ ex = .ret ∧ F' = rrF (idxN (rbad xs) xs.length)) ∨ (idxN (rbad xs) xs.length = -1 ∧ ex = .exit 0 ∧ F' = rrF xs.length)) :=
  scanN xs.length (rbad xs) (fun k => rrF k) (fun k => rrF k) (riM xs) fun k n G h0 h1 c1 c2 c3 => by
    refine roundL [cRPart (xs.getD k.toNat partNone)] [] 400 30 14 5 Try.func14 rfl (by kernel_rfl) [false, true, true, true, false, false, false, false, false, false, false, false, false, false, false, false, false, false, false, false, false, false, false, false, false, false, false, false, false, false, false, false, false, false, false, false, false, false, false, false, false, false, false, false, false, false, false, false, false, false, false, false, false, false, false, false, false, false] (.br (.yes (.yes (.br (.auto 1 (.br (.auto 2 (.yes (.auto 3 (.br (.auto 2 (.yes (.auto 7 (.br .done .done)))) (.auto 11 .done))))) (.auto 18 .done))) (.auto 20 .done)))) .done) (.fork (!(leI (((xs).length : Nat) : Int) k)) (.need (@inR k (xs).length) (.need (@isSo (@And ([(@AV.agg [(@pcell xs (k).toNat 0), (@pcell xs (k).toNat 1), (@pcell xs (k).toNat 2), (@pcell xs (k).toNat 3), (@pcell xs (k).toNat 4), (@pcell xs (k).toNat 5)])] = [(@AV.agg [(int ((xs.getD (k).toNat partNone)).comb), (@AV.lit (@Value.string ((xs.getD (k).toNat partNone)).tag)), (@AV.lit (@Value.string ((xs.getD (k).toNat partNone)).id)), (@AV.view (((xs.getD (k).toNat partNone)).cls).length 1 (fun x980347 => (fun x494447 => (@AV.lit ([(@Value.string (((xs.getD (k).toNat partNone)).cls.getD x980347 (@ByteArray.mk (@Array.mk _ []))))].getD x494447 (@Value.tuple (@Array.mk _ []))))))), (@AV.view (((xs.getD (k).toNat partNone)).tests).length 3 (fun x857934 => (fun x436698 => (@AV.lit ([(@Value.string ((((xs.getD (k).toNat partNone)).tests.getD x857934 testNone)).name), (@Value.bool ((((xs.getD (k).toNat partNone)).tests.getD x857934 testNone)).equal), (@Value.string ((((xs.getD (k).toNat partNone)).tests.getD x857934 testNone)).value)].getD x436698 (@Value.tuple (@Array.mk _ []))))))), (int ((xs.getD (k).toNat partNone)).states)])]) (@And ((@ByteArray.size ((xs.getD (k).toNat partNone)).tag) ≤ 9223372036854775807) (@And ((@ByteArray.size ((xs.getD (k).toNat partNone)).id) ≤ 9223372036854775807) (@And (@And ((((xs.getD (k).toNat partNone)).cls).length ≤ 17592186044416) (∀ (s : ByteArray), s ∈ (xs.getD k.toNat partNone).cls → s.size ≤ maxLen)) (@And ((((xs.getD (k).toNat partNone)).tests).length ≤ 17592186044416) (∀ (t : TestV), t ∈ (xs.getD k.toNat partNone).tests → t.Ok))))))) (.fork (!(!(@rpartB (xs.getD (k).toNat partNone)))) (.fork (!(leI k (0 : Int))) (.need (@inR k (xs).length) (.fork (!(!(leI (1 : Int) ((xs.getD (k).toNat partNone)).comb))) (.need (@inR k (xs).length) (.fork (!(leI ((xs.getD (k).toNat partNone)).comb (4 : Int))) (.leaf (Ex.ret, ([none, (some (@AV.ptr 0 0)), (some (boo false)), (some (int k)), none, none, none, none, none, none, none, none, none, none, none, none, none, none, none, none, none, none, none, none, none, none, none, none, none, none, none, none, none, none, none, none, none, none, none, none, none, none, none, none, none, none, none, none, none, none, none, none, none, none, none, none, none, none], (@Mem.mk 1 0 [(some (@Blk.mk [(@AV.view (xs).length 6 (@pcell xs))] 25 none))])))) (.leaf (Ex.norm, ([none, (some (@AV.ptr 0 0)), (some (boo false)), (some (int (w64 (k + (1 : Int))))), none, none, none, none, none, none, none, none, none, none, none, none, none, none, none, none, none, none, none, none, none, none, none, none, none, none, none, none, none, none, none, none, none, none, none, none, none, none, none, none, none, none, none, none, none, none, none, none, none, none, none, none, none, none], (@Mem.mk 1 0 [(some (@Blk.mk [(@AV.view (xs).length 6 (@pcell xs))] 25 none))])))))) (.leaf (Ex.ret, ([none, (some (@AV.ptr 0 0)), (some (boo false)), (some (int k)), none, none, none, none, none, none, none, none, none, none, none, none, none, none, none, none, none, none, none, none, none, none, none, none, none, none, none, none, none, none, none, none, none, none, none, none, none, none, none, none, none, none, none, none, none, none, none, none, none, none, none, none, none, none], (@Mem.mk 1 0 [(some (@Blk.mk [(@AV.view (xs).length 6 (@pcell xs))] 25 none))])))))) (.leaf (Ex.norm, ([none, (some (@AV.ptr 0 0)), (some (boo false)), (some (int (w64 (k + (1 : Int))))), none, none, none, none, none, none, none, none, none, none, none, none, none, none, none, none, none, none, none, none, none, none, none, none, none, none, none, none, none, none, none, none, none, none, none, none, none, none, none, none, none, none, none, none, none, none, none, none, none, none, none, none, none, none], (@Mem.mk 1 0 [(some (@Blk.mk [(@AV.view (xs).length 6 (@pcell xs))] 25 none))]))))) (.leaf (Ex.ret, ([none, (some (@AV.ptr 0 0)), (some (boo false)), (some (int k)), none, none, none, none, none, none, none, none, none, none, none, none, none, none, none, none, none, none, none, none, none, none, none, none, none, none, none, none, none, none, none, none, none, none, none, none, none, none, none, none, none, none, none, none, none, none, none, none, none, none, none, none, none, none], (@Mem.mk 1 0 [(some (@Blk.mk [(@AV.view (xs).length 6 (@pcell xs))] 25 none))]))))))) (.leaf ((@Ex.exit 0), ([none, (some (@AV.ptr 0 0)), (some (boo false)), (some (int k)), none, none, none, none, none, none, none, none, none, none, none, none, none, none, none, none, none, none, none, none, none, none, none, none, none, none, none, none, none, none, none, none, none, none, none, none, none, none, none, none, none, none, none, none, none, none, none, none, none, none, none, none, none, none], (@Mem.mk 1 0 [(some (@Blk.mk [(@AV.view (xs).length 6 (@pcell xs))] 25 none))]))))) (by kernel_rfl) ?_
    have hl := hx.1
    refine fork_ok (fun h => ?_) (fun h => ?_)
    · simp only [Bool.not_eq_true', Bool.not_eq_false', leI_t, leI_f, eqI_t, eqI_f, inR_t, inR_f, isSo_t, isSo_f] at h
      have hr : inR k xs.length = true := by rw [inR_t]; omega
      have w1 : w64 (k + 1) = k + 1 := w64_in (by omega)
      have ek : ((k.toNat : Nat) : Int) = k := by omega
      have e0 : rbad xs k.toNat = (!rpartB (xs.getD k.toNat partNone) || (!leI k 0 && (!leI 1 (xs.getD k.toNat partNone).comb || !leI (xs.getD k.toNat partNone).comb 4))) := by unfold rbad; rw [ek]
      rw [w1]
      have ret : rbad xs k.toNat = true → G .ret (rrF k) (riM xs) := c2 (by omega)
      have go : rbad xs k.toNat = false → LoopTo Try.prog (theBody Try.prog 14 5) n (rrF (k + 1)) (riM xs) G := c1 (by omega)
      rw [e0] at ret go
      refine need_t hr (need_so ⟨rfl, hx.2 _ (getD_mem xs k _ h0 (by omega))⟩ (fork_ok (fun q0 => fork_ok (fun q1 => need_t hr (fork_ok (fun q2 => need_t hr (fork_ok (fun q3 => ret ?_) (fun q3 => go ?_))) (fun q2 => ret ?_))) (fun q1 => go ?_)) (fun q0 => ret ?_)))
      all_goals simp only [Bool.not_eq_true', Bool.not_eq_false', Bool.not_not] at *
      all_goals simp only [*, Bool.not_true, Bool.not_false, Bool.true_and, Bool.false_and, Bool.and_false, Bool.and_true, Bool.or_true, Bool.true_or, Bool.or_false, Bool.false_or]
    · simp only [Bool.not_eq_true', Bool.not_eq_false', leI_t, leI_f, eqI_t, eqI_f, inR_t, inR_f, isSo_t, isSo_f] at h
      exact c3 (by omega)
namespace Sy
noncomputable abbrev lpRr (xs : List PartV) : Lp Try.prog where
  f := 14
  key := 5
  S := formS (fun F M => slotI F 3) (fun k => rrF k) (fun _ => riM xs) (fun k => PartsOk xs ∧ k = 0) (fun k => .fork (anyN (rbad xs) xs.length) (.leaf (.ret, [none, some ((@AV.ptr 0 0)), some ((boo false)), none, none, none, none, none, none, none, none, none, none, none, none, none, none, none, none, none, none, none, none, none, none, none, none, none, none, none, none, none, none, none, none, none, none, none, none, none, none, none, none, none, none, none, none, none, none, none, none, none, none, none, none, none, none, none], riM xs)) (.leaf (.exit 0, [none, some ((@AV.ptr 0 0)), some ((boo false)), none, none, none, none, none, none, none, none, none, none, none, none, none, none, none, none, none, none, none, none, none, none, none, none, none, none, none, none, none, none, none, none, none, none, none, none, none, none, none, none, none, none, none, none, none, none, none, none, none, none, none, none, none, none, none], riM xs))) [false, true, true, true, false, false, false, false, false, false, false, false, false, false, false, false, false, false, false, false, false, false, false, false, false, false, false, false, false, false, false, false, false, false, false, false, false, false, false, false, false, false, false, false, false, false, false, false, false, false, false, false, false, false, false, false, false, false]
  one := by kernel_rfl
  ok := formS_ok fun k ⟨h1, h2⟩ => by
    subst h2
    refine ⟨xs.length + 1, ?_⟩
    refine ((Sy.rr_scan xs h1).out [false, true, true, false, false, false, false, false, false, false, false, false, false, false, false, false, false, false, false, false, false, false, false, false, false, false, false, false, false, false, false, false, false, false, false, false, false, false, false, false, false, false, false, false, false, false, false, false, false, false, false, false, false, false, false, false, false, false]).mono fun ex F M hg => ?_
    obtain ⟨F0, ⟨hM, hg⟩, rfl⟩ := hg
    rcases hg with ⟨q1, rfl, rfl⟩ | ⟨q1, rfl, rfl⟩
    · exact .inl ⟨by rw [← anyN_idx, leI_t]; exact q1, by rw [hM]; rfl⟩
    · exact .inr ⟨by rw [← anyN_idx, leI_f, q1]; omega, by rw [hM]; rfl⟩
end Sy
/-sy rright_t
fun (xs : List PartV) (d : D) => reckV [] [lpRr xs] 400 30 14 [.agg [pview xs]] M0 d
-/
/-- may a selector be? -/
def rrightB (xs : List PartV) : Bool := !eqI xs.length 0 && (leI xs.length 8 && (eqI (xs.getD 0 partNone).comb 0 && !anyN (rbad xs) xs.length))
theorem Sy.rright_t (xs : List PartV) (h : PartsOk xs) : CallTo Try.prog 14 [.agg [pview xs]] M0 fun v _ => v = boo (rrightB xs) :=
  toV [] [lpRr xs] 400 30 (.br (.auto 3 (.br (.auto 1 (.yes (.auto 3 (.br .done (.br .done .done))))) (.auto 6 .done))) (.auto 11 .done)) (.fork (!(eqI (((xs).length : Nat) : Int) (0 : Int))) (.fork (!(!(leI (((xs).length : Nat) : Int) (8 : Int)))) (.need (@inR (0 : Int) (xs).length) (.fork (!(eqI ((xs.getD 0 partNone)).comb (0 : Int))) (.leaf (boo false)) (.need (@isSo (@And ((none :: [(some (@AV.ptr 0 0)), (some (boo false)), (some (int (0 : Int))), none, none, none, none, none, none, none, none, none, none, none, none, none, none, none, none, none, none, none, none, none, none, none, none, none, none, none, none, none, none, none, none, none, none, none, none, none, none, none, none, none, none, none, none, none, none, none, none, none, none, none, none, none, none]) = [none, (some (@AV.ptr 0 0)), (some (boo false)), (some (int (0 : Int))), none, none, none, none, none, none, none, none, none, none, none, none, none, none, none, none, none, none, none, none, none, none, none, none, none, none, none, none, none, none, none, none, none, none, none, none, none, none, none, none, none, none, none, none, none, none, none, none, none, none, none, none, none, none]) ((@Mem.mk 1 0 [(some (@Blk.mk [(@AV.view (xs).length 6 (@pcell xs))] 25 none))]) = (@Mem.mk 1 0 [(some (@Blk.mk [(@AV.view (xs).length 6 (@pcell xs))] 25 none))])))) (.need (@isSo (@And (@And ((xs).length ≤ 17592186044416) (∀ (p : PartV), p ∈ xs → PartOk p)) ((0 : Int) = (0 : Int)))) (.fork (@anyN (@rbad xs) (xs).length) (.leaf (boo false)) (.leaf (boo true))))))) (.leaf (boo false))) (.leaf (boo false))) (by kernel_rfl) (by
    unfold rrightB
    refine fork_ok (fun q0 => fork_ok (fun q1 => need_t ?_ (fork_ok (fun q2 => leaf_boo ?_) (fun q2 => need_so ⟨rfl, rfl⟩ (need_so ⟨h, rfl⟩ (fork_ok (fun q3 => leaf_boo ?_) (fun q3 => leaf_boo ?_)))))) (fun q1 => leaf_boo ?_)) (fun q0 => leaf_boo ?_)
    · simp only [Bool.not_eq_true'] at q0
      rw [eqI_f] at q0
      rw [inR_t]; omega
    all_goals (simp only [Bool.not_eq_true', Bool.not_eq_false', Bool.not_not] at *)
    all_goals simp only [*, Bool.not_true, Bool.not_false, Bool.true_and, Bool.false_and, Bool.and_false, Bool.and_true, Bool.or_true, Bool.true_or, Bool.or_false, Bool.false_or])
noncomputable abbrev Sy.cRightR (xs : List PartV) : Con Try.prog := at1 14 [.agg [pview xs]] (boo (rrightB xs)) (PartsOk xs) fun h => ⟨⟨⟨⟨pview_free xs, trivial⟩, trivial⟩, trivial⟩, rright_t xs h⟩
theorem oddB_eq (t : TestV) : oddB t = !rtestB t := by
  unfold oddB rtestB
  cases nameL t.name.data.toList <;> cases textL t.value.data.toList <;> cases t.equal <;> cases bytesEq t.value.data.toList [] <;> rfl
theorem anyS_eq (xs : List ByteArray) : anyS lacksB xs = !allS nameB xs := by
  unfold anyS allS
  rw [List.not_all_eq_any_not]
  rfl
theorem anyT_eq (xs : List TestV) : anyT oddB xs = !allT rtestB xs := by
  unfold anyT allT
  rw [List.not_all_eq_any_not]
  congr 1
  funext t
  exact oddB_eq t
theorem wrongB_eq (p : PartV) : wrongB p = !rpartB p := by
  unfold wrongB rpartB
  rw [anyS_eq, anyT_eq]
  have e1 : lacksB p.tag = !nameB p.tag := rfl
  have e2 : lacksB p.id = !nameB p.id := rfl
  rw [e1, e2]
  simp only [Bool.not_and, Bool.not_or]
theorem anyP_iff (g : PartV → Bool) (xs : List PartV) : anyP g xs = true ↔ ∃ k, k < xs.length ∧ g (xs.getD k partNone) = true := by
  unfold anyP
  rw [List.any_eq_true]
  constructor
  · rintro ⟨x, hx, hg⟩
    obtain ⟨i, hi, rfl⟩ := List.mem_iff_getElem.1 hx
    exact ⟨i, hi, by rw [List.getD_eq_getElem?_getD, List.getElem?_eq_getElem hi]; exact hg⟩
  · rintro ⟨k, hk, hg⟩
    rw [List.getD_eq_getElem?_getD, List.getElem?_eq_getElem hk] at hg
    exact ⟨_, List.getElem_mem hk, hg⟩
theorem anyN_iff (g : Nat → Bool) (n : Nat) : anyN g n = true ↔ ∃ k, k < n ∧ g k = true := by
  unfold anyN
  rw [List.any_eq_true]
  simp
theorem anyN_no (g : Nat → Bool) (n : Nat) : anyN g n = false ↔ ∀ k, k < n → g k = false := by
  rw [← Bool.not_eq_true, anyN_iff]
  constructor
  · intro h k hk
    cases hg : g k with
    | false => rfl
    | true => exact absurd ⟨k, hk, hg⟩ h
  · rintro h ⟨k, hk, hg⟩
    rw [h k hk] at hg; cases hg
theorem anyP_no (g : PartV → Bool) (xs : List PartV) : anyP g xs = false ↔ ∀ k, k < xs.length → g (xs.getD k partNone) = false := by
  rw [← Bool.not_eq_true, anyP_iff]
  constructor
  · intro h k hk
    cases hg : g (xs.getD k partNone) with
    | false => rfl
    | true => exact absurd ⟨k, hk, hg⟩ h
  · rintro h ⟨k, hk, hg⟩
    rw [h k hk] at hg; cases hg
theorem right_eq (xs : List PartV) : rightB xs = rrightB xs := by
  unfold rightB rrightB
  cases h0 : eqI xs.length 0 with
  | true => rfl
  | false =>
    rw [eqI_f] at h0
    congr 2
    rw [Bool.eq_iff_iff]
    simp only [Bool.and_eq_true, Bool.not_eq_true', anyP_no, anyN_no]
    constructor
    · rintro ⟨h1, h2⟩
      have h20 := h2 0 (by omega)
      unfold combs combB at h20
      simp only [if_true, Bool.not_eq_false'] at h20
      refine ⟨h20, fun k hk => ?_⟩
      have h1k := h1 k hk
      have h2k := h2 k hk
      unfold rbad
      rw [wrongB_eq] at h1k
      rw [h1k, Bool.false_or]
      by_cases k0 : k = 0
      · subst k0
        have : leI ((0 : Nat) : Int) 0 = true := by rw [leI_t]; omega
        rw [this]; rfl
      · unfold combs combB at h2k
        rw [if_neg k0] at h2k
        rw [h2k, Bool.and_false]
    · rintro ⟨h1, h2⟩
      refine ⟨fun k hk => ?_, fun k hk => ?_⟩
      · have := h2 k hk
        unfold rbad at this
        rw [Bool.or_eq_false_iff] at this
        rw [wrongB_eq]; exact this.1
      · have := h2 k hk
        unfold rbad at this
        rw [Bool.or_eq_false_iff] at this
        unfold combs combB
        by_cases k0 : k = 0
        · subst k0
          rw [if_pos rfl, h1]; rfl
        · rw [if_neg k0]
          have q := this.2
          have : leI (k : Int) 0 = false := by rw [leI_f]; omega
          rw [this, Bool.not_false, Bool.true_and] at q
          exact q
end Go.Proofs.Ytijmldgdcknbnaa
