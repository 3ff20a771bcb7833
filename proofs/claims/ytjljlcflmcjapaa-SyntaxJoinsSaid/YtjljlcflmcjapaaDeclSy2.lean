/-
  Layer 6: the program's 'first': the first place at the top with such a token.
-/
import Derived.Test.YtjljlcflmcjapaaDeclSy1
namespace Go.Proofs.Ytjljlcflmcjapaa
open Go Go.RowKit Pl Sy
set_option linter.unusedVariables false
set_option linter.unusedSimpArgs false
/-sy first_p
fun (l : List TokV) (i : Int) (d : D) => probeV SyTool.probe [] 400 30 83 [kv l, int i, .fn (.func 57) [] []] M0 d
-/
/-sy firstl_p
fun (l : List TokV) (i : Int) (d : D) => probeV SyTool.probe [] 400 30 83 [kv l, int i, .fn (.func 88) [] []] M0 d
-/
namespace Sy
abbrev fiF (l : List TokV) (k : Int) : Fr := [some ((@AV.view (l).length 3 (fun x109446 => (fun x313402 => (@AV.lit ([(@Value.int IntKind.i64 ((l.getD x109446 tok0)).kind), (@Value.string ((l.getD x109446 tok0)).text), (@Value.int IntKind.i64 ((l.getD x109446 tok0)).n)].getD x313402 (@Value.tuple (@Array.mk _ [])))))))), some (int k), some ((@AV.fn (@Fn.func 57) [] [])), none, none, none, none, none, none, none, none, none, none, none, none, none, none, none, none, none, none, none, none, none, none, none, none, none]
abbrev flF (l : List TokV) (k : Int) : Fr := [some ((@AV.view (l).length 3 (fun x109446 => (fun x313402 => (@AV.lit ([(@Value.int IntKind.i64 ((l.getD x109446 tok0)).kind), (@Value.string ((l.getD x109446 tok0)).text), (@Value.int IntKind.i64 ((l.getD x109446 tok0)).n)].getD x313402 (@Value.tuple (@Array.mk _ [])))))))), some (int k), some ((@AV.fn (@Fn.func 88) [] [])), none, none, none, none, none, none, none, none, none, none, none, none, none, none, none, none, none, none, none, none, none, none, none, none, none]
end Sy
/-sy first_r
fun (l : List TokV) (k : Int) (d : D) => reckL [cMatch l, cSemi] [] 400 30 83 2 [true, true, true, false, false, false, false, false, false, false, false, false, false, false, false, false, false, false, false, false, false, false, false, false, false, false, false, false] (fiF l k) M0 d
-/
/-sy firstl_r
fun (l : List TokV) (k : Int) (d : D) => reckL [cMatch l, cLoud] [] 400 30 83 2 [true, true, true, false, false, false, false, false, false, false, false, false, false, false, false, false, false, false, false, false, false, false, false, false, false, false, false, false] (flF l k) M0 d
-/

theorem Sy.first_scan (l : List TokV) (hl : lim l) : ∀ k, k ≤ l.length → LoopTo Try.prog (theBody Try.prog 83 2) (l.length - k + 1) (fiF l k) M0 fun ex F' M' => M' = M0 ∧ ((tops semiB l k < l.length ∧ ex = .exit 0 ∧ F' = fiF l (tops semiB l k : Nat)) ∨ (tops semiB l k = l.length ∧ ex = .exit 0 ∧ F' = fiF l l.length)) :=
  hopL l.length (fun j => semiB (tokAt l j)) (nxt l) (nxt_gt l) (nxt_le l) (fun k => fiF l k) (fun k => fiF l k) (fun _ => M0) (.exit 0) fun κ n G h0 c1 c2 c3 => by
    generalize hκ : (κ : Int) = k at *
    refine roundL [cMatch l, cSemi] [] 400 30 83 2 Try.func83 rfl (by kernel_rfl) [true, true, true, false, false, false, false, false, false, false, false, false, false, false, false, false, false, false, false, false, false, false, false, false, false, false, false, false] (.br (.auto 2 (.yes (.auto 1 (.yes (.auto 1 (.br (.yes .done) .done)))))) (.auto 7 .done)) (.fork (!(leI (((l).length : Nat) : Int) k)) (.need (@inR k (l).length) (.need (@isSo (@And ([(@AV.agg [(int ((l.getD (k).toNat tok0)).kind), (@AV.lit (@Value.string ((l.getD (k).toNat tok0)).text)), (int ((l.getD (k).toNat tok0)).n)])] = [(@AV.agg [(int ((l.getD (k).toNat tok0)).kind), (@AV.lit (@Value.string ((l.getD (k).toNat tok0)).text)), (int ((l.getD (k).toNat tok0)).n)])]) True)) (.fork (!(@semiB (@TokV.mk ((l.getD (k).toNat tok0)).kind ((l.getD (k).toNat tok0)).text ((l.getD (k).toNat tok0)).n))) (.need (@isSo (@And ([(@AV.view (l).length 3 (fun x992204 => (fun x7195 => (@AV.lit ([(@Value.int IntKind.i64 ((l.getD x992204 tok0)).kind), (@Value.string ((l.getD x992204 tok0)).text), (@Value.int IntKind.i64 ((l.getD x992204 tok0)).n)].getD x7195 (@Value.tuple (@Array.mk _ []))))))), (int k)] = [(@AV.view (l).length 3 (fun x833119 => (fun x154078 => (@AV.lit ([(@Value.int IntKind.i64 ((l.getD x833119 tok0)).kind), (@Value.string ((l.getD x833119 tok0)).text), (@Value.int IntKind.i64 ((l.getD x833119 tok0)).n)].getD x154078 (@Value.tuple (@Array.mk _ []))))))), (int k)]) ((l).length ≤ 17592186044416))) (.leaf (Ex.norm, ([(some (@AV.view (l).length 3 (fun x591157 => (fun x736029 => (@AV.lit ([(@Value.int IntKind.i64 ((l.getD x591157 tok0)).kind), (@Value.string ((l.getD x591157 tok0)).text), (@Value.int IntKind.i64 ((l.getD x591157 tok0)).n)].getD x736029 (@Value.tuple (@Array.mk _ [])))))))), (some (int (if ((((l).length : Nat) : Int) < (w64 ((@mtI l k) + (1 : Int)))) then (((l).length : Nat) : Int) else (w64 ((@mtI l k) + (1 : Int)))))), (some (@AV.fn (@Fn.func 57) [] [])), none, none, none, none, none, none, none, none, none, none, none, none, none, none, none, none, none, none, none, none, none, none, none, none, none], (@Mem.mk 0 0 []))))) (.leaf ((@Ex.exit 0), ([(some (@AV.view (l).length 3 (fun x370361 => (fun x391001 => (@AV.lit ([(@Value.int IntKind.i64 ((l.getD x370361 tok0)).kind), (@Value.string ((l.getD x370361 tok0)).text), (@Value.int IntKind.i64 ((l.getD x370361 tok0)).n)].getD x391001 (@Value.tuple (@Array.mk _ [])))))))), (some (int k)), (some (@AV.fn (@Fn.func 57) [] [])), none, none, none, none, none, none, none, none, none, none, none, none, none, none, none, none, none, none, none, none, none, none, none, none, none], (@Mem.mk 0 0 []))))))) (.leaf ((@Ex.exit 0), ([(some (@AV.view (l).length 3 (fun x559679 => (fun x766742 => (@AV.lit ([(@Value.int IntKind.i64 ((l.getD x559679 tok0)).kind), (@Value.string ((l.getD x559679 tok0)).text), (@Value.int IntKind.i64 ((l.getD x559679 tok0)).n)].getD x766742 (@Value.tuple (@Array.mk _ [])))))))), (some (int k)), (some (@AV.fn (@Fn.func 57) [] [])), none, none, none, none, none, none, none, none, none, none, none, none, none, none, none, none, none, none, none, none, none, none, none, none, none], (@Mem.mk 0 0 []))))) (by kernel_rfl) ?_
    have hl' : l.length ≤ 17592186044416 := hl
    refine fork_ok (fun h => ?_) (fun h => ?_)
    · simp only [Bool.not_eq_true', Bool.not_eq_false', leI_t, leI_f, eqI_t, eqI_f, inR_t, inR_f, isSo_t, isSo_f] at h
      have hk : κ < l.length := by omega
      have hr : inR k l.length = true := by rw [inR_t]; omega
      have hm := mt_le hk
      have hκ' : tokAt l κ = l.getD k.toNat tok0 := by rw [← hκ]; rfl
      refine need_t hr (need_so ⟨rfl, trivial⟩ (fork_ok (fun h2 => need_so ⟨rfl, hl⟩ ?_) (fun h2 => c2 hk (by rw [hκ']; simpa using h2))))
      have e : (if ((l.length : Nat) : Int) < w64 (mtI l k + 1) then ((l.length : Nat) : Int) else w64 (mtI l k + 1)) = (nxt l κ : Nat) := by
        have e1 : mtI l k = (mt l κ : Int) := by rw [← hκ]; exact (mt_int l κ).1
        rw [e1, w64_in (r := (mt l κ : Int) + 1) (by omega)]
        unfold nxt
        split <;> omega
      have := c1 hk (by rw [hκ']; simpa using h2)
      rw [← e] at this
      exact this
    · simp only [Bool.not_eq_true', Bool.not_eq_false', leI_t, leI_f, eqI_t, eqI_f, inR_t, inR_f, isSo_t, isSo_f] at h
      have hk : κ = l.length := by omega
      have := c3 hk
      rw [← hk, hκ] at this
      exact this
namespace Sy
noncomputable abbrev lp_first (l : List TokV) : Lp Try.prog where
  f := 83
  key := 2
  S := formS (fun F M => slotI F 1) (fun k => fiF l k) (fun _ => M0) (fun k => lim l ∧ 0 ≤ k ∧ k ≤ l.length) (fun k => .leaf (.exit 0, fiF l (tops semiB l k.toNat : Nat), M0)) [true, true, true, false, false, false, false, false, false, false, false, false, false, false, false, false, false, false, false, false, false, false, false, false, false, false, false, false]
  one := by kernel_rfl
  ok := formS_ok fun k ⟨h1, h2, h3⟩ => by
    obtain ⟨k, rfl⟩ := Int.eq_ofNat_of_zero_le h2
    refine ⟨l.length - k + 1, ?_⟩
    refine (Sy.first_scan l h1 k (by omega)).mono fun ex F M hg => ?_
    obtain ⟨rfl, hg⟩ := hg
    rcases hg with ⟨q1, rfl, rfl⟩ | ⟨q1, rfl, rfl⟩
    · rfl
    · show _ = _
      rw [Int.toNat_natCast, q1]
end Sy
/-sy first_t
fun (l : List TokV) (i : Int) (d : D) => reckV [] [lp_first l] 400 30 83 [kv l, int i, .fn (.func 57) [] []] M0 d
-/
theorem Sy.first_t (l : List TokV) (hl : lim l) (i : Int) (h0 : 0 ≤ i) (h1 : i ≤ l.length) : CallTo Try.prog 83 [kv l, int i, .fn (.func 57) [] []] M0 fun v _ => v = int (tops semiB l i.toNat : Nat) :=
  toV [] [lp_first l] 400 30 .done (.need (@isSo (@And (((some (@AV.view (l).length 3 (fun x714371 => (fun x342010 => (@AV.lit ([(@Value.int IntKind.i64 ((l.getD x714371 tok0)).kind), (@Value.string ((l.getD x714371 tok0)).text), (@Value.int IntKind.i64 ((l.getD x714371 tok0)).n)].getD x342010 (@Value.tuple (@Array.mk _ [])))))))) :: (some (int i)) :: (some (@AV.fn (@Fn.func 57) [] [])) :: [none, none, none, none, none, none, none, none, none, none, none, none, none, none, none, none, none, none, none, none, none, none, none, none, none]) = [(some (@AV.view (l).length 3 (fun x474054 => (fun x572545 => (@AV.lit ([(@Value.int IntKind.i64 ((l.getD x474054 tok0)).kind), (@Value.string ((l.getD x474054 tok0)).text), (@Value.int IntKind.i64 ((l.getD x474054 tok0)).n)].getD x572545 (@Value.tuple (@Array.mk _ [])))))))), (some (int i)), (some (@AV.fn (@Fn.func 57) [] [])), none, none, none, none, none, none, none, none, none, none, none, none, none, none, none, none, none, none, none, none, none, none, none, none, none]) ((@Mem.mk 0 0 []) = M0))) (.need (@isSo (@And ((l).length ≤ 17592186044416) (@And ((0 : Int) ≤ i) (i ≤ (((l).length : Nat) : Int))))) (.leaf (int (((@tops semiB l (i).toNat) : Nat) : Int))))) (by kernel_rfl) (need_so ⟨rfl, rfl⟩ (need_so ⟨hl, h0, h1⟩ rfl))

theorem Sy.firstl_scan (l : List TokV) (hl : lim l) : ∀ k, k ≤ l.length → LoopTo Try.prog (theBody Try.prog 83 2) (l.length - k + 1) (flF l k) M0 fun ex F' M' => M' = M0 ∧ ((tops loudB l k < l.length ∧ ex = .exit 0 ∧ F' = flF l (tops loudB l k : Nat)) ∨ (tops loudB l k = l.length ∧ ex = .exit 0 ∧ F' = flF l l.length)) :=
  hopL l.length (fun j => loudB (tokAt l j)) (nxt l) (nxt_gt l) (nxt_le l) (fun k => flF l k) (fun k => flF l k) (fun _ => M0) (.exit 0) fun κ n G h0 c1 c2 c3 => by
    generalize hκ : (κ : Int) = k at *
    refine roundL [cMatch l, cLoud] [] 400 30 83 2 Try.func83 rfl (by kernel_rfl) [true, true, true, false, false, false, false, false, false, false, false, false, false, false, false, false, false, false, false, false, false, false, false, false, false, false, false, false] (.br (.auto 2 (.yes (.auto 1 (.yes (.auto 1 (.br (.yes .done) .done)))))) (.auto 7 .done)) (.fork (!(leI (((l).length : Nat) : Int) k)) (.need (@inR k (l).length) (.need (@isSo (@And ([(@AV.agg [(int ((l.getD (k).toNat tok0)).kind), (@AV.lit (@Value.string ((l.getD (k).toNat tok0)).text)), (int ((l.getD (k).toNat tok0)).n)])] = [(@AV.agg [(int ((l.getD (k).toNat tok0)).kind), (@AV.lit (@Value.string ((l.getD (k).toNat tok0)).text)), (int ((l.getD (k).toNat tok0)).n)])]) True)) (.fork (!(@loudB (@TokV.mk ((l.getD (k).toNat tok0)).kind ((l.getD (k).toNat tok0)).text ((l.getD (k).toNat tok0)).n))) (.need (@isSo (@And ([(@AV.view (l).length 3 (fun x992204 => (fun x7195 => (@AV.lit ([(@Value.int IntKind.i64 ((l.getD x992204 tok0)).kind), (@Value.string ((l.getD x992204 tok0)).text), (@Value.int IntKind.i64 ((l.getD x992204 tok0)).n)].getD x7195 (@Value.tuple (@Array.mk _ []))))))), (int k)] = [(@AV.view (l).length 3 (fun x833119 => (fun x154078 => (@AV.lit ([(@Value.int IntKind.i64 ((l.getD x833119 tok0)).kind), (@Value.string ((l.getD x833119 tok0)).text), (@Value.int IntKind.i64 ((l.getD x833119 tok0)).n)].getD x154078 (@Value.tuple (@Array.mk _ []))))))), (int k)]) ((l).length ≤ 17592186044416))) (.leaf (Ex.norm, ([(some (@AV.view (l).length 3 (fun x591157 => (fun x736029 => (@AV.lit ([(@Value.int IntKind.i64 ((l.getD x591157 tok0)).kind), (@Value.string ((l.getD x591157 tok0)).text), (@Value.int IntKind.i64 ((l.getD x591157 tok0)).n)].getD x736029 (@Value.tuple (@Array.mk _ [])))))))), (some (int (if ((((l).length : Nat) : Int) < (w64 ((@mtI l k) + (1 : Int)))) then (((l).length : Nat) : Int) else (w64 ((@mtI l k) + (1 : Int)))))), (some (@AV.fn (@Fn.func 88) [] [])), none, none, none, none, none, none, none, none, none, none, none, none, none, none, none, none, none, none, none, none, none, none, none, none, none], (@Mem.mk 0 0 []))))) (.leaf ((@Ex.exit 0), ([(some (@AV.view (l).length 3 (fun x370361 => (fun x391001 => (@AV.lit ([(@Value.int IntKind.i64 ((l.getD x370361 tok0)).kind), (@Value.string ((l.getD x370361 tok0)).text), (@Value.int IntKind.i64 ((l.getD x370361 tok0)).n)].getD x391001 (@Value.tuple (@Array.mk _ [])))))))), (some (int k)), (some (@AV.fn (@Fn.func 88) [] [])), none, none, none, none, none, none, none, none, none, none, none, none, none, none, none, none, none, none, none, none, none, none, none, none, none], (@Mem.mk 0 0 []))))))) (.leaf ((@Ex.exit 0), ([(some (@AV.view (l).length 3 (fun x559679 => (fun x766742 => (@AV.lit ([(@Value.int IntKind.i64 ((l.getD x559679 tok0)).kind), (@Value.string ((l.getD x559679 tok0)).text), (@Value.int IntKind.i64 ((l.getD x559679 tok0)).n)].getD x766742 (@Value.tuple (@Array.mk _ [])))))))), (some (int k)), (some (@AV.fn (@Fn.func 88) [] [])), none, none, none, none, none, none, none, none, none, none, none, none, none, none, none, none, none, none, none, none, none, none, none, none, none], (@Mem.mk 0 0 []))))) (by kernel_rfl) ?_
    have hl' : l.length ≤ 17592186044416 := hl
    refine fork_ok (fun h => ?_) (fun h => ?_)
    · simp only [Bool.not_eq_true', Bool.not_eq_false', leI_t, leI_f, eqI_t, eqI_f, inR_t, inR_f, isSo_t, isSo_f] at h
      have hk : κ < l.length := by omega
      have hr : inR k l.length = true := by rw [inR_t]; omega
      have hm := mt_le hk
      have hκ' : tokAt l κ = l.getD k.toNat tok0 := by rw [← hκ]; rfl
      refine need_t hr (need_so ⟨rfl, trivial⟩ (fork_ok (fun h2 => need_so ⟨rfl, hl⟩ ?_) (fun h2 => c2 hk (by rw [hκ']; simpa using h2))))
      have e : (if ((l.length : Nat) : Int) < w64 (mtI l k + 1) then ((l.length : Nat) : Int) else w64 (mtI l k + 1)) = (nxt l κ : Nat) := by
        have e1 : mtI l k = (mt l κ : Int) := by rw [← hκ]; exact (mt_int l κ).1
        rw [e1, w64_in (r := (mt l κ : Int) + 1) (by omega)]
        unfold nxt
        split <;> omega
      have := c1 hk (by rw [hκ']; simpa using h2)
      rw [← e] at this
      exact this
    · simp only [Bool.not_eq_true', Bool.not_eq_false', leI_t, leI_f, eqI_t, eqI_f, inR_t, inR_f, isSo_t, isSo_f] at h
      have hk : κ = l.length := by omega
      have := c3 hk
      rw [← hk, hκ] at this
      exact this
namespace Sy
noncomputable abbrev lp_firstl (l : List TokV) : Lp Try.prog where
  f := 83
  key := 2
  S := formS (fun F M => slotI F 1) (fun k => flF l k) (fun _ => M0) (fun k => lim l ∧ 0 ≤ k ∧ k ≤ l.length) (fun k => .leaf (.exit 0, flF l (tops loudB l k.toNat : Nat), M0)) [true, true, true, false, false, false, false, false, false, false, false, false, false, false, false, false, false, false, false, false, false, false, false, false, false, false, false, false]
  one := by kernel_rfl
  ok := formS_ok fun k ⟨h1, h2, h3⟩ => by
    obtain ⟨k, rfl⟩ := Int.eq_ofNat_of_zero_le h2
    refine ⟨l.length - k + 1, ?_⟩
    refine (Sy.firstl_scan l h1 k (by omega)).mono fun ex F M hg => ?_
    obtain ⟨rfl, hg⟩ := hg
    rcases hg with ⟨q1, rfl, rfl⟩ | ⟨q1, rfl, rfl⟩
    · rfl
    · show _ = _
      rw [Int.toNat_natCast, q1]
end Sy
/-sy firstl_t
fun (l : List TokV) (i : Int) (d : D) => reckV [] [lp_firstl l] 400 30 83 [kv l, int i, .fn (.func 88) [] []] M0 d
-/
theorem Sy.firstl_t (l : List TokV) (hl : lim l) (i : Int) (h0 : 0 ≤ i) (h1 : i ≤ l.length) : CallTo Try.prog 83 [kv l, int i, .fn (.func 88) [] []] M0 fun v _ => v = int (tops loudB l i.toNat : Nat) :=
  toV [] [lp_firstl l] 400 30 .done (.need (@isSo (@And (((some (@AV.view (l).length 3 (fun x165295 => (fun x83747 => (@AV.lit ([(@Value.int IntKind.i64 ((l.getD x165295 tok0)).kind), (@Value.string ((l.getD x165295 tok0)).text), (@Value.int IntKind.i64 ((l.getD x165295 tok0)).n)].getD x83747 (@Value.tuple (@Array.mk _ [])))))))) :: (some (int i)) :: (some (@AV.fn (@Fn.func 88) [] [])) :: [none, none, none, none, none, none, none, none, none, none, none, none, none, none, none, none, none, none, none, none, none, none, none, none, none]) = [(some (@AV.view (l).length 3 (fun x453082 => (fun x441734 => (@AV.lit ([(@Value.int IntKind.i64 ((l.getD x453082 tok0)).kind), (@Value.string ((l.getD x453082 tok0)).text), (@Value.int IntKind.i64 ((l.getD x453082 tok0)).n)].getD x441734 (@Value.tuple (@Array.mk _ [])))))))), (some (int i)), (some (@AV.fn (@Fn.func 88) [] [])), none, none, none, none, none, none, none, none, none, none, none, none, none, none, none, none, none, none, none, none, none, none, none, none, none]) ((@Mem.mk 0 0 []) = M0))) (.need (@isSo (@And ((l).length ≤ 17592186044416) (@And ((0 : Int) ≤ i) (i ≤ (((l).length : Nat) : Int))))) (.leaf (int (((@tops loudB l (i).toNat) : Nat) : Int))))) (by kernel_rfl) (need_so ⟨rfl, rfl⟩ (need_so ⟨hl, h0, h1⟩ rfl))
end Go.Proofs.Ytjljlcflmcjapaa
