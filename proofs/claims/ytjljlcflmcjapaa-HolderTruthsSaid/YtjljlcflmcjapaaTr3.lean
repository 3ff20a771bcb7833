/-
  Truths of nodes: the program's.
-/
import Derived.Test.YtjljlcflmcjapaaTr2
namespace Go.Proofs.Ytjljlcflmcjapaa
open Go Go.RowKit Pl Sy
set_option linter.unusedVariables false
set_option linter.unusedSimpArgs false

section
variable (s : ByteArray) (xs : List QNodeV) (ty : Int) (en : ByteArray) (w h : Int)
noncomputable abbrev Sy.cFeat : Con Try.prog := atX 77 (fun args => match args with | [_, .agg [.lit (.int .i64 k), .lit (.int .i64 c), .lit (.int .i64 f), .lit (.int .i64 lo), .lit (.int .i64 ln), .lit (.int .i64 ld), .lit (.int .i64 ho), .lit (.int .i64 hn), .lit (.int .i64 hd)]] => some (QNodeV.mk k c f lo ln ld ho hn hd) | _ => none) (fun n => [asker s xs ty en w h, qa n.kind n.count n.feat n.lo n.ln n.ld n.ho n.hn n.hd]) (fun n => int (phi ty w h n)) (fun _ => True) fun n _ => ⟨⟨⟨asker_free s xs ty en w h, ⟨trivial, trivial, trivial, trivial, trivial, trivial, trivial, trivial, trivial, trivial⟩, trivial⟩, trivial⟩, feature_t s xs ty en w h n.kind n.count n.feat n.lo n.ln n.ld n.ho n.hn n.hd⟩
end
/-- the nodes beneath a place, so many at most -/
abbrev Sy.NodeAt (xs : List QNodeV) (f : Nat) (i : Int) : Prop := 0 ≤ i ∧ ∃ k, sU (xs.drop i.toNat) 1 = some k ∧ k ≤ f
abbrev Sy.NodeHas (s : ByteArray) (xs : List QNodeV) (ty : Int) (en : ByteArray) (w h : Int) (f : Nat) : Prop := ∀ i, NodeAt xs f i → CallTo Try.prog 47 [asker s xs ty en w h, int i] M0 fun v _ => v = .tup [int (E (phi ty w h) f (xs.drop i.toNat)), int (posI xs i 1)]
noncomputable abbrev Sy.cNode (s : ByteArray) (xs : List QNodeV) (ty : Int) (en : ByteArray) (w h : Int) (f : Nat) (H : NodeHas s xs ty en w h f) : Con Try.prog := atX 47 (fun args => match args with | [_, .lit (.int .i64 i)] => some i | _ => none) (fun i => [asker s xs ty en w h, int i]) (fun i => .tup [int (E (phi ty w h) f (xs.drop i.toNat)), int (posI xs i 1)]) (NodeAt xs f) fun i hi => ⟨⟨⟨asker_free s xs ty en w h, trivial, trivial⟩, trivial, trivial, trivial⟩, H i hi⟩
abbrev Sy.AllAt (xs : List QNodeV) (f : Nat) (i c : Int) : Prop := xs.length ≤ 17592186044416 ∧ (∀ n ∈ xs, okN n) ∧ c ≤ xs.length ∧ 0 ≤ c ∧ 0 ≤ i ∧ ∃ K, sU (xs.drop i.toNat) c.toNat = some K ∧ K ≤ f
/-sy all_pA
fun (s : ByteArray) (xs : List QNodeV) (ty : Int) (en : ByteArray) (w h : Int) (i count first : Int) (d : D) => probeV SyTool.probe [cAnd] 400 30 76 [asker s xs ty en w h, int i, int count, int first, .fn (.func 17) [] []] M0 d
-/
abbrev Sy.allFA (s : ByteArray) (xs : List QNodeV) (ty : Int) (en : ByteArray) (w h : Int) (i c acc k : Int) : Fr := [some (asker s xs ty en w h), some (int i), none, none, some ((@AV.fn (@Fn.func 17) [] [])), none, none, none, none, none, none, none, some (int acc), none, none, some (int c), some (int k), none, none, none, none, none, none, none, none, none, none, none, none, none, none]
/-sy all_rA
fun (s : ByteArray) (xs : List QNodeV) (ty : Int) (en : ByteArray) (w h : Int) (f : Nat) (H : NodeHas s xs ty en w h f) (i c acc k : Int) (d : D) => reckL [cAnd, cNode s xs ty en w h f H] [] 400 30 76 4 [true, true, false, false, true, false, false, false, false, false, false, false, true, false, false, true, true, false, false, false, false, false, false, false, false, false, false, false, false, false, false] (allFA s xs ty en w h i c acc k) M0 d
-/
theorem Sy.all_loopA (s : ByteArray) (xs : List QNodeV) (ty : Int) (en : ByteArray) (w h : Int) (f : Nat) (H : NodeHas s xs ty en w h f) (hx : xs.length ≤ 17592186044416) (hok : ∀ n ∈ xs, okN n) (c : Int) (hc : c ≤ xs.length) : ∀ (m : Nat) (i acc k : Int) (K : Nat), (c - k).toNat = m → 0 ≤ k → k ≤ c → 0 ≤ i → sU (xs.drop i.toNat) m = some K → K ≤ f →
    LoopTo Try.prog (theBody Try.prog 76 4) (m + 1) (allFA s xs ty en w h i c acc k) M0 fun ex F M => M = M0 ∧ ex = .exit 0 ∧ ∃ k', F = allFA s xs ty en w h (posI xs i m) c (ES (phi ty w h) f tA m acc (xs.drop i.toNat)) k' := by
  intro m
  induction m with
  | zero =>
    intro i acc k K hm h0 hk hi hK hf
    refine roundL [cAnd, cNode s xs ty en w h f H] [] 400 30 76 4 Try.func76 rfl (by kernel_rfl) [true, true, false, false, true, false, false, false, false, false, false, false, true, false, false, true, true, false, false, false, false, false, false, false, false, false, false, false, false, false, false] (.br (.yes .done) .done) (.fork (!(leI c k)) (.need (@isSo (@And ([(@AV.vptr 6 (fun x653937 => ([(@AV.lit (@Value.string s)), (@qview xs), (int ty), (@AV.lit (@Value.string en)), (int w), (int h)].getD x653937 (@AV.lit (@Value.tuple (@Array.mk _ [])))))), (int i)] = [(@AV.vptr 6 (fun x482593 => ([(@AV.lit (@Value.string s)), (@qview xs), (int ty), (@AV.lit (@Value.string en)), (int w), (int h)].getD x482593 (@AV.lit (@Value.tuple (@Array.mk _ [])))))), (int i)]) (@And ((0 : Int) ≤ i) (@Exists _ (fun x981060 => (@And ((@sU (@List.drop _ (i).toNat xs) 1) = (some x981060)) (x981060 ≤ f))))))) (.leaf (Ex.norm, ([(some (@AV.vptr 6 (fun x366692 => ([(@AV.lit (@Value.string s)), (@qview xs), (int ty), (@AV.lit (@Value.string en)), (int w), (int h)].getD x366692 (@AV.lit (@Value.tuple (@Array.mk _ []))))))), (some (int (@posI xs i 1))), none, none, (some (@AV.fn (@Fn.func 17) [] [])), none, none, none, none, none, none, none, (some (int (@tA acc (@E (@phi ty w h) f (@List.drop _ (i).toNat xs))))), none, none, (some (int c)), (some (int (w64 (k + (1 : Int))))), none, none, none, none, none, none, none, none, none, none, none, none, none, none], (@Mem.mk 0 0 []))))) (.leaf ((@Ex.exit 0), ([(some (@AV.vptr 6 (fun x422090 => ([(@AV.lit (@Value.string s)), (@qview xs), (int ty), (@AV.lit (@Value.string en)), (int w), (int h)].getD x422090 (@AV.lit (@Value.tuple (@Array.mk _ []))))))), (some (int i)), none, none, (some (@AV.fn (@Fn.func 17) [] [])), none, none, none, none, none, none, none, (some (int acc)), none, none, (some (int c)), (some (int k)), none, none, none, none, none, none, none, none, none, none, none, none, none, none], (@Mem.mk 0 0 []))))) (by kernel_rfl) ?_
    refine fork_ok (fun h1 => ?_) (fun h1 => ?_)
    · simp only [Bool.not_eq_true', Bool.not_eq_false', leI_t, leI_f, eqI_t, eqI_f, inR_t, inR_f, isSo_t, isSo_f] at h1
      omega
    · rw [posI_zero, ES_zero]
      exact ⟨rfl, rfl, k, rfl⟩
  | succ m ih =>
    intro i acc k K hm h0 hk hi hK hf
    refine roundL [cAnd, cNode s xs ty en w h f H] [] 400 30 76 4 Try.func76 rfl (by kernel_rfl) [true, true, false, false, true, false, false, false, false, false, false, false, true, false, false, true, true, false, false, false, false, false, false, false, false, false, false, false, false, false, false] (.br (.yes .done) .done) (.fork (!(leI c k)) (.need (@isSo (@And ([(@AV.vptr 6 (fun x653937 => ([(@AV.lit (@Value.string s)), (@qview xs), (int ty), (@AV.lit (@Value.string en)), (int w), (int h)].getD x653937 (@AV.lit (@Value.tuple (@Array.mk _ [])))))), (int i)] = [(@AV.vptr 6 (fun x482593 => ([(@AV.lit (@Value.string s)), (@qview xs), (int ty), (@AV.lit (@Value.string en)), (int w), (int h)].getD x482593 (@AV.lit (@Value.tuple (@Array.mk _ [])))))), (int i)]) (@And ((0 : Int) ≤ i) (@Exists _ (fun x981060 => (@And ((@sU (@List.drop _ (i).toNat xs) 1) = (some x981060)) (x981060 ≤ f))))))) (.leaf (Ex.norm, ([(some (@AV.vptr 6 (fun x366692 => ([(@AV.lit (@Value.string s)), (@qview xs), (int ty), (@AV.lit (@Value.string en)), (int w), (int h)].getD x366692 (@AV.lit (@Value.tuple (@Array.mk _ []))))))), (some (int (@posI xs i 1))), none, none, (some (@AV.fn (@Fn.func 17) [] [])), none, none, none, none, none, none, none, (some (int (@tA acc (@E (@phi ty w h) f (@List.drop _ (i).toNat xs))))), none, none, (some (int c)), (some (int (w64 (k + (1 : Int))))), none, none, none, none, none, none, none, none, none, none, none, none, none, none], (@Mem.mk 0 0 []))))) (.leaf ((@Ex.exit 0), ([(some (@AV.vptr 6 (fun x422090 => ([(@AV.lit (@Value.string s)), (@qview xs), (int ty), (@AV.lit (@Value.string en)), (int w), (int h)].getD x422090 (@AV.lit (@Value.tuple (@Array.mk _ []))))))), (some (int i)), none, none, (some (@AV.fn (@Fn.func 17) [] [])), none, none, none, none, none, none, none, (some (int acc)), none, none, (some (int c)), (some (int k)), none, none, none, none, none, none, none, none, none, none, none, none, none, none], (@Mem.mk 0 0 []))))) (by kernel_rfl) ?_
    have hK2 := hK
    rw [show m + 1 = 1 + m by omega, sU_add, Option.bind_eq_some_iff] at hK2
    obtain ⟨k1, q1, q2⟩ := hK2
    rw [Option.map_eq_some_iff] at q2
    obtain ⟨k2, q2, q3⟩ := q2
    have hlt := sU_le _ _ _ q1
    have hp : posI xs i 1 = i + k1 := by unfold posI; rw [q1]
    have hd : xs.drop (i + (k1 : Int)).toNat = (xs.drop i.toNat).drop k1 := by rw [List.drop_drop]; congr 1; omega
    refine fork_ok (fun h1 => need_so ⟨rfl, hi, k1, q1, by omega⟩ ?_) (fun h1 => ?_)
    · simp only [Bool.not_eq_true', Bool.not_eq_false', leI_t, leI_f, eqI_t, eqI_f, inR_t, inR_f, isSo_t, isSo_f] at h1
      rw [hp, w64_in (r := k + 1) (by omega)]
      refine (ih (i + k1) (tA acc (E (phi ty w h) f (xs.drop i.toNat))) (k + 1) k2 (by omega) (by omega) (by omega) (by omega) (by rw [hd]; exact q2) (by omega)).mono fun ex F M hg => ?_
      rw [ES_succ _ _ _ _ _ _ k1 (fun n hn => hok n (List.mem_of_mem_drop hn)) q1 (by omega), posI_succ _ _ _ hi, if_neg (by omega), hp]
      rw [hd] at hg
      exact hg
    · simp only [Bool.not_eq_true', Bool.not_eq_false', leI_t, leI_f, eqI_t, eqI_f, inR_t, inR_f, isSo_t, isSo_f] at h1
      omega
namespace Sy
abbrev allNA (s : ByteArray) (xs : List QNodeV) (ty : Int) (en : ByteArray) (w h : Int) (i c acc : Int) : Fr := [some (asker s xs ty en w h), some (int i), none, none, some ((@AV.fn (@Fn.func 17) [] [])), none, none, none, none, none, none, none, some (int acc), none, none, some (int c), none, none, none, none, none, none, none, none, none, none, none, none, none, none, none]
noncomputable abbrev allLpA (s : ByteArray) (xs : List QNodeV) (ty : Int) (en : ByteArray) (w h : Int) (f : Nat) (H : NodeHas s xs ty en w h f) : Lp Try.prog where
  f := 76
  key := 4
  S := formS (fun F M => match slotI F 1, slotI F 12, slotI F 15, slotI F 16 with | some i, some a, some c, some k => some (i, a, c, k) | _, _, _, _ => none) (fun x => allFA s xs ty en w h x.1 x.2.2.1 x.2.1 x.2.2.2) (fun x => M0)
    (fun x => xs.length ≤ 17592186044416 ∧ (∀ n ∈ xs, okN n) ∧ x.2.2.1 ≤ xs.length ∧ 0 ≤ x.2.2.2 ∧ x.2.2.2 ≤ x.2.2.1 ∧ 0 ≤ x.1 ∧ ∃ K, sU (xs.drop x.1.toNat) (x.2.2.1 - x.2.2.2).toNat = some K ∧ K ≤ f)
    (fun x => .leaf (.exit 0, allNA s xs ty en w h (posI xs x.1 (x.2.2.1 - x.2.2.2).toNat) x.2.2.1 (ES (phi ty w h) f tA (x.2.2.1 - x.2.2.2).toNat x.2.1 (xs.drop x.1.toNat)), M0)) [true, true, false, false, true, false, false, false, false, false, false, false, true, false, false, true, true, false, false, false, false, false, false, false, false, false, false, false, false, false, false]
  one := by kernel_rfl
  ok := formS_ok fun x ⟨h1, h2, h3, h4, h5, h6, K, h7, h8⟩ => by
    refine ⟨(x.2.2.1 - x.2.2.2).toNat + 1, ?_⟩
    have hh := Sy.all_loopA s xs ty en w h f H h1 h2 x.2.2.1 h3 (x.2.2.1 - x.2.2.2).toNat x.1 x.2.1 x.2.2.2 K rfl h4 h5 h6 h7 h8
    refine (hh.out [true, true, false, false, true, false, false, false, false, false, false, false, true, false, false, true, false, false, false, false, false, false, false, false, false, false, false, false, false, false, false]).mono fun ex F M hg => ?_
    obtain ⟨F0, ⟨hM, rfl, k', rfl⟩, rfl⟩ := hg
    rw [hM]; rfl
end Sy
/-sy all_tA
fun (s : ByteArray) (xs : List QNodeV) (ty : Int) (en : ByteArray) (w h : Int) (f : Nat) (H : NodeHas s xs ty en w h f) (i c first : Int) (d : D) => reckV [] [allLpA s xs ty en w h f H] 400 30 76 [asker s xs ty en w h, int i, int c, int first, .fn (.func 17) [] []] M0 d
-/
theorem Sy.all_tA (s : ByteArray) (xs : List QNodeV) (ty : Int) (en : ByteArray) (w h : Int) (f : Nat) (H : NodeHas s xs ty en w h f) (i c first : Int) (hC : AllAt xs f i c) : CallTo Try.prog 76 [asker s xs ty en w h, int i, int c, int first, .fn (.func 17) [] []] M0 fun v _ => v = .tup [int (ES (phi ty w h) f tA c.toNat first (xs.drop i.toNat)), int (posI xs i c.toNat)] :=
  toV [] [allLpA s xs ty en w h f H] 400 30 .done (.need (@isSo (@And (((some (@AV.vptr 6 (fun x431015 => ([(@AV.lit (@Value.string s)), (@qview xs), (int ty), (@AV.lit (@Value.string en)), (int w), (int h)].getD x431015 (@AV.lit (@Value.tuple (@Array.mk _ []))))))) :: (some (int i)) :: none :: none :: (some (@AV.fn (@Fn.func 17) [] [])) :: [none, none, none, none, none, none, none, (some (int first)), none, none, (some (int c)), (some (int (0 : Int))), none, none, none, none, none, none, none, none, none, none, none, none, none, none]) = [(some (@AV.vptr 6 (fun x90470 => ([(@AV.lit (@Value.string s)), (@qview xs), (int ty), (@AV.lit (@Value.string en)), (int w), (int h)].getD x90470 (@AV.lit (@Value.tuple (@Array.mk _ []))))))), (some (int i)), none, none, (some (@AV.fn (@Fn.func 17) [] [])), none, none, none, none, none, none, none, (some (int first)), none, none, (some (int c)), (some (int (Int.ofNat 0))), none, none, none, none, none, none, none, none, none, none, none, none, none, none]) ((@Mem.mk 0 0 []) = M0))) (.need (@isSo (@And ((xs).length ≤ 17592186044416) (@And (∀ (n : QNodeV), n ∈ xs → okN n) (@And (c ≤ (((xs).length : Nat) : Int)) (@And ((0 : Int) ≤ (Int.ofNat 0)) (@And ((Int.ofNat 0) ≤ c) (@And ((0 : Int) ≤ i) (@Exists _ (fun x826722 => (@And ((@sU (@List.drop _ (i).toNat xs) ((c - (Int.ofNat 0))).toNat) = (some x826722)) (x826722 ≤ f))))))))))) (.leaf (@AV.tup [(int (@ES (@phi ty w h) f tA ((c - (Int.ofNat 0))).toNat first (@List.drop _ (i).toNat xs))), (int (@posI xs i ((c - (Int.ofNat 0))).toNat))])))) (by kernel_rfl) (by
    obtain ⟨h1, h2, h3, h4, h5, K, h6, h7⟩ := hC
    refine need_so ⟨rfl, rfl⟩ (need_so ⟨h1, h2, h3, Int.le_refl 0, h4, h5, K, ?_, h7⟩ ?_)
    · show sU (xs.drop i.toNat) (c - 0).toNat = some K
      rw [Int.sub_zero]; exact h6
    · show AV.tup [int (ES (phi ty w h) f tA (c - 0).toNat first (xs.drop i.toNat)), int (posI xs i (c - 0).toNat)] = _
      rw [Int.sub_zero])
noncomputable abbrev Sy.cAllA (s : ByteArray) (xs : List QNodeV) (ty : Int) (en : ByteArray) (w h : Int) (f : Nat) (H : NodeHas s xs ty en w h f) : Con Try.prog :=
  atX 76 (fun args => match args with | [_, .lit (.int .i64 i), .lit (.int .i64 c), .lit (.int .i64 a), .fn (.func q) [] []] => (match Nat.beq q 17 with | true => some (i, c, a) | false => none) | _ => none) (fun x => [asker s xs ty en w h, int x.1, int x.2.1, int x.2.2, .fn (.func 17) [] []]) (fun x => .tup [int (ES (phi ty w h) f tA x.2.1.toNat x.2.2 (xs.drop x.1.toNat)), int (posI xs x.1 x.2.1.toNat)]) (fun x => AllAt xs f x.1 x.2.1) fun x hC => ⟨⟨⟨asker_free s xs ty en w h, trivial, trivial, trivial, ⟨trivial, trivial⟩, trivial⟩, trivial, trivial, trivial⟩, all_tA s xs ty en w h f H x.1 x.2.1 x.2.2 hC⟩
/-sy all_pO
fun (s : ByteArray) (xs : List QNodeV) (ty : Int) (en : ByteArray) (w h : Int) (i count first : Int) (d : D) => probeV SyTool.probe [cOr] 400 30 76 [asker s xs ty en w h, int i, int count, int first, .fn (.func 19) [] []] M0 d
-/
abbrev Sy.allFO (s : ByteArray) (xs : List QNodeV) (ty : Int) (en : ByteArray) (w h : Int) (i c acc k : Int) : Fr := [some (asker s xs ty en w h), some (int i), none, none, some ((@AV.fn (@Fn.func 19) [] [])), none, none, none, none, none, none, none, some (int acc), none, none, some (int c), some (int k), none, none, none, none, none, none, none, none, none, none, none, none, none, none]
/-sy all_rO
fun (s : ByteArray) (xs : List QNodeV) (ty : Int) (en : ByteArray) (w h : Int) (f : Nat) (H : NodeHas s xs ty en w h f) (i c acc k : Int) (d : D) => reckL [cOr, cNode s xs ty en w h f H] [] 400 30 76 4 [true, true, false, false, true, false, false, false, false, false, false, false, true, false, false, true, true, false, false, false, false, false, false, false, false, false, false, false, false, false, false] (allFO s xs ty en w h i c acc k) M0 d
-/
theorem Sy.all_loopO (s : ByteArray) (xs : List QNodeV) (ty : Int) (en : ByteArray) (w h : Int) (f : Nat) (H : NodeHas s xs ty en w h f) (hx : xs.length ≤ 17592186044416) (hok : ∀ n ∈ xs, okN n) (c : Int) (hc : c ≤ xs.length) : ∀ (m : Nat) (i acc k : Int) (K : Nat), (c - k).toNat = m → 0 ≤ k → k ≤ c → 0 ≤ i → sU (xs.drop i.toNat) m = some K → K ≤ f →
    LoopTo Try.prog (theBody Try.prog 76 4) (m + 1) (allFO s xs ty en w h i c acc k) M0 fun ex F M => M = M0 ∧ ex = .exit 0 ∧ ∃ k', F = allFO s xs ty en w h (posI xs i m) c (ES (phi ty w h) f tO m acc (xs.drop i.toNat)) k' := by
  intro m
  induction m with
  | zero =>
    intro i acc k K hm h0 hk hi hK hf
    refine roundL [cOr, cNode s xs ty en w h f H] [] 400 30 76 4 Try.func76 rfl (by kernel_rfl) [true, true, false, false, true, false, false, false, false, false, false, false, true, false, false, true, true, false, false, false, false, false, false, false, false, false, false, false, false, false, false] (.br (.yes .done) .done) (.fork (!(leI c k)) (.need (@isSo (@And ([(@AV.vptr 6 (fun x155879 => ([(@AV.lit (@Value.string s)), (@qview xs), (int ty), (@AV.lit (@Value.string en)), (int w), (int h)].getD x155879 (@AV.lit (@Value.tuple (@Array.mk _ [])))))), (int i)] = [(@AV.vptr 6 (fun x111230 => ([(@AV.lit (@Value.string s)), (@qview xs), (int ty), (@AV.lit (@Value.string en)), (int w), (int h)].getD x111230 (@AV.lit (@Value.tuple (@Array.mk _ [])))))), (int i)]) (@And ((0 : Int) ≤ i) (@Exists _ (fun x733922 => (@And ((@sU (@List.drop _ (i).toNat xs) 1) = (some x733922)) (x733922 ≤ f))))))) (.leaf (Ex.norm, ([(some (@AV.vptr 6 (fun x120209 => ([(@AV.lit (@Value.string s)), (@qview xs), (int ty), (@AV.lit (@Value.string en)), (int w), (int h)].getD x120209 (@AV.lit (@Value.tuple (@Array.mk _ []))))))), (some (int (@posI xs i 1))), none, none, (some (@AV.fn (@Fn.func 19) [] [])), none, none, none, none, none, none, none, (some (int (@tO acc (@E (@phi ty w h) f (@List.drop _ (i).toNat xs))))), none, none, (some (int c)), (some (int (w64 (k + (1 : Int))))), none, none, none, none, none, none, none, none, none, none, none, none, none, none], (@Mem.mk 0 0 []))))) (.leaf ((@Ex.exit 0), ([(some (@AV.vptr 6 (fun x467899 => ([(@AV.lit (@Value.string s)), (@qview xs), (int ty), (@AV.lit (@Value.string en)), (int w), (int h)].getD x467899 (@AV.lit (@Value.tuple (@Array.mk _ []))))))), (some (int i)), none, none, (some (@AV.fn (@Fn.func 19) [] [])), none, none, none, none, none, none, none, (some (int acc)), none, none, (some (int c)), (some (int k)), none, none, none, none, none, none, none, none, none, none, none, none, none, none], (@Mem.mk 0 0 []))))) (by kernel_rfl) ?_
    refine fork_ok (fun h1 => ?_) (fun h1 => ?_)
    · simp only [Bool.not_eq_true', Bool.not_eq_false', leI_t, leI_f, eqI_t, eqI_f, inR_t, inR_f, isSo_t, isSo_f] at h1
      omega
    · rw [posI_zero, ES_zero]
      exact ⟨rfl, rfl, k, rfl⟩
  | succ m ih =>
    intro i acc k K hm h0 hk hi hK hf
    refine roundL [cOr, cNode s xs ty en w h f H] [] 400 30 76 4 Try.func76 rfl (by kernel_rfl) [true, true, false, false, true, false, false, false, false, false, false, false, true, false, false, true, true, false, false, false, false, false, false, false, false, false, false, false, false, false, false] (.br (.yes .done) .done) (.fork (!(leI c k)) (.need (@isSo (@And ([(@AV.vptr 6 (fun x155879 => ([(@AV.lit (@Value.string s)), (@qview xs), (int ty), (@AV.lit (@Value.string en)), (int w), (int h)].getD x155879 (@AV.lit (@Value.tuple (@Array.mk _ [])))))), (int i)] = [(@AV.vptr 6 (fun x111230 => ([(@AV.lit (@Value.string s)), (@qview xs), (int ty), (@AV.lit (@Value.string en)), (int w), (int h)].getD x111230 (@AV.lit (@Value.tuple (@Array.mk _ [])))))), (int i)]) (@And ((0 : Int) ≤ i) (@Exists _ (fun x733922 => (@And ((@sU (@List.drop _ (i).toNat xs) 1) = (some x733922)) (x733922 ≤ f))))))) (.leaf (Ex.norm, ([(some (@AV.vptr 6 (fun x120209 => ([(@AV.lit (@Value.string s)), (@qview xs), (int ty), (@AV.lit (@Value.string en)), (int w), (int h)].getD x120209 (@AV.lit (@Value.tuple (@Array.mk _ []))))))), (some (int (@posI xs i 1))), none, none, (some (@AV.fn (@Fn.func 19) [] [])), none, none, none, none, none, none, none, (some (int (@tO acc (@E (@phi ty w h) f (@List.drop _ (i).toNat xs))))), none, none, (some (int c)), (some (int (w64 (k + (1 : Int))))), none, none, none, none, none, none, none, none, none, none, none, none, none, none], (@Mem.mk 0 0 []))))) (.leaf ((@Ex.exit 0), ([(some (@AV.vptr 6 (fun x467899 => ([(@AV.lit (@Value.string s)), (@qview xs), (int ty), (@AV.lit (@Value.string en)), (int w), (int h)].getD x467899 (@AV.lit (@Value.tuple (@Array.mk _ []))))))), (some (int i)), none, none, (some (@AV.fn (@Fn.func 19) [] [])), none, none, none, none, none, none, none, (some (int acc)), none, none, (some (int c)), (some (int k)), none, none, none, none, none, none, none, none, none, none, none, none, none, none], (@Mem.mk 0 0 []))))) (by kernel_rfl) ?_
    have hK2 := hK
    rw [show m + 1 = 1 + m by omega, sU_add, Option.bind_eq_some_iff] at hK2
    obtain ⟨k1, q1, q2⟩ := hK2
    rw [Option.map_eq_some_iff] at q2
    obtain ⟨k2, q2, q3⟩ := q2
    have hlt := sU_le _ _ _ q1
    have hp : posI xs i 1 = i + k1 := by unfold posI; rw [q1]
    have hd : xs.drop (i + (k1 : Int)).toNat = (xs.drop i.toNat).drop k1 := by rw [List.drop_drop]; congr 1; omega
    refine fork_ok (fun h1 => need_so ⟨rfl, hi, k1, q1, by omega⟩ ?_) (fun h1 => ?_)
    · simp only [Bool.not_eq_true', Bool.not_eq_false', leI_t, leI_f, eqI_t, eqI_f, inR_t, inR_f, isSo_t, isSo_f] at h1
      rw [hp, w64_in (r := k + 1) (by omega)]
      refine (ih (i + k1) (tO acc (E (phi ty w h) f (xs.drop i.toNat))) (k + 1) k2 (by omega) (by omega) (by omega) (by omega) (by rw [hd]; exact q2) (by omega)).mono fun ex F M hg => ?_
      rw [ES_succ _ _ _ _ _ _ k1 (fun n hn => hok n (List.mem_of_mem_drop hn)) q1 (by omega), posI_succ _ _ _ hi, if_neg (by omega), hp]
      rw [hd] at hg
      exact hg
    · simp only [Bool.not_eq_true', Bool.not_eq_false', leI_t, leI_f, eqI_t, eqI_f, inR_t, inR_f, isSo_t, isSo_f] at h1
      omega
namespace Sy
abbrev allNO (s : ByteArray) (xs : List QNodeV) (ty : Int) (en : ByteArray) (w h : Int) (i c acc : Int) : Fr := [some (asker s xs ty en w h), some (int i), none, none, some ((@AV.fn (@Fn.func 19) [] [])), none, none, none, none, none, none, none, some (int acc), none, none, some (int c), none, none, none, none, none, none, none, none, none, none, none, none, none, none, none]
noncomputable abbrev allLpO (s : ByteArray) (xs : List QNodeV) (ty : Int) (en : ByteArray) (w h : Int) (f : Nat) (H : NodeHas s xs ty en w h f) : Lp Try.prog where
  f := 76
  key := 4
  S := formS (fun F M => match slotI F 1, slotI F 12, slotI F 15, slotI F 16 with | some i, some a, some c, some k => some (i, a, c, k) | _, _, _, _ => none) (fun x => allFO s xs ty en w h x.1 x.2.2.1 x.2.1 x.2.2.2) (fun x => M0)
    (fun x => xs.length ≤ 17592186044416 ∧ (∀ n ∈ xs, okN n) ∧ x.2.2.1 ≤ xs.length ∧ 0 ≤ x.2.2.2 ∧ x.2.2.2 ≤ x.2.2.1 ∧ 0 ≤ x.1 ∧ ∃ K, sU (xs.drop x.1.toNat) (x.2.2.1 - x.2.2.2).toNat = some K ∧ K ≤ f)
    (fun x => .leaf (.exit 0, allNO s xs ty en w h (posI xs x.1 (x.2.2.1 - x.2.2.2).toNat) x.2.2.1 (ES (phi ty w h) f tO (x.2.2.1 - x.2.2.2).toNat x.2.1 (xs.drop x.1.toNat)), M0)) [true, true, false, false, true, false, false, false, false, false, false, false, true, false, false, true, true, false, false, false, false, false, false, false, false, false, false, false, false, false, false]
  one := by kernel_rfl
  ok := formS_ok fun x ⟨h1, h2, h3, h4, h5, h6, K, h7, h8⟩ => by
    refine ⟨(x.2.2.1 - x.2.2.2).toNat + 1, ?_⟩
    have hh := Sy.all_loopO s xs ty en w h f H h1 h2 x.2.2.1 h3 (x.2.2.1 - x.2.2.2).toNat x.1 x.2.1 x.2.2.2 K rfl h4 h5 h6 h7 h8
    refine (hh.out [true, true, false, false, true, false, false, false, false, false, false, false, true, false, false, true, false, false, false, false, false, false, false, false, false, false, false, false, false, false, false]).mono fun ex F M hg => ?_
    obtain ⟨F0, ⟨hM, rfl, k', rfl⟩, rfl⟩ := hg
    rw [hM]; rfl
end Sy
/-sy all_tO
fun (s : ByteArray) (xs : List QNodeV) (ty : Int) (en : ByteArray) (w h : Int) (f : Nat) (H : NodeHas s xs ty en w h f) (i c first : Int) (d : D) => reckV [] [allLpO s xs ty en w h f H] 400 30 76 [asker s xs ty en w h, int i, int c, int first, .fn (.func 19) [] []] M0 d
-/
theorem Sy.all_tO (s : ByteArray) (xs : List QNodeV) (ty : Int) (en : ByteArray) (w h : Int) (f : Nat) (H : NodeHas s xs ty en w h f) (i c first : Int) (hC : AllAt xs f i c) : CallTo Try.prog 76 [asker s xs ty en w h, int i, int c, int first, .fn (.func 19) [] []] M0 fun v _ => v = .tup [int (ES (phi ty w h) f tO c.toNat first (xs.drop i.toNat)), int (posI xs i c.toNat)] :=
  toV [] [allLpO s xs ty en w h f H] 400 30 .done (.need (@isSo (@And (((some (@AV.vptr 6 (fun x591010 => ([(@AV.lit (@Value.string s)), (@qview xs), (int ty), (@AV.lit (@Value.string en)), (int w), (int h)].getD x591010 (@AV.lit (@Value.tuple (@Array.mk _ []))))))) :: (some (int i)) :: none :: none :: (some (@AV.fn (@Fn.func 19) [] [])) :: [none, none, none, none, none, none, none, (some (int first)), none, none, (some (int c)), (some (int (0 : Int))), none, none, none, none, none, none, none, none, none, none, none, none, none, none]) = [(some (@AV.vptr 6 (fun x157574 => ([(@AV.lit (@Value.string s)), (@qview xs), (int ty), (@AV.lit (@Value.string en)), (int w), (int h)].getD x157574 (@AV.lit (@Value.tuple (@Array.mk _ []))))))), (some (int i)), none, none, (some (@AV.fn (@Fn.func 19) [] [])), none, none, none, none, none, none, none, (some (int first)), none, none, (some (int c)), (some (int (Int.ofNat 0))), none, none, none, none, none, none, none, none, none, none, none, none, none, none]) ((@Mem.mk 0 0 []) = M0))) (.need (@isSo (@And ((xs).length ≤ 17592186044416) (@And (∀ (n : QNodeV), n ∈ xs → okN n) (@And (c ≤ (((xs).length : Nat) : Int)) (@And ((0 : Int) ≤ (Int.ofNat 0)) (@And ((Int.ofNat 0) ≤ c) (@And ((0 : Int) ≤ i) (@Exists _ (fun x366769 => (@And ((@sU (@List.drop _ (i).toNat xs) ((c - (Int.ofNat 0))).toNat) = (some x366769)) (x366769 ≤ f))))))))))) (.leaf (@AV.tup [(int (@ES (@phi ty w h) f tO ((c - (Int.ofNat 0))).toNat first (@List.drop _ (i).toNat xs))), (int (@posI xs i ((c - (Int.ofNat 0))).toNat))])))) (by kernel_rfl) (by
    obtain ⟨h1, h2, h3, h4, h5, K, h6, h7⟩ := hC
    refine need_so ⟨rfl, rfl⟩ (need_so ⟨h1, h2, h3, Int.le_refl 0, h4, h5, K, ?_, h7⟩ ?_)
    · show sU (xs.drop i.toNat) (c - 0).toNat = some K
      rw [Int.sub_zero]; exact h6
    · show AV.tup [int (ES (phi ty w h) f tO (c - 0).toNat first (xs.drop i.toNat)), int (posI xs i (c - 0).toNat)] = _
      rw [Int.sub_zero])
noncomputable abbrev Sy.cAllO (s : ByteArray) (xs : List QNodeV) (ty : Int) (en : ByteArray) (w h : Int) (f : Nat) (H : NodeHas s xs ty en w h f) : Con Try.prog :=
  atX 76 (fun args => match args with | [_, .lit (.int .i64 i), .lit (.int .i64 c), .lit (.int .i64 a), .fn (.func q) [] []] => (match Nat.beq q 19 with | true => some (i, c, a) | false => none) | _ => none) (fun x => [asker s xs ty en w h, int x.1, int x.2.1, int x.2.2, .fn (.func 19) [] []]) (fun x => .tup [int (ES (phi ty w h) f tO x.2.1.toNat x.2.2 (xs.drop x.1.toNat)), int (posI xs x.1 x.2.1.toNat)]) (fun x => AllAt xs f x.1 x.2.1) fun x hC => ⟨⟨⟨asker_free s xs ty en w h, trivial, trivial, trivial, ⟨trivial, trivial⟩, trivial⟩, trivial, trivial, trivial⟩, all_tO s xs ty en w h f H x.1 x.2.1 x.2.2 hC⟩
end Go.Proofs.Ytjljlcflmcjapaa
