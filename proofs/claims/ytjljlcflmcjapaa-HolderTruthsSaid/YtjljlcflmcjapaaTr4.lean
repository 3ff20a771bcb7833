/-
  Truths of nodes: the program's, whole.
-/
import Derived.Test.YtjljlcflmcjapaaTr3
namespace Go.Proofs.Ytjljlcflmcjapaa
open Go Go.RowKit Pl Sy
set_option linter.unusedVariables false
set_option linter.unusedSimpArgs false

def tJ (b : Bool) : Int → Int → Int := match b with | true => tA | false => tO
abbrev Sy.joinF (b : Bool) : FuncId := match b with | true => 17 | false => 19
theorem Sy.all_t (b : Bool) (s : ByteArray) (xs : List QNodeV) (ty : Int) (en : ByteArray) (w h : Int) (f : Nat) (H : NodeHas s xs ty en w h f) (i c first : Int) (hC : AllAt xs f i c) : CallTo Try.prog 76 [asker s xs ty en w h, int i, int c, int first, .fn (.func (joinF b)) [] []] M0 fun v _ => v = .tup [int (ES (phi ty w h) f (tJ b) c.toNat first (xs.drop i.toNat)), int (posI xs i c.toNat)] := by
  cases b
  · exact all_tO s xs ty en w h f H i c first hC
  · exact all_tA s xs ty en w h f H i c first hC
noncomputable abbrev Sy.cAll (s : ByteArray) (xs : List QNodeV) (ty : Int) (en : ByteArray) (w h : Int) (f : Nat) (H : NodeHas s xs ty en w h f) : Con Try.prog :=
  atX 76 (fun args => match args with | [_, .lit (.int .i64 i), .lit (.int .i64 c), .lit (.int .i64 a), .fn (.func q) [] []] => (match Nat.beq q 17 with | true => some (i, c, a, true) | false => match Nat.beq q 19 with | true => some (i, c, a, false) | false => none) | _ => none) (fun x => [asker s xs ty en w h, int x.1, int x.2.1, int x.2.2.1, .fn (.func (joinF x.2.2.2)) [] []]) (fun x => .tup [int (ES (phi ty w h) f (tJ x.2.2.2) x.2.1.toNat x.2.2.1 (xs.drop x.1.toNat)), int (posI xs x.1 x.2.1.toNat)]) (fun x => AllAt xs f x.1 x.2.1) fun x hC => ⟨⟨⟨asker_free s xs ty en w h, trivial, trivial, trivial, ⟨trivial, trivial⟩, trivial⟩, trivial, trivial, trivial⟩, all_t x.2.2.2 s xs ty en w h f H x.1 x.2.1 x.2.2.1 hC⟩
/-sy node_t
fun (s : ByteArray) (xs : List QNodeV) (ty : Int) (en : ByteArray) (w h : Int) (f : Nat) (H : NodeHas s xs ty en w h f) (i : Int) (d : D) => reckV [cNot, cAll s xs ty en w h f H, cNode s xs ty en w h f H, cFeat s xs ty en w h] [] 400 30 47 [asker s xs ty en w h, int i] M0 d
-/
theorem node_parts {xs : List QNodeV} {f : Nat} {i : Int} (hok : ∀ n ∈ xs, okN n) (h : Sy.NodeAt xs (f + 1) i) : i < xs.length ∧ okN (xs.getD i.toNat QNodeV.zero) ∧ xs.drop i.toNat = xs.getD i.toNat QNodeV.zero :: xs.drop (i + 1).toNat ∧
    posI xs i 1 = posI xs (i + 1) (hasI (xs.getD i.toNat QNodeV.zero).kind (xs.getD i.toNat QNodeV.zero).count).toNat ∧ ∃ K, sU (xs.drop (i + 1).toNat) (hasI (xs.getD i.toNat QNodeV.zero).kind (xs.getD i.toNat QNodeV.zero).count).toNat = some K ∧ K ≤ f ∧ (hasI (xs.getD i.toNat QNodeV.zero).kind (xs.getD i.toNat QNodeV.zero).count).toNat ≤ xs.length := by
  obtain ⟨hi, k, hk, hf⟩ := h
  have hle := sU_le _ _ _ hk
  rw [List.length_drop] at hle
  have hlt : i < xs.length := by omega
  have e : (i + 1).toNat = i.toNat + 1 := by omega
  have hd := drop_at xs i.toNat (by omega) QNodeV.zero
  have hn : okN (xs.getD i.toNat QNodeV.zero) := hok _ (by
    rw [List.getD_eq_getElem?_getD, List.getElem?_eq_getElem (by omega)]
    exact List.getElem_mem _)
  have hh : ¬ hasI (xs.getD i.toNat QNodeV.zero).kind (xs.getD i.toNat QNodeV.zero).count < 0 := by
    rw [hn.has]
    unfold okN at hn
    split <;> omega
  rw [e]
  refine ⟨hlt, hn, hd, ?_, ?_⟩
  · rw [posI_one xs i hi hlt, if_neg hh]
  · rw [hd, sU, if_neg hh, Option.map_eq_some_iff] at hk
    obtain ⟨k', h1, h2⟩ := hk
    rw [Nat.zero_add] at h1
    have := sU_le _ _ _ h1
    rw [List.length_drop] at this
    exact ⟨k', h1, by omega, by omega⟩
theorem Sy.node_all (s : ByteArray) (xs : List QNodeV) (ty : Int) (en : ByteArray) (w h : Int) (hx : xs.length ≤ 17592186044416) (hok : ∀ n ∈ xs, okN n) : ∀ f : Nat, NodeHas s xs ty en w h f
  | 0 => fun i ⟨hi, k, hk, hf⟩ => by have := sU_le _ _ _ hk; omega
  | f + 1 => fun i hN => by
    have H := Sy.node_all s xs ty en w h hx hok f
    refine toV [cNot, cAll s xs ty en w h f H, cNode s xs ty en w h f H, cFeat s xs ty en w h] [] 400 30 (.yes (.br (.yes .done) (.br (.yes .done) (.br (.yes .done) (.yes .done))))) (.need (@inR i (xs).length) (.fork (eqI ((xs.getD (i).toNat QNodeV.zero)).kind (1 : Int)) (.need (@isSo (@And ([(@AV.vptr 6 (fun x958941 => ([(@AV.lit (@Value.string s)), (@qview xs), (int ty), (@AV.lit (@Value.string en)), (int w), (int h)].getD x958941 (@AV.lit (@Value.tuple (@Array.mk _ [])))))), (int (w64 (i + (1 : Int)))), (int ((xs.getD (i).toNat QNodeV.zero)).count), (int (1 : Int)), (@AV.fn (@Fn.func 17) [] [])] = [(@AV.vptr 6 (fun x138992 => ([(@AV.lit (@Value.string s)), (@qview xs), (int ty), (@AV.lit (@Value.string en)), (int w), (int h)].getD x138992 (@AV.lit (@Value.tuple (@Array.mk _ [])))))), (int (w64 (i + (1 : Int)))), (int ((xs.getD (i).toNat QNodeV.zero)).count), (int (Int.ofNat 1)), (@AV.fn (@Fn.func 17) [] [])]) (@And ((xs).length ≤ 17592186044416) (@And (∀ (n : QNodeV), n ∈ xs → okN n) (@And (((xs.getD (i).toNat QNodeV.zero)).count ≤ (((xs).length : Nat) : Int)) (@And ((0 : Int) ≤ ((xs.getD (i).toNat QNodeV.zero)).count) (@And ((0 : Int) ≤ (w64 (i + (1 : Int)))) (@Exists _ (fun x312184 => (@And ((@sU (@List.drop _ ((w64 (i + (1 : Int)))).toNat xs) (((xs.getD (i).toNat QNodeV.zero)).count).toNat) = (some x312184)) (x312184 ≤ f))))))))))) (.leaf (@AV.tup [(int (@ES (@phi ty w h) f (@tJ Bool.true) (((xs.getD (i).toNat QNodeV.zero)).count).toNat (Int.ofNat 1) (@List.drop _ ((w64 (i + (1 : Int)))).toNat xs))), (int (@posI xs (w64 (i + (1 : Int))) (((xs.getD (i).toNat QNodeV.zero)).count).toNat))]))) (.fork (eqI ((xs.getD (i).toNat QNodeV.zero)).kind (2 : Int)) (.need (@isSo (@And ([(@AV.vptr 6 (fun x439583 => ([(@AV.lit (@Value.string s)), (@qview xs), (int ty), (@AV.lit (@Value.string en)), (int w), (int h)].getD x439583 (@AV.lit (@Value.tuple (@Array.mk _ [])))))), (int (w64 (i + (1 : Int)))), (int ((xs.getD (i).toNat QNodeV.zero)).count), (int (0 : Int)), (@AV.fn (@Fn.func 19) [] [])] = [(@AV.vptr 6 (fun x218526 => ([(@AV.lit (@Value.string s)), (@qview xs), (int ty), (@AV.lit (@Value.string en)), (int w), (int h)].getD x218526 (@AV.lit (@Value.tuple (@Array.mk _ [])))))), (int (w64 (i + (1 : Int)))), (int ((xs.getD (i).toNat QNodeV.zero)).count), (int (Int.ofNat 0)), (@AV.fn (@Fn.func 19) [] [])]) (@And ((xs).length ≤ 17592186044416) (@And (∀ (n : QNodeV), n ∈ xs → okN n) (@And (((xs.getD (i).toNat QNodeV.zero)).count ≤ (((xs).length : Nat) : Int)) (@And ((0 : Int) ≤ ((xs.getD (i).toNat QNodeV.zero)).count) (@And ((0 : Int) ≤ (w64 (i + (1 : Int)))) (@Exists _ (fun x904650 => (@And ((@sU (@List.drop _ ((w64 (i + (1 : Int)))).toNat xs) (((xs.getD (i).toNat QNodeV.zero)).count).toNat) = (some x904650)) (x904650 ≤ f))))))))))) (.leaf (@AV.tup [(int (@ES (@phi ty w h) f (@tJ Bool.false) (((xs.getD (i).toNat QNodeV.zero)).count).toNat (Int.ofNat 0) (@List.drop _ ((w64 (i + (1 : Int)))).toNat xs))), (int (@posI xs (w64 (i + (1 : Int))) (((xs.getD (i).toNat QNodeV.zero)).count).toNat))]))) (.fork (eqI ((xs.getD (i).toNat QNodeV.zero)).kind (3 : Int)) (.need (@isSo (@And ([(@AV.vptr 6 (fun x92921 => ([(@AV.lit (@Value.string s)), (@qview xs), (int ty), (@AV.lit (@Value.string en)), (int w), (int h)].getD x92921 (@AV.lit (@Value.tuple (@Array.mk _ [])))))), (int (w64 (i + (1 : Int))))] = [(@AV.vptr 6 (fun x105836 => ([(@AV.lit (@Value.string s)), (@qview xs), (int ty), (@AV.lit (@Value.string en)), (int w), (int h)].getD x105836 (@AV.lit (@Value.tuple (@Array.mk _ [])))))), (int (w64 (i + (1 : Int))))]) (@And ((0 : Int) ≤ (w64 (i + (1 : Int)))) (@Exists _ (fun x247643 => (@And ((@sU (@List.drop _ ((w64 (i + (1 : Int)))).toNat xs) 1) = (some x247643)) (x247643 ≤ f))))))) (.leaf (@AV.tup [(int (@tN (@E (@phi ty w h) f (@List.drop _ ((w64 (i + (1 : Int)))).toNat xs)))), (int (@posI xs (w64 (i + (1 : Int))) 1))]))) (.need (@isSo (@And ([(@AV.vptr 6 (fun x626827 => ([(@AV.lit (@Value.string s)), (@qview xs), (int ty), (@AV.lit (@Value.string en)), (int w), (int h)].getD x626827 (@AV.lit (@Value.tuple (@Array.mk _ [])))))), (@AV.agg [(int ((xs.getD (i).toNat QNodeV.zero)).kind), (int ((xs.getD (i).toNat QNodeV.zero)).count), (int ((xs.getD (i).toNat QNodeV.zero)).feat), (int ((xs.getD (i).toNat QNodeV.zero)).lo), (int ((xs.getD (i).toNat QNodeV.zero)).ln), (int ((xs.getD (i).toNat QNodeV.zero)).ld), (int ((xs.getD (i).toNat QNodeV.zero)).ho), (int ((xs.getD (i).toNat QNodeV.zero)).hn), (int ((xs.getD (i).toNat QNodeV.zero)).hd)])] = [(@AV.vptr 6 (fun x115417 => ([(@AV.lit (@Value.string s)), (@qview xs), (int ty), (@AV.lit (@Value.string en)), (int w), (int h)].getD x115417 (@AV.lit (@Value.tuple (@Array.mk _ [])))))), (@qa ((xs.getD (i).toNat QNodeV.zero)).kind ((xs.getD (i).toNat QNodeV.zero)).count ((xs.getD (i).toNat QNodeV.zero)).feat ((xs.getD (i).toNat QNodeV.zero)).lo ((xs.getD (i).toNat QNodeV.zero)).ln ((xs.getD (i).toNat QNodeV.zero)).ld ((xs.getD (i).toNat QNodeV.zero)).ho ((xs.getD (i).toNat QNodeV.zero)).hn ((xs.getD (i).toNat QNodeV.zero)).hd)]) True)) (.leaf (@AV.tup [(int (@phi ty w h (@QNodeV.mk ((xs.getD (i).toNat QNodeV.zero)).kind ((xs.getD (i).toNat QNodeV.zero)).count ((xs.getD (i).toNat QNodeV.zero)).feat ((xs.getD (i).toNat QNodeV.zero)).lo ((xs.getD (i).toNat QNodeV.zero)).ln ((xs.getD (i).toNat QNodeV.zero)).ld ((xs.getD (i).toNat QNodeV.zero)).ho ((xs.getD (i).toNat QNodeV.zero)).hn ((xs.getD (i).toNat QNodeV.zero)).hd))), (int (w64 (i + (1 : Int))))]))))))) (by kernel_rfl) ?_
    have hi := hN.1
    obtain ⟨hlt, hn, hd, hp, K, hK, hKf, hle⟩ := node_parts hok hN
    have hw : w64 (i + 1) = i + 1 := w64_in (by omega)
    have hn0 := hn.has
    have hE := E_cons (phi ty w h) f (xs.getD i.toNat QNodeV.zero) (xs.drop (i + 1).toNat)
    rw [← hd] at hE
    rw [hw]
    unfold okN at hn
    refine need_t (by rw [inR_t]; omega) (fork_ok (fun h1 => ?_) (fun h1 => fork_ok (fun h2 => ?_) (fun h2 => fork_ok (fun h3 => ?_) (fun h3 => ?_))))
    · simp only [Bool.not_eq_true', Bool.not_eq_false', leI_t, leI_f, eqI_t, eqI_f, inR_t, inR_f, isSo_t, isSo_f] at h1
      rw [if_neg (by omega)] at hn0
      rw [hn0] at hK hle hp
      rw [if_pos h1] at hE
      rw [hE, hp]
      exact need_so ⟨rfl, hx, hok, by omega, by omega, by omega, K, hK, hKf⟩ rfl
    · simp only [Bool.not_eq_true', Bool.not_eq_false', leI_t, leI_f, eqI_t, eqI_f, inR_t, inR_f, isSo_t, isSo_f] at h1
      simp only [Bool.not_eq_true', Bool.not_eq_false', leI_t, leI_f, eqI_t, eqI_f, inR_t, inR_f, isSo_t, isSo_f] at h2
      rw [if_neg (by omega)] at hn0
      rw [hn0] at hK hle hp
      rw [if_neg h1, if_pos h2] at hE
      rw [hE, hp]
      exact need_so ⟨rfl, hx, hok, by omega, by omega, by omega, K, hK, hKf⟩ rfl
    · simp only [Bool.not_eq_true', Bool.not_eq_false', leI_t, leI_f, eqI_t, eqI_f, inR_t, inR_f, isSo_t, isSo_f] at h1
      simp only [Bool.not_eq_true', Bool.not_eq_false', leI_t, leI_f, eqI_t, eqI_f, inR_t, inR_f, isSo_t, isSo_f] at h2
      simp only [Bool.not_eq_true', Bool.not_eq_false', leI_t, leI_f, eqI_t, eqI_f, inR_t, inR_f, isSo_t, isSo_f] at h3
      have hc : (xs.getD i.toNat QNodeV.zero).count = 1 := by omega
      rw [if_neg (by omega)] at hn0
      rw [hn0, hc] at hK hle hp
      rw [if_neg h1, if_neg h2, if_pos h3] at hE
      obtain ⟨t, ht⟩ := ev_ex (phi ty w h) f (xs.drop (i + 1).toNat) K (fun n hn => hok n (List.mem_of_mem_drop hn)) hK hKf
      rw [ht] at hE
      have he : E (phi ty w h) f (xs.drop (i + 1).toNat) = t := by unfold E; rw [ht]; rfl
      rw [hE, hp]
      refine need_so ⟨rfl, by omega, K, hK, hKf⟩ ?_
      rw [he]
      exact rfl
    · simp only [Bool.not_eq_true', Bool.not_eq_false', leI_t, leI_f, eqI_t, eqI_f, inR_t, inR_f, isSo_t, isSo_f] at h1
      simp only [Bool.not_eq_true', Bool.not_eq_false', leI_t, leI_f, eqI_t, eqI_f, inR_t, inR_f, isSo_t, isSo_f] at h2
      simp only [Bool.not_eq_true', Bool.not_eq_false', leI_t, leI_f, eqI_t, eqI_f, inR_t, inR_f, isSo_t, isSo_f] at h3
      rw [if_pos (by omega)] at hn0
      rw [hn0, show (0 : Int).toNat = 0 from rfl, posI_zero] at hp
      rw [if_neg h1, if_neg h2, if_neg h3] at hE
      rw [hE, hp]
      exact need_so ⟨rfl, trivial⟩ rfl
end Go.Proofs.Ytjljlcflmcjapaa
