/-
  Layer 14's law TruthTurned.
-/
import Derived.Test.YtjljlcflmcjapaaTruthX
import Derived.Test.YtjljlcflmcjapaaSyM
namespace Go.Proofs.Ytjljlcflmcjapaa
open Go Go.RowKit Pl Sy
set_option linter.unusedVariables false
set_option linter.unusedSimpArgs false

/-- a Not around a query -/
def notN : QNodeV := ⟨3, 1, 0, 0, 0, 0, 0, 0, 0⟩
noncomputable abbrev Sy.cEvalM (s : ByteArray) (xs : List QNodeV) (ty : Int) (en : ByteArray) (w h : Int) : Con Try.prog := atM 22 (fun args M => match args with | [.agg [_, .own _ _ _], _] => some true | [.agg [_, .view _ _ _], _] => some false | _ => none) (fun x => match x with | true => [Sy.query s (notN :: xs), ext ty en w h] | false => [Sy.query s xs, ext ty en w h]) (fun x => match x with | true => int (evalQ s (notN :: xs) ty w h) | false => int (evalQ s xs ty w h)) (fun _ => s.size ≤ maxLen ∧ xs.length ≤ 17592186044415) fun x hC => by
  cases x
  · exact ⟨⟨_, rfl⟩, eval_t s xs ty en w h hC.1 (by omega)⟩
  · exact ⟨⟨_, rfl⟩, eval_t s (notN :: xs) ty en w h hC.1 (by simp only [List.length_cons]; omega)⟩
/-sy turn_t
fun (s : ByteArray) (xs : List QNodeV) (ty : Int) (en : ByteArray) (w h : Int) (d : D) => reckV [cKnown14, cEvalM s xs ty en w h, cRightR s xs, cNot] [] 400 30 8 [Sy.query s xs, ext ty en w h] M0 d
-/
theorem evalQ_not (s : ByteArray) (xs : List QNodeV) (ty w h : Int) (hr : rightQ s xs = true) (hl : xs.length ≤ 31) : evalQ s (notN :: xs) ty w h = tN (evalQ s xs ty w h) := by
  obtain ⟨h1, h2, h3, h4⟩ := rightQ_parts hr
  have hok : ∀ n ∈ xs, okN n := fun n hn => right_ok (h4 n hn)
  have hn : rightV notN.kind notN.count notN.feat notN.lo notN.ln notN.ld notN.ho notN.hn notN.hd = true := by decide
  have hs3 : sU (notN :: xs) 1 = some (xs.length + 1) := by
    rw [sU]
    have : hasI notN.kind notN.count = 1 := by decide
    rw [this, if_neg (by omega), show 0 + (1 : Int).toNat = 1 from rfl, h3]; rfl
  have hr2 : rightQ s (notN :: xs) = true := by
    unfold rightQ at hr ⊢
    simp only [Bool.and_eq_true, decide_eq_true_eq, Bool.not_eq_true'] at hr ⊢
    obtain ⟨q1, q2, q3, q4⟩ := hr
    refine ⟨q1, ⟨by simp, by simp only [List.length_cons]; omega⟩, ?_, ?_⟩
    · rw [spanI_eq, if_neg (by omega)]
      unfold posI
      rw [show (0 : Int).toNat = 0 from rfl, List.drop_zero, hs3]
      simp
    · rw [wrongL, if_pos hn]
      cases hw : wrongL xs with
      | none => rfl
      | some k => rw [hw] at q4; cases q4
  unfold evalQ
  rw [if_pos hr, if_pos hr2, E_not (phi ty w h) 31 notN xs xs.length rfl hok h3 hl]
  obtain ⟨t, ht⟩ := ev_ex (phi ty w h) 31 xs xs.length hok h3 hl
  obtain ⟨u, hu⟩ := ev_ex (phi ty w h) 32 xs xs.length hok h3 h1
  have key : ∀ (f g : Nat) (l : List QNodeV) (k : Nat), (∀ n ∈ l, okN n) → sU l 1 = some k → k ≤ f → k ≤ g → E (phi ty w h) f l = E (phi ty w h) g l := by
    intro f
    induction f with
    | zero => intro g l k _ hk hf; have := sU_le _ _ _ hk; omega
    | succ f ih =>
      intro g l k hl hk hf hg
      have hle := sU_le _ _ _ hk
      obtain ⟨g, rfl⟩ : ∃ g', g = g' + 1 := ⟨g - 1, by omega⟩
      cases l with
      | nil => simp at hle; omega
      | cons n l =>
        have hn := hl n (List.mem_cons_self ..)
        have hl' : ∀ x ∈ l, okN x := fun x hx => hl x (List.mem_cons_of_mem _ hx)
        have hh := hn.has
        rw [sU] at hk
        have hneg : ¬ hasI n.kind n.count < 0 := fun e => by rw [if_pos e] at hk; cases hk
        rw [if_neg hneg, Option.map_eq_some_iff] at hk
        obtain ⟨k', hk, rfl⟩ := hk
        rw [Nat.zero_add] at hk
        have hES : ∀ (j : Int → Int → Int) (c : Nat) (acc : Int) (l : List QNodeV) (k : Nat), (∀ n ∈ l, okN n) → sU l c = some k → k ≤ f → k ≤ g → ES (phi ty w h) f j c acc l = ES (phi ty w h) g j c acc l := by
          intro j c
          induction c with
          | zero => intro acc l k _ _ _ _; rfl
          | succ c ihc =>
            intro acc l k hl hk hf hg
            rw [show c + 1 = 1 + c by omega, sU_add, Option.bind_eq_some_iff] at hk
            obtain ⟨k1, h1, h2⟩ := hk
            rw [Option.map_eq_some_iff] at h2
            obtain ⟨k2, h2, h3⟩ := h2
            rw [ES_succ _ _ _ _ _ _ k1 hl h1 (by omega), ES_succ _ _ _ _ _ _ k1 hl h1 (by omega), ih g l k1 hl h1 (by omega) (by omega)]
            exact ihc _ _ k2 (fun n hn => hl n (List.mem_of_mem_drop hn)) h2 (by omega) (by omega)
        unfold okN at hn
        rcases hn with h4 | ⟨h5, h6⟩ | ⟨h7, h8⟩
        · rw [E_cons, E_cons, if_neg (by omega), if_neg (by omega), if_neg (by omega), if_neg (by omega), if_neg (by omega), if_neg (by omega)]
        · rw [hh, if_neg (by omega), show n.count.toNat = 1 by omega] at hk
          rw [E_not _ _ _ _ k' h5 hl' hk (by omega), E_not _ _ _ _ k' h5 hl' hk (by omega), ih g l k' hl' hk (by omega) (by omega)]
        · rw [hh, if_neg (by omega)] at hk
          rw [E_cons, E_cons]
          by_cases h9 : n.kind = 1
          · rw [if_pos h9, if_pos h9]; exact hES _ _ _ _ k' hl' hk (by omega) (by omega)
          · rw [if_neg h9, if_neg h9, if_pos (by omega), if_pos (by omega)]; exact hES _ _ _ _ k' hl' hk (by omega) (by omega)
  rw [key 31 32 xs xs.length hok h3 hl h1]
theorem Sy.conv_not {M : Mem} {b e : Nat} (xs : List QNodeV) (cs : List AV) (hcs : cs = [int 3, int 1, int 0, int 0, int 0, int 0, int 0, int 0, int 0]) (hb : M.get b = some ⟨[], e, some ⟨1 + xs.length, 9, appc 1 (fun i j => getA cs (i * 9 + j)) (fun i j => .lit ((QNodeV.cells (xs.getD i QNodeV.zero)).getD j undef))⟩⟩) : Conv1 M (.own b (1 + xs.length) 9) (qview (notN :: xs)) := by
  have e1 : (notN :: xs).length = 1 + xs.length := by simp only [List.length_cons]; omega
  show Conv1 M (.own b (1 + xs.length) 9) (.view (notN :: xs).length 9 (fun i j => .lit ((QNodeV.cells ((notN :: xs).getD i QNodeV.zero)).getD j undef)))
  rw [e1]
  refine Conv1.own hb rfl (Nat.le_refl _) rfl fun i j hi hj => ?_
  simp only
  cases i with
  | zero =>
    rw [appc_lt (by omega), hcs]
    have : j = 0 ∨ j = 1 ∨ j = 2 ∨ j = 3 ∨ j = 4 ∨ j = 5 ∨ j = 6 ∨ j = 7 ∨ j = 8 := by omega
    rcases this with rfl | rfl | rfl | rfl | rfl | rfl | rfl | rfl | rfl <;> exact ⟨trivial, rfl⟩
  | succ i =>
    rw [appc_ge (by omega)]
    exact ⟨trivial, rfl⟩
theorem Sy.turn_t (s : ByteArray) (xs : List QNodeV) (ty : Int) (en : ByteArray) (w h : Int) (hs : s.size ≤ maxLen) (hx : xs.length ≤ 17592186044416) : CallTo Try.prog 8 [Sy.query s xs, ext ty en w h] M0 fun v _ => v = boo true :=
  toV [cKnown14, cEvalM s xs ty en w h, cRightR s xs, cNot] [] 400 30 (.yes (.br (.auto 3 (.br (.yes .done) (.yes (.yes (.yes (.br (.yes (.auto 0 .done)) (.auto 0 .done))))))) (.auto 4 (.yes .done)))) (.need (@isSo (@And ([(@AV.agg [(@AV.lit (@Value.string s)), (@qview xs)])] = [(@query s xs)]) (@And ((@ByteArray.size s) ≤ 9223372036854775807) ((xs).length ≤ 17592186044416)))) (.fork (!(!(@rightQ s xs))) (.fork (!(leI (((xs).length : Nat) : Int) (31 : Int))) (.need (@isSo (@And (([] : List AV) = []) True)) (.leaf (boo true))) (.need (Bool.true && ((@Nat.ble 1 1) && ((@Nat.ble ((1 + (xs).length) * 72) 140737488355328) && (@Nat.ble (1 + (xs).length) 17592186044416)))) (.need (@isSo (@And (@Conv (@Mem.mk (((((0 + 1) + 1) + 1) + 1) + 1) ((((0 + 1) + 1) + 1) + 1) ((some (@Blk.mk [] 39 (some (@Rw.mk (1 + (xs).length) 9 (@appc 1 (fun x673909 => (fun x121837 => (@getA [(int (3 : Int)), (int (1 : Int)), (int (0 : Int)), (int (0 : Int)), (int (0 : Int)), (int (0 : Int)), (int (0 : Int)), (int (0 : Int)), (int (0 : Int))] ((x673909 * 9) + x121837)))) (fun x788304 => (fun x570695 => (@AV.lit ([(@Value.int IntKind.i64 ((xs.getD x788304 QNodeV.zero)).kind), (@Value.int IntKind.i64 ((xs.getD x788304 QNodeV.zero)).count), (@Value.int IntKind.i64 ((xs.getD x788304 QNodeV.zero)).feat), (@Value.int IntKind.i64 ((xs.getD x788304 QNodeV.zero)).lo), (@Value.int IntKind.i64 ((xs.getD x788304 QNodeV.zero)).ln), (@Value.int IntKind.i64 ((xs.getD x788304 QNodeV.zero)).ld), (@Value.int IntKind.i64 ((xs.getD x788304 QNodeV.zero)).ho), (@Value.int IntKind.i64 ((xs.getD x788304 QNodeV.zero)).hn), (@Value.int IntKind.i64 ((xs.getD x788304 QNodeV.zero)).hd)].getD x570695 (@Value.tuple (@Array.mk _ []))))))))))) :: [(some (@Blk.mk ((@AV.lit (@Value.string s)) :: (@AV.own ((((0 + 1) + 1) + 1) + 1) (1 + (xs).length) 9) :: (@List.drop _ (1 + ([(@AV.own ((((0 + 1) + 1) + 1) + 1) (1 + (xs).length) 9)]).length) ((@AV.lit (@Value.string s)) :: (@AV.sl ((0 + 1) + 1) 0 1 (some 1) 9) :: []))) 29 none)), none, (some (@Blk.mk [(int ty), (@AV.lit (@Value.string en)), (int w), (int h)] 31 none)), (some (@Blk.mk [(@AV.lit (@Value.string s)), (@qview xs)] 29 none))])) [(@AV.agg (@List.take _ 2 ((@AV.lit (@Value.string s)) :: (@AV.own ((((0 + 1) + 1) + 1) + 1) (1 + (xs).length) 9) :: (@List.drop _ (1 + ([(@AV.own ((((0 + 1) + 1) + 1) + 1) (1 + (xs).length) 9)]).length) ((@AV.lit (@Value.string s)) :: (@AV.sl ((0 + 1) + 1) 0 1 (some 1) 9) :: []))))), (@AV.agg [(int ty), (@AV.lit (@Value.string en)), (int w), (int h)])] [(@query s (notN :: xs)), (@AV.agg [(int ty), (@AV.lit (@Value.string en)), (int w), (int h)])]) (@And ((@ByteArray.size s) ≤ 9223372036854775807) ((xs).length ≤ 17592186044415)))) (.need (@isSo (@And (@Conv (@Mem.mk (((((0 + 1) + 1) + 1) + 1) + 1) ((((0 + 1) + 1) + 1) + 1) ((some (@Blk.mk [] 39 (some (@Rw.mk (1 + (xs).length) 9 (@appc 1 (fun x999299 => (fun x790946 => (@getA [(int (3 : Int)), (int (1 : Int)), (int (0 : Int)), (int (0 : Int)), (int (0 : Int)), (int (0 : Int)), (int (0 : Int)), (int (0 : Int)), (int (0 : Int))] ((x999299 * 9) + x790946)))) (fun x56358 => (fun x523793 => (@AV.lit ([(@Value.int IntKind.i64 ((xs.getD x56358 QNodeV.zero)).kind), (@Value.int IntKind.i64 ((xs.getD x56358 QNodeV.zero)).count), (@Value.int IntKind.i64 ((xs.getD x56358 QNodeV.zero)).feat), (@Value.int IntKind.i64 ((xs.getD x56358 QNodeV.zero)).lo), (@Value.int IntKind.i64 ((xs.getD x56358 QNodeV.zero)).ln), (@Value.int IntKind.i64 ((xs.getD x56358 QNodeV.zero)).ld), (@Value.int IntKind.i64 ((xs.getD x56358 QNodeV.zero)).ho), (@Value.int IntKind.i64 ((xs.getD x56358 QNodeV.zero)).hn), (@Value.int IntKind.i64 ((xs.getD x56358 QNodeV.zero)).hd)].getD x523793 (@Value.tuple (@Array.mk _ []))))))))))) :: [(some (@Blk.mk ((@AV.lit (@Value.string s)) :: (@AV.own ((((0 + 1) + 1) + 1) + 1) (1 + (xs).length) 9) :: (@List.drop _ (1 + ([(@AV.own ((((0 + 1) + 1) + 1) + 1) (1 + (xs).length) 9)]).length) ((@AV.lit (@Value.string s)) :: (@AV.sl ((0 + 1) + 1) 0 1 (some 1) 9) :: []))) 29 none)), none, (some (@Blk.mk [(int ty), (@AV.lit (@Value.string en)), (int w), (int h)] 31 none)), (some (@Blk.mk [(@AV.lit (@Value.string s)), (@qview xs)] 29 none))])) [(@AV.agg [(@AV.lit (@Value.string s)), (@qview xs)]), (@AV.agg [(int ty), (@AV.lit (@Value.string en)), (int w), (int h)])] [(@query s xs), (@AV.agg [(int ty), (@AV.lit (@Value.string en)), (int w), (int h)])]) (@And ((@ByteArray.size s) ≤ 9223372036854775807) ((xs).length ≤ 17592186044415)))) (.fork (eqI (@evalQ s (notN :: xs) ty w h) (@tN (@evalQ s xs ty w h))) (.need (@isSo (@And (([] : List AV) = []) True)) (.leaf (boo true))) (.leaf (boo false))))))) (.need (@isSo (@And (([] : List AV) = []) True)) (.leaf (boo true))))) (by kernel_rfl) (by
    refine need_so ⟨rfl, hs, hx⟩ (fork_ok (fun h1 => fork_ok (fun h2 => need_so ⟨rfl, trivial⟩ rfl) (fun h2 => need_t ?_ (need_so ⟨?_, hs, ?_⟩ (need_so ⟨?_, hs, ?_⟩ ?_)))) (fun h1 => need_so ⟨rfl, trivial⟩ rfl))
    · simp only [Bool.not_eq_true', Bool.not_eq_false', leI_t, leI_f, eqI_t, eqI_f, inR_t, inR_f, isSo_t, isSo_f] at h2
      simp [Nat.ble_eq]
      omega
    · exact Conv.cons (Conv1.agg (Conv.cons (Conv1.lit _ _) (Conv.cons (Sy.conv_not xs _ rfl rfl) (Conv.nil _)))) (Conv.cons (Conv1.free _ (v := ext ty en w h) ⟨trivial, trivial, trivial, trivial, trivial⟩) (Conv.nil _))
    · simp only [Bool.not_eq_true', Bool.not_eq_false', leI_t, leI_f, eqI_t, eqI_f, inR_t, inR_f, isSo_t, isSo_f] at h2
      omega
    · exact Conv.cons (Conv1.free _ (v := Sy.query s xs) ⟨trivial, viewOf_free QNodeV.cells QNodeV.zero 9 xs, trivial⟩) (Conv.cons (Conv1.free _ (v := ext ty en w h) ⟨trivial, trivial, trivial, trivial, trivial⟩) (Conv.nil _))
    · simp only [Bool.not_eq_true', Bool.not_eq_false', leI_t, leI_f, eqI_t, eqI_f, inR_t, inR_f, isSo_t, isSo_f] at h2
      omega
    · simp only [Bool.not_eq_true', Bool.not_eq_false', leI_t, leI_f, eqI_t, eqI_f, inR_t, inR_f, isSo_t, isSo_f] at h2
      have e := evalQ_not s xs ty w h (by simpa using h1) (by omega)
      refine fork_ok (fun _ => need_so ⟨rfl, trivial⟩ rfl) (fun h3 => ?_)
      rw [e] at h3
      simp only [Bool.not_eq_true', Bool.not_eq_false', leI_t, leI_f, eqI_t, eqI_f, inR_t, inR_f, isSo_t, isSo_f] at h3
      exact absurd trivial h3)
theorem turn_walk {s : ByteArray} {a : Option Addr} {cap : Nat} {xs : List QNodeV} {W : World} (hs : s.size ≤ maxLen) (hq : Rows QNodeV.cells 9 W a cap xs) (ty : Int) (en : ByteArray) (w h : Int) :
    Calls Try.prog 8 #[.agg #[.string s, .slice a xs.length cap], .agg #[.int .i64 ty, .string en, .int .i64 w, .int .i64 h]] W fun e w' => e = .returned (.bool true) ∧ Below W.heap.size W w' :=
  Sy.law_true (Sy.turn_t s xs ty en w h hs hq.sm) (us := [_, _]) ⟨_, _, rfl, rel_query hq, _, _, rfl, rel_ext W ty en w h, rfl⟩
end Go.Proofs.Ytjljlcflmcjapaa
