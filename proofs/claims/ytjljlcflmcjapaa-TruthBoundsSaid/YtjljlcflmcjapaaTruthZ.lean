/-
  Layer 14's law TruthBounds.
-/
import Derived.Test.YtjljlcflmcjapaaTruthX
import Derived.Test.YtjljlcflmcjapaaSyM
namespace Go.Proofs.Ytjljlcflmcjapaa
open Go Go.RowKit Pl Sy
set_option linter.unusedVariables false
set_option linter.unusedSimpArgs false

/-- a node that lies in a block -/
noncomputable def Sy.nodeIn (M : Mem) (b : Nat) : Option QNodeV := match M.get b with
  | some B => match intsA B.cells with
    | some [k, c, f, lo, ln, ld, ho, hn, hd] => some ⟨k, c, f, lo, ln, ld, ho, hn, hd⟩
    | _ => none
  | none => none
abbrev Sy.noS : ByteArray := ⟨#[]⟩
noncomputable abbrev Sy.cEvalN (ty : Int) (en : ByteArray) (w h : Int) : Con Try.prog := atM 22 (fun args M => match args with | [.agg [_, .sl b _ _ _ _], _] => nodeIn M b | _ => none) (fun n => [Sy.query noS [n], ext ty en w h]) (fun n => int (evalQ noS [n] ty w h)) (fun _ => True) fun n _ => ⟨⟨_, rfl⟩, eval_t noS [n] ty en w h (by decide) (by simp)⟩
noncomputable abbrev Sy.cRightN : Con Try.prog := atM 24 (fun args M => match args with | [.agg [_, .sl b _ _ _ _]] => nodeIn M b | _ => none) (fun n => [Sy.query noS [n]]) (fun n => boo (rightQ noS [n])) (fun _ => True) fun n _ => ⟨⟨_, rfl⟩, right_ref noS [n] (by decide) (by simp)⟩
/-sy bounds_t
fun (k c f lo ln ld ho hn hd ty : Int) (en : ByteArray) (w h : Int) (d : D) => reckV [cKnown14, cEvalN ty en w h, cRightN, cAnd] [] 400 30 7 [qa k c f lo ln ld ho hn hd, ext ty en w h] M0 d
-/
theorem Sy.conv_one {M : Mem} {b e : Nat} {cp : Option Nat} {R : Option Rw} (n : QNodeV) (cs : List AV) (hcs : cs = [int n.kind, int n.count, int n.feat, int n.lo, int n.ln, int n.ld, int n.ho, int n.hn, int n.hd]) (hb : M.get b = some ⟨cs, e, R⟩) : Conv1 M (.sl b 0 1 cp 9) (qview [n]) :=
  Conv1.sl hb fun i j hi hj => by
    have : i = 0 := by omega
    subst this
    simp only
    rw [hcs]
    have : j = 0 ∨ j = 1 ∨ j = 2 ∨ j = 3 ∨ j = 4 ∨ j = 5 ∨ j = 6 ∨ j = 7 ∨ j = 8 := by omega
    rcases this with rfl | rfl | rfl | rfl | rfl | rfl | rfl | rfl | rfl <;> exact ⟨_, rfl, trivial, rfl, rfl⟩
/-- a query of one feature -/
theorem rightQ_one (n : QNodeV) (hk : n.kind = 4) : rightQ Sy.noS [n] = rightV n.kind n.count n.feat n.lo n.ln n.ld n.ho n.hn n.hd := by
  unfold rightQ
  have e1 : bytesEq Sy.noS.data.toList [] = true := by decide
  have e2 : spanI [n] 0 = 1 := by
    rw [spanI_eq, if_neg (by omega)]
    unfold posI
    rw [show (0 : Int).toNat = 0 from rfl, List.drop_zero]
    have : hasI n.kind n.count = 0 := by unfold hasI; rw [if_neg (by omega), if_neg (by omega), if_pos hk]
    rw [sU, this, if_neg (by omega)]
    rfl
  rw [e1, e2]
  unfold wrongL
  cases rightV n.kind n.count n.feat n.lo n.ln n.ld n.ho n.hn n.hd <;> simp [wrongL]
theorem evalQ_one (n : QNodeV) (hk : n.kind = 4) (ty w h : Int) : evalQ Sy.noS [n] ty w h = if rightV n.kind n.count n.feat n.lo n.ln n.ld n.ho n.hn n.hd = true then phi ty w h n else 2 := by
  have e : E (phi ty w h) 32 [n] = phi ty w h n := by rw [E_cons, if_neg (by omega), if_neg (by omega), if_neg (by omega)]
  unfold evalQ
  rw [rightQ_one n hk, e]
theorem holdsV_turn (x lo : Int) (h : lo = 1 ∨ lo = 2 ∨ lo = 4 ∨ lo = 5) : holdsV (-x) lo = holdsV x (6 - lo) := by
  unfold holdsV
  rw [Bool.eq_iff_iff]
  simp only [decide_eq_true_eq]
  rcases h with rfl | rfl | rfl | rfl <;> simp <;> omega
theorem bounds_plain (c f lo ln ld ho hn hd ty w h : Int) (hr : rightV 4 c f lo ln ld ho hn hd = true) (hlo : lo ≠ 0) :
    w64 (6 - lo) = 6 - lo ∧ evalQ Sy.noS [⟨4, c, f, lo, ln, ld, ho, hn, hd⟩] ty w h = tA (evalQ Sy.noS [⟨4, c, f, 0, 0, 0, ho, hn, hd⟩] ty w h) (evalQ Sy.noS [⟨4, c, f, 0, 0, 0, 6 - lo, ln, ld⟩] ty w h) := by
  have hr0 := hr
  unfold rightV at hr
  simp only [decide_eq_true_eq] at hr
  rcases hr with ⟨_, hc, hf1, hf2, hr⟩ | ⟨hr, _⟩
  · unfold fitsV at hr
    simp only [decide_eq_true_eq] at hr
    rcases hr with hr | ⟨h1, h2, h3, h4, hr⟩
    · omega
    · rcases hr with hr | ⟨h5, h6, h7⟩
      · omega
      · have hl : lo = 1 ∨ lo = 2 ∨ lo = 4 ∨ lo = 5 := by omega
        refine ⟨w64_in (by omega), ?_⟩
        have ra : rightV 4 c f 0 0 0 ho hn hd = true := by
          unfold rightV
          simp only [decide_eq_true_eq]
          refine .inl ⟨trivial, hc, hf1, hf2, ?_⟩
          unfold fitsV
          simp only [decide_eq_true_eq]
          exact .inr ⟨h1, h2, h3, h4, .inl ⟨trivial, trivial, trivial⟩⟩
        have hv : valOk f (6 - lo) ln ld = true := by
          unfold valOk at h7 ⊢
          simp only [decide_eq_true_eq] at h7 ⊢
          rcases h7 with h7 | h7 | h7
          · exact .inl h7
          · omega
          · exact .inr (.inr h7)
        have rb : rightV 4 c f 0 0 0 (6 - lo) ln ld = true := by
          unfold rightV
          simp only [decide_eq_true_eq]
          refine .inl ⟨trivial, hc, hf1, hf2, ?_⟩
          unfold fitsV
          simp only [decide_eq_true_eq]
          exact .inr ⟨by omega, by omega, by omega, hv, .inl ⟨trivial, trivial, trivial⟩⟩
        rw [evalQ_one _ rfl, evalQ_one _ rfl, evalQ_one _ rfl]
        simp only
        rw [if_pos hr0, if_pos ra, if_pos rb]
        unfold phi featT
        simp only
        by_cases hty : ty = 2 ∨ (ty = 1 ∧ (f = 1 ∨ f = 3))
        · have n1 : ¬ ¬ (ty = 2 ∨ (ty = 1 ∧ (f = 1 ∨ f = 3))) := fun hh => hh hty
          rw [if_neg n1, if_neg n1, if_neg n1, if_neg (show ¬ ho = 0 by omega), if_neg (show ¬ ho = 0 by omega), if_neg (show ¬ (6 - lo) = 0 by omega), if_neg h6, if_neg h6, if_neg h6, if_pos (show 0 < lo by omega), if_neg (show ¬ (0 : Int) < 0 by omega), if_neg (show ¬ (0 : Int) < 0 by omega), holdsV_turn _ _ hl]
          cases holdsV (cmpB w h f hn hd) ho <;> cases holdsV (cmpB w h f ln ld) (6 - lo) <;> rfl
        · rw [if_pos hty, if_pos hty, if_pos hty]; rfl
  · exact absurd rfl hr
theorem Sy.bounds_t (k c f lo ln ld ho hn hd ty : Int) (en : ByteArray) (w h : Int) : CallTo Try.prog 7 [qa k c f lo ln ld ho hn hd, ext ty en w h] M0 fun v _ => v = boo true :=
  toV [cKnown14, cEvalN ty en w h, cRightN, cAnd] [] 400 30 (.yes (.br (.auto 3 (.br (.yes .done) (.yes (.yes (.yes (.br (.yes (.auto 0 .done)) (.auto 0 .done))))))) (.auto 4 (.yes .done)))) (.need (@isSo (@And (@Conv (@Mem.mk ((((0 + 1) + 1) + 1) + 1) ((0 + 1) + 1) ((some (@Blk.mk [(@AV.lit (@Value.string (@ByteArray.mk (@Array.mk _ [])))), (@AV.sl ((0 + 1) + 1) 0 1 (some 1) 9)] 29 none)) :: (some (@Blk.mk [(int (4 : Int)), (int c), (int f), (int lo), (int ln), (int ld), (int ho), (int hn), (int hd)] 39 none)) :: [(some (@Blk.mk [(int ty), (@AV.lit (@Value.string en)), (int w), (int h)] 31 none)), (some (@Blk.mk [(int (4 : Int)), (int c), (int f), (int lo), (int ln), (int ld), (int ho), (int hn), (int hd)] 39 none))])) [(@AV.agg [(@AV.lit (@Value.string (@ByteArray.mk (@Array.mk _ [])))), (@AV.sl ((0 + 1) + 1) 0 1 (some 1) 9)])] [(@query noS [(@QNodeV.mk (4 : Int) c f lo ln ld ho hn hd)])]) True)) (.fork (!(!(@rightQ noS [(@QNodeV.mk (4 : Int) c f lo ln ld ho hn hd)]))) (.fork (eqI lo (0 : Int)) (.need (@isSo (@And (([] : List AV) = []) True)) (.leaf (boo true))) (.need (@isSo (@And (@Conv (@Mem.mk (((((((0 + 1) + 1) + 1) + 1) + 1) + 1) + 1) (((((((0 + 1) + 1) + 1) + 1) + 1) + 1) + 1) ((some (@Blk.mk [(int (4 : Int)), (int c), (int f), (int (0 : Int)), (int (0 : Int)), (int (0 : Int)), (int ho), (int hn), (int hd)] 39 none)) :: ((some (@Blk.mk ((int (4 : Int)) :: (int c) :: (int f) :: (int (0 : Int)) :: (int (0 : Int)) :: (int (0 : Int)) :: ((int (w64 ((6 : Int) - lo))) :: ((int ln) :: ((int ld) :: [])))) 39 none)) :: (some (@Blk.mk [(int (4 : Int)), (int c), (int f), (int (0 : Int)), (int (0 : Int)), (int (0 : Int)), (int ho), (int hn), (int hd)] 39 none)) :: ((some (@Blk.mk [(@AV.lit (@Value.string (@ByteArray.mk (@Array.mk _ [])))), (@AV.sl ((0 + 1) + 1) 0 1 (some 1) 9)] 29 none)) :: (some (@Blk.mk [(int (4 : Int)), (int c), (int f), (int lo), (int ln), (int ld), (int ho), (int hn), (int hd)] 39 none)) :: [(some (@Blk.mk [(int ty), (@AV.lit (@Value.string en)), (int w), (int h)] 31 none)), (some (@Blk.mk [(int (4 : Int)), (int c), (int f), (int lo), (int ln), (int ld), (int ho), (int hn), (int hd)] 39 none))])))) [(@AV.agg [(@AV.lit (@Value.string (@ByteArray.mk (@Array.mk _ [])))), (@AV.sl ((((((0 + 1) + 1) + 1) + 1) + 1) + 1) 0 1 (some 1) 9)]), (@AV.agg [(int ty), (@AV.lit (@Value.string en)), (int w), (int h)])] [(@query noS [(@QNodeV.mk (4 : Int) c f (0 : Int) (0 : Int) (0 : Int) ho hn hd)]), (@AV.agg [(int ty), (@AV.lit (@Value.string en)), (int w), (int h)])]) True)) (.need (@isSo (@And (@Conv (@Mem.mk ((((((((0 + 1) + 1) + 1) + 1) + 1) + 1) + 1) + 1) (((((((0 + 1) + 1) + 1) + 1) + 1) + 1) + 1) ((some (@Blk.mk ((int (4 : Int)) :: (int c) :: (int f) :: (int (0 : Int)) :: (int (0 : Int)) :: (int (0 : Int)) :: ((int (w64 ((6 : Int) - lo))) :: ((int ln) :: [(int ld)]))) 39 none)) :: (some (@Blk.mk [(int (4 : Int)), (int c), (int f), (int (0 : Int)), (int (0 : Int)), (int (0 : Int)), (int ho), (int hn), (int hd)] 39 none)) :: ((some (@Blk.mk ((int (4 : Int)) :: (int c) :: (int f) :: (int (0 : Int)) :: (int (0 : Int)) :: (int (0 : Int)) :: ((int (w64 ((6 : Int) - lo))) :: ((int ln) :: ((int ld) :: [])))) 39 none)) :: (some (@Blk.mk [(int (4 : Int)), (int c), (int f), (int (0 : Int)), (int (0 : Int)), (int (0 : Int)), (int ho), (int hn), (int hd)] 39 none)) :: ((some (@Blk.mk [(@AV.lit (@Value.string (@ByteArray.mk (@Array.mk _ [])))), (@AV.sl ((0 + 1) + 1) 0 1 (some 1) 9)] 29 none)) :: (some (@Blk.mk [(int (4 : Int)), (int c), (int f), (int lo), (int ln), (int ld), (int ho), (int hn), (int hd)] 39 none)) :: [(some (@Blk.mk [(int ty), (@AV.lit (@Value.string en)), (int w), (int h)] 31 none)), (some (@Blk.mk [(int (4 : Int)), (int c), (int f), (int lo), (int ln), (int ld), (int ho), (int hn), (int hd)] 39 none))])))) [(@AV.agg [(@AV.lit (@Value.string (@ByteArray.mk (@Array.mk _ [])))), (@AV.sl (((((((0 + 1) + 1) + 1) + 1) + 1) + 1) + 1) 0 1 (some 1) 9)]), (@AV.agg [(int ty), (@AV.lit (@Value.string en)), (int w), (int h)])] [(@query noS [(@QNodeV.mk (4 : Int) c f (0 : Int) (0 : Int) (0 : Int) (w64 ((6 : Int) - lo)) ln ld)]), (@AV.agg [(int ty), (@AV.lit (@Value.string en)), (int w), (int h)])]) True)) (.need (@isSo (@And (@Conv (@Mem.mk ((((((((0 + 1) + 1) + 1) + 1) + 1) + 1) + 1) + 1) (((((((0 + 1) + 1) + 1) + 1) + 1) + 1) + 1) ((some (@Blk.mk ((int (4 : Int)) :: (int c) :: (int f) :: (int (0 : Int)) :: (int (0 : Int)) :: (int (0 : Int)) :: ((int (w64 ((6 : Int) - lo))) :: ((int ln) :: [(int ld)]))) 39 none)) :: (some (@Blk.mk [(int (4 : Int)), (int c), (int f), (int (0 : Int)), (int (0 : Int)), (int (0 : Int)), (int ho), (int hn), (int hd)] 39 none)) :: ((some (@Blk.mk ((int (4 : Int)) :: (int c) :: (int f) :: (int (0 : Int)) :: (int (0 : Int)) :: (int (0 : Int)) :: ((int (w64 ((6 : Int) - lo))) :: ((int ln) :: ((int ld) :: [])))) 39 none)) :: (some (@Blk.mk [(int (4 : Int)), (int c), (int f), (int (0 : Int)), (int (0 : Int)), (int (0 : Int)), (int ho), (int hn), (int hd)] 39 none)) :: ((some (@Blk.mk [(@AV.lit (@Value.string (@ByteArray.mk (@Array.mk _ [])))), (@AV.sl ((0 + 1) + 1) 0 1 (some 1) 9)] 29 none)) :: (some (@Blk.mk [(int (4 : Int)), (int c), (int f), (int lo), (int ln), (int ld), (int ho), (int hn), (int hd)] 39 none)) :: [(some (@Blk.mk [(int ty), (@AV.lit (@Value.string en)), (int w), (int h)] 31 none)), (some (@Blk.mk [(int (4 : Int)), (int c), (int f), (int lo), (int ln), (int ld), (int ho), (int hn), (int hd)] 39 none))])))) [(@AV.agg [(@AV.lit (@Value.string (@ByteArray.mk (@Array.mk _ [])))), (@AV.sl ((0 + 1) + 1) 0 1 (some 1) 9)]), (@AV.agg [(int ty), (@AV.lit (@Value.string en)), (int w), (int h)])] [(@query noS [(@QNodeV.mk (4 : Int) c f lo ln ld ho hn hd)]), (@AV.agg [(int ty), (@AV.lit (@Value.string en)), (int w), (int h)])]) True)) (.fork (eqI (@evalQ noS [(@QNodeV.mk (4 : Int) c f lo ln ld ho hn hd)] ty w h) (@tA (@evalQ noS [(@QNodeV.mk (4 : Int) c f (0 : Int) (0 : Int) (0 : Int) ho hn hd)] ty w h) (@evalQ noS [(@QNodeV.mk (4 : Int) c f (0 : Int) (0 : Int) (0 : Int) (w64 ((6 : Int) - lo)) ln ld)] ty w h))) (.need (@isSo (@And (([] : List AV) = []) True)) (.leaf (boo true))) (.leaf (boo false))))))) (.need (@isSo (@And (([] : List AV) = []) True)) (.leaf (boo true))))) (by kernel_rfl) (by
    have cE : ∀ M, Conv1 M (ext ty en w h) (ext ty en w h) := fun M => Conv1.free M (v := ext ty en w h) ⟨trivial, trivial, trivial, trivial, trivial⟩
    refine need_so ⟨Conv.cons (Conv1.agg (Conv.cons (Conv1.lit _ _) (Conv.cons (Sy.conv_one _ _ rfl rfl) (Conv.nil _)))) (Conv.nil _), trivial⟩ (fork_ok (fun h1 => fork_ok (fun h2 => need_so ⟨rfl, trivial⟩ rfl) (fun h2 => ?_)) (fun h1 => need_so ⟨rfl, trivial⟩ rfl))
    refine need_so ⟨Conv.cons (Conv1.agg (Conv.cons (Conv1.lit _ _) (Conv.cons (Sy.conv_one _ _ rfl rfl) (Conv.nil _)))) (Conv.cons (cE _) (Conv.nil _)), trivial⟩ ?_
    refine need_so ⟨Conv.cons (Conv1.agg (Conv.cons (Conv1.lit _ _) (Conv.cons (Sy.conv_one _ _ rfl rfl) (Conv.nil _)))) (Conv.cons (cE _) (Conv.nil _)), trivial⟩ ?_
    refine need_so ⟨Conv.cons (Conv1.agg (Conv.cons (Conv1.lit _ _) (Conv.cons (Sy.conv_one _ _ rfl rfl) (Conv.nil _)))) (Conv.cons (cE _) (Conv.nil _)), trivial⟩ ?_
    simp only [Bool.not_eq_true', Bool.not_eq_false', leI_t, leI_f, eqI_t, eqI_f, inR_t, inR_f, isSo_t, isSo_f] at h2
    have h1' : rightQ noS [⟨4, c, f, lo, ln, ld, ho, hn, hd⟩] = true := by simpa using h1
    rw [rightQ_one _ rfl] at h1'
    obtain ⟨q1, q2⟩ := bounds_plain c f lo ln ld ho hn hd ty w h h1' h2
    rw [q1, q2]
    refine fork_ok (fun _ => need_so ⟨rfl, trivial⟩ rfl) (fun h3 => ?_)
    simp only [Bool.not_eq_true', Bool.not_eq_false', leI_t, leI_f, eqI_t, eqI_f, inR_t, inR_f, isSo_t, isSo_f] at h3
    exact absurd trivial h3)
theorem bounds_walk {W : World} (n : QNodeV) (ty : Int) (en : ByteArray) (w h : Int) :
    Calls Try.prog 7 #[.agg n.cells.toArray, .agg #[.int .i64 ty, .string en, .int .i64 w, .int .i64 h]] W fun e w' => e = .returned (.bool true) ∧ Below W.heap.size W w' :=
  Sy.law_true (Sy.bounds_t n.kind n.count n.feat n.lo n.ln n.ld n.ho n.hn n.hd ty en w h) (us := [_, _]) ⟨_, _, rfl, rel_toVal (v := qa n.kind n.count n.feat n.lo n.ln n.ld n.ho n.hn n.hd) rfl, _, _, rfl, rel_ext W ty en w h, rfl⟩
end Go.Proofs.Ytjljlcflmcjapaa
