/-
  What a query says of an element: the program's, and the reference's.
-/
import Derived.Test.YtjljlcflmcjapaaTr6
import Derived.Test.YtjljlcflmcjapaaSyM
import Derived.Test.YtjljlcflmcjapaaLaw15
namespace Go.Proofs.Ytjljlcflmcjapaa
open Go Go.RowKit Pl Sy
set_option linter.unusedVariables false
set_option linter.unusedSimpArgs false

namespace Sy
theorem rows_of_rel {α : Type} {cells : α → List Value} {d : α} {s : Nat} {xs : List α} (hsm : xs.length ≤ 17592186044416) (hlen : ∀ x, (cells x).length = s) (hs0 : 0 < s) {w0 : World} {ρ : Rho} {M : Mem} {w : World} (hW : WR w0 ρ M w) {u : Value} (hr : rel ρ (viewOf cells d s xs) u) : ∃ a cap, u = .slice a xs.length cap ∧ Rows cells s w a cap xs := by
  simp only [viewOf, rel] at hr
  obtain ⟨a, cap, rfl, h1, h2, h3, h4⟩ := hr
  refine ⟨a, cap, rfl, h1, h2, hsm, h3, fun hne => ?_⟩
  have hpos : 0 < xs.length := List.length_pos_iff.2 hne
  obtain ⟨g, o, rfl, h5⟩ := h4 hpos
  have hcell : ∀ k (hk : k < xs.length) j u, (cells xs[k])[j]? = some u → ρ.still g (o + k * s + j) = some u := fun k hk j u hu => by
    have hj : j < s := by rw [← hlen xs[k]]; exact (List.getElem?_eq_some_iff.1 hu).1
    obtain ⟨x, r1, r2, _⟩ := h5 k j hk hj
    have hg : xs.getD k d = xs[k] := by rw [List.getD_eq_getElem?_getD, List.getElem?_eq_getElem hk]; rfl
    rw [hg, List.getD_eq_getElem?_getD, hu] at r2
    simp only [rel, Option.getD_some] at r2
    rw [r1, r2]
  refine ⟨g, o, rfl, ?_, fun k hk j u hu => hW.still _ _ _ (hcell k hk j u hu)⟩
  have hj : 0 < (cells xs[0]).length := by rw [hlen]; exact hs0
  exact hW.still_lt (hcell 0 hpos 0 _ (List.getElem?_eq_getElem hj))
theorem CallTo.of_world {P : Program} {f : FuncId} {args : List AV} {M : Mem} {u : Value} (h : ∀ w0 ρ us w, rels ρ args us → WR w0 ρ M w → Calls P f us.toArray w fun e w' => e = .returned u ∧ Below w.heap.size w w') : CallTo P f args M fun v M' => v = .lit u ∧ M' = M := fun w0 ρ us w hr hW => by
  refine (h w0 ρ us w hr hW).mono ?_
  rintro e w' ⟨rfl, hb⟩
  obtain ⟨q1, q2⟩ := hW.grown hb (fun _ _ => none) (fun _ _ _ h => by cases h)
  exact ⟨_, u, .lit u, M, rfl, q1, by simp [rel], q2, rfl, rfl⟩
end Sy
def nodeNone : NodeV := ⟨0, ⟨#[]⟩, ⟨#[]⟩, .nilFunc, .nilFunc, ⟨#[]⟩⟩
abbrev Sy.nview (l : List NodeV) : AV := viewOf NodeV.cells nodeNone 6 l
abbrev Sy.xview (x : List ExtV) : AV := viewOf ExtV.cells ExtV.zero 4 x
def bigL (l : List NodeV) (x : List ExtV) : Prop := l.length ≤ 17592186044416 ∧ x.length ≤ 17592186044416
theorem Sy.near_p (l : List NodeV) (x : List ExtV) (hb : bigL l x) (i : Int) (nm : ByteArray) : CallTo Try.prog 64 [nview l, xview x, int i, .lit (.string nm)] M0 fun v _ => v = int (firstUpI (par l) l.length (fitsP x nm) i) :=
  (CallTo.of_world (u := .int .i64 (firstUpI (par l) l.length (fitsP x nm) i)) fun w0 ρ us w hr hW => by
    simp only [rels] at hr
    obtain ⟨u1, _, rfl, h1, u2, _, rfl, h2, u3, _, rfl, h3, u4, _, rfl, h4, rfl⟩ := hr
    obtain ⟨a, cap, rfl, r1⟩ := rows_of_rel (cells := NodeV.cells) (s := 6) hb.1 (fun _ => rfl) (by omega) hW h1
    obtain ⟨a', cap', rfl, r2⟩ := rows_of_rel (cells := ExtV.cells) (s := 4) hb.2 (fun _ => rfl) (by omega) hW h2
    simp only [rel] at h3 h4
    subst h3 h4
    exact nearest_name_p r1 r2 i nm).mono fun v _ h => h.1
theorem Sy.near_r (l : List NodeV) (x : List ExtV) (hb : bigL l x) (i : Int) (nm : ByteArray) : CallTo Try.prog 67 [nview l, xview x, int i, .lit (.string nm), int 1] M0 fun v _ => v = int (firstUpI (par l) l.length (fitsP x nm) i) :=
  (CallTo.of_world (u := .int .i64 (firstUpI (par l) l.length (fitsP x nm) i)) fun w0 ρ us w hr hW => by
    simp only [rels] at hr
    obtain ⟨u1, _, rfl, h1, u2, _, rfl, h2, u3, _, rfl, h3, u4, _, rfl, h4, u5, _, rfl, h5, rfl⟩ := hr
    obtain ⟨a, cap, rfl, r1⟩ := rows_of_rel (cells := NodeV.cells) (s := 6) hb.1 (fun _ => rfl) (by omega) hW h1
    obtain ⟨a', cap', rfl, r2⟩ := rows_of_rel (cells := ExtV.cells) (s := 4) hb.2 (fun _ => rfl) (by omega) hW h2
    simp only [rel] at h3 h4 h5
    subst h3 h4 h5
    have := nearest_name_r r1 r2 i nm 1
    rw [nearR_eq, fits_one] at this
    exact this).mono fun v _ h => h.1
section
variable (l : List NodeV) (x : List ExtV)
noncomputable abbrev Sy.cNearP : Con Try.prog := atX 64 (fun args => match args with | [_, _, .lit (.int .i64 i), .lit (.string nm)] => some (i, nm) | _ => none) (fun y => [nview l, xview x, int y.1, .lit (.string y.2)]) (fun y => int (firstUpI (par l) l.length (fitsP x y.2) y.1)) (fun _ => bigL l x) fun y hb => ⟨⟨⟨viewOf_free NodeV.cells nodeNone 6 l, viewOf_free ExtV.cells ExtV.zero 4 x, trivial, trivial, trivial⟩, trivial⟩, near_p l x hb y.1 y.2⟩
noncomputable abbrev Sy.cNearR : Con Try.prog := atX 67 (fun args => match args with | [_, _, .lit (.int .i64 i), .lit (.string nm), _] => some (i, nm) | _ => none) (fun y => [nview l, xview x, int y.1, .lit (.string y.2), int 1]) (fun y => int (firstUpI (par l) l.length (fitsP x y.2) y.1)) (fun _ => bigL l x) fun y hb => ⟨⟨⟨viewOf_free NodeV.cells nodeNone 6 l, viewOf_free ExtV.cells ExtV.zero 4 x, trivial, trivial, trivial, trivial⟩, trivial⟩, near_r l x hb y.1 y.2⟩
end
section
variable (s : ByteArray) (xs : List QNodeV)
noncomputable abbrev Sy.cEvalHP : Con Try.prog := atX 22 (fun args => match args with | [_, .agg [.lit (.int .i64 ty), .lit (.string en), .lit (.int .i64 w), .lit (.int .i64 h)]] => some (ty, en, w, h) | _ => none) (fun x => [Sy.query s xs, ext x.1 x.2.1 x.2.2.1 x.2.2.2]) (fun x => int (evalQ s xs x.1 x.2.2.1 x.2.2.2)) (fun _ => s.size ≤ maxLen ∧ xs.length ≤ 17592186044416) fun x hC => ⟨⟨⟨⟨trivial, viewOf_free QNodeV.cells QNodeV.zero 9 xs, trivial⟩, ⟨trivial, trivial, trivial, trivial, trivial⟩, trivial⟩, trivial⟩, eval_t s xs x.1 x.2.1 x.2.2.1 x.2.2.2 hC.1 hC.2⟩
noncomputable abbrev Sy.cEvalHR : Con Try.prog := atX 23 (fun args => match args with | [_, .agg [.lit (.int .i64 ty), .lit (.string en), .lit (.int .i64 w), .lit (.int .i64 h)]] => some (ty, en, w, h) | _ => none) (fun x => [Sy.query s xs, ext x.1 x.2.1 x.2.2.1 x.2.2.2]) (fun x => int (evalQ s xs x.1 x.2.2.1 x.2.2.2)) (fun _ => s.size ≤ maxLen ∧ xs.length ≤ 17592186044416) fun x hC => ⟨⟨⟨⟨trivial, viewOf_free QNodeV.cells QNodeV.zero 9 xs, trivial⟩, ⟨trivial, trivial, trivial, trivial, trivial⟩, trivial⟩, trivial⟩, evalr_t s xs x.1 x.2.1 x.2.2.1 x.2.2.2 hC.1 hC.2⟩
end
abbrev Sy.extA (e : ExtV) : AV := ext e.type e.name e.w e.h
theorem leaf_av {a b : AV} (h : a = b) : (Tr.leaf a).Ok fun v => v = b := h
/-sy at_hp
fun (x : List ExtV) (k : Int) (d : D) => reckV [] [] 400 30 66 [xview x, int k] M0 d
-/
/-sy at_hr
fun (x : List ExtV) (k : Int) (d : D) => reckV [] [] 400 30 68 [xview x, int k] M0 d
-/
noncomputable abbrev Sy.cAtP (x : List ExtV) (H : ∀ k, CallTo Try.prog 66 [xview x, int k] M0 fun v _ => v = extA (atV x k)) : Con Try.prog := atX 66 (fun args => match args with | [_, .lit (.int .i64 k)] => some k | _ => none) (fun k => [xview x, int k]) (fun k => extA (atV x k)) (fun _ => True) fun k _ => ⟨⟨⟨viewOf_free ExtV.cells ExtV.zero 4 x, trivial, trivial⟩, ⟨trivial, trivial, trivial, trivial, trivial⟩⟩, H k⟩
noncomputable abbrev Sy.cAtR (x : List ExtV) (H : ∀ k, CallTo Try.prog 68 [xview x, int k] M0 fun v _ => v = extA (atV x k)) : Con Try.prog := atX 68 (fun args => match args with | [_, .lit (.int .i64 k)] => some k | _ => none) (fun k => [xview x, int k]) (fun k => extA (atV x k)) (fun _ => True) fun k _ => ⟨⟨⟨viewOf_free ExtV.cells ExtV.zero 4 x, trivial, trivial⟩, ⟨trivial, trivial, trivial, trivial, trivial⟩⟩, H k⟩
/-sy truth_hp
fun (l : List NodeV) (x : List ExtV) (H : ∀ k, CallTo Try.prog 66 [xview x, int k] M0 fun v _ => v = extA (atV x k)) (i : Int) (s : ByteArray) (xs : List QNodeV) (d : D) => reckV [cNearP l x, cAtP x H, cEvalHP s xs] [] 400 30 38 [nview l, xview x, int i, Sy.query s xs] M0 d
-/
/-sy truth_hr
fun (l : List NodeV) (x : List ExtV) (H : ∀ k, CallTo Try.prog 68 [xview x, int k] M0 fun v _ => v = extA (atV x k)) (i : Int) (s : ByteArray) (xs : List QNodeV) (d : D) => reckV [cNearR l x, cAtR x H, cEvalHR s xs] [] 400 30 39 [nview l, xview x, int i, Sy.query s xs] M0 d
-/
theorem atV_in {x : List ExtV} {k : Int} (h0 : 0 ≤ k) (h1 : k < x.length) : x.getD k.toNat ExtV.zero = atV x k := by
  unfold atV
  rw [if_neg (by omega), List.getD_eq_getElem?_getD, List.getElem?_eq_getElem (by omega)]; rfl
theorem atV_out {x : List ExtV} {k : Int} (h : k < 0 ∨ (x.length : Int) ≤ k) : atV x k = ExtV.zero := by
  unfold atV
  split
  · rfl
  · rw [List.getElem?_eq_none (by omega)]
theorem Sy.at_hp (x : List ExtV) (k : Int) : CallTo Try.prog 66 [xview x, int k] M0 fun v _ => v = extA (atV x k) :=
  toV [] [] 400 30 (.br (.auto 3 (.br .done (.yes .done))) (.auto 4 .done)) (.fork (!(!(leI (0 : Int) k))) (.fork (leI (((x).length : Nat) : Int) k) (.leaf (@AV.agg [(int (0 : Int)), (@AV.lit (@Value.string (@ByteArray.mk (@Array.mk _ [])))), (int (0 : Int)), (int (0 : Int))])) (.need (@inR k (x).length) (.leaf (@AV.agg [(int ((x.getD (k).toNat ExtV.zero)).type), (@AV.lit (@Value.string ((x.getD (k).toNat ExtV.zero)).name)), (int ((x.getD (k).toNat ExtV.zero)).w), (int ((x.getD (k).toNat ExtV.zero)).h)])))) (.leaf (@AV.agg [(int (0 : Int)), (@AV.lit (@Value.string (@ByteArray.mk (@Array.mk _ [])))), (int (0 : Int)), (int (0 : Int))]))) (by kernel_rfl) (by
    refine fork_ok (fun h1 => fork_ok (fun h2 => leaf_av ?_) (fun h2 => need_t ?_ (leaf_av ?_))) (fun h1 => leaf_av ?_)
    · simp only [Bool.not_eq_true', Bool.not_eq_false', leI_t, leI_f, eqI_t, eqI_f, inR_t, inR_f, isSo_t, isSo_f] at h2
      rw [atV_out (.inr h2)]; rfl
    · simp only [Bool.not_eq_true', Bool.not_eq_false', leI_t, leI_f, eqI_t, eqI_f, inR_t, inR_f, isSo_t, isSo_f] at h1
      simp only [Bool.not_eq_true', Bool.not_eq_false', leI_t, leI_f, eqI_t, eqI_f, inR_t, inR_f, isSo_t, isSo_f] at h2
      rw [inR_t]; omega
    · simp only [Bool.not_eq_true', Bool.not_eq_false', leI_t, leI_f, eqI_t, eqI_f, inR_t, inR_f, isSo_t, isSo_f] at h1
      simp only [Bool.not_eq_true', Bool.not_eq_false', leI_t, leI_f, eqI_t, eqI_f, inR_t, inR_f, isSo_t, isSo_f] at h2
      rw [atV_in (by omega) (by omega)]
    · simp only [Bool.not_eq_true', Bool.not_eq_false', leI_t, leI_f, eqI_t, eqI_f, inR_t, inR_f, isSo_t, isSo_f] at h1
      rw [atV_out (.inl (by omega))]; rfl)
theorem Sy.at_hr (x : List ExtV) (k : Int) : CallTo Try.prog 68 [xview x, int k] M0 fun v _ => v = extA (atV x k) :=
  toV [] [] 400 30 (.br (.auto 3 (.br (.yes .done) .done)) (.auto 4 .done)) (.fork (leI (0 : Int) k) (.fork (!(leI (((x).length : Nat) : Int) k)) (.need (@inR k (x).length) (.leaf (@AV.agg [(int ((x.getD (k).toNat ExtV.zero)).type), (@AV.lit (@Value.string ((x.getD (k).toNat ExtV.zero)).name)), (int ((x.getD (k).toNat ExtV.zero)).w), (int ((x.getD (k).toNat ExtV.zero)).h)]))) (.leaf (@AV.agg [(int (0 : Int)), (@AV.lit (@Value.string (@ByteArray.mk (@Array.mk _ [])))), (int (0 : Int)), (int (0 : Int))]))) (.leaf (@AV.agg [(int (0 : Int)), (@AV.lit (@Value.string (@ByteArray.mk (@Array.mk _ [])))), (int (0 : Int)), (int (0 : Int))]))) (by kernel_rfl) (by
    refine fork_ok (fun h1 => fork_ok (fun h2 => need_t ?_ (leaf_av ?_)) (fun h2 => leaf_av ?_)) (fun h1 => leaf_av ?_)
    · simp only [Bool.not_eq_true', Bool.not_eq_false', leI_t, leI_f, eqI_t, eqI_f, inR_t, inR_f, isSo_t, isSo_f] at h1
      simp only [Bool.not_eq_true', Bool.not_eq_false', leI_t, leI_f, eqI_t, eqI_f, inR_t, inR_f, isSo_t, isSo_f] at h2
      rw [inR_t]; omega
    · simp only [Bool.not_eq_true', Bool.not_eq_false', leI_t, leI_f, eqI_t, eqI_f, inR_t, inR_f, isSo_t, isSo_f] at h1
      simp only [Bool.not_eq_true', Bool.not_eq_false', leI_t, leI_f, eqI_t, eqI_f, inR_t, inR_f, isSo_t, isSo_f] at h2
      rw [atV_in (by omega) (by omega)]
    · simp only [Bool.not_eq_true', Bool.not_eq_false', leI_t, leI_f, eqI_t, eqI_f, inR_t, inR_f, isSo_t, isSo_f] at h1
      simp only [Bool.not_eq_true', Bool.not_eq_false', leI_t, leI_f, eqI_t, eqI_f, inR_t, inR_f, isSo_t, isSo_f] at h2
      rw [atV_out (.inr (by omega))]; rfl
    · simp only [Bool.not_eq_true', Bool.not_eq_false', leI_t, leI_f, eqI_t, eqI_f, inR_t, inR_f, isSo_t, isSo_f] at h1
      rw [atV_out (.inl (by omega))]; rfl)
/-- what a query says of an element -/
noncomputable def truthI (l : List NodeV) (x : List ExtV) (i : Int) (s : ByteArray) (xs : List QNodeV) : Int :=
  if firstUpI (par l) l.length (fitsP x s) i < 0 then 2 else evalQ s xs (atV x (firstUpI (par l) l.length (fitsP x s) i)).type (atV x (firstUpI (par l) l.length (fitsP x s) i)).w (atV x (firstUpI (par l) l.length (fitsP x s) i)).h
theorem Sy.truth_hp (l : List NodeV) (x : List ExtV) (i : Int) (s : ByteArray) (xs : List QNodeV) (hb : bigL l x) (hs : s.size ≤ maxLen) (hx : xs.length ≤ 17592186044416) : CallTo Try.prog 38 [nview l, xview x, int i, Sy.query s xs] M0 fun v _ => v = int (truthI l x i s xs) :=
  have H := at_hp x
  toV [cNearP l x, cAtP x H, cEvalHP s xs] [] 400 30 (.yes (.br .done (.yes (.yes .done)))) (.need (@isSo (@And ([(@AV.view (l).length 6 (fun x169447 => (fun x12592 => (@AV.lit ([(@Value.int IntKind.i64 ((l.getD x169447 nodeNone)).parent), (@Value.string ((l.getD x169447 nodeNone)).tag), (@Value.string ((l.getD x169447 nodeNone)).id), ((l.getD x169447 nodeNone)).cls, ((l.getD x169447 nodeNone)).att, (@Value.string ((l.getD x169447 nodeNone)).text)].getD x12592 (@Value.tuple (@Array.mk _ []))))))), (@AV.view (x).length 4 (fun x444984 => (fun x561221 => (@AV.lit ([(@Value.int IntKind.i64 ((x.getD x444984 ExtV.zero)).type), (@Value.string ((x.getD x444984 ExtV.zero)).name), (@Value.int IntKind.i64 ((x.getD x444984 ExtV.zero)).w), (@Value.int IntKind.i64 ((x.getD x444984 ExtV.zero)).h)].getD x561221 (@Value.tuple (@Array.mk _ []))))))), (int i), (@AV.lit (@Value.string s))] = [(@AV.view (l).length 6 (fun x505350 => (fun x99658 => (@AV.lit ([(@Value.int IntKind.i64 ((l.getD x505350 nodeNone)).parent), (@Value.string ((l.getD x505350 nodeNone)).tag), (@Value.string ((l.getD x505350 nodeNone)).id), ((l.getD x505350 nodeNone)).cls, ((l.getD x505350 nodeNone)).att, (@Value.string ((l.getD x505350 nodeNone)).text)].getD x99658 (@Value.tuple (@Array.mk _ []))))))), (@AV.view (x).length 4 (fun x22835 => (fun x935668 => (@AV.lit ([(@Value.int IntKind.i64 ((x.getD x22835 ExtV.zero)).type), (@Value.string ((x.getD x22835 ExtV.zero)).name), (@Value.int IntKind.i64 ((x.getD x22835 ExtV.zero)).w), (@Value.int IntKind.i64 ((x.getD x22835 ExtV.zero)).h)].getD x935668 (@Value.tuple (@Array.mk _ []))))))), (int i), (@AV.lit (@Value.string s))]) (@And ((l).length ≤ 17592186044416) ((x).length ≤ 17592186044416)))) (.fork (!(leI (0 : Int) (@Pl.firstUpI (@par l) (l).length (@fitsP x s) i))) (.leaf (int (2 : Int))) (.need (@isSo (@And ([(@AV.view (x).length 4 (fun x105372 => (fun x882049 => (@AV.lit ([(@Value.int IntKind.i64 ((x.getD x105372 ExtV.zero)).type), (@Value.string ((x.getD x105372 ExtV.zero)).name), (@Value.int IntKind.i64 ((x.getD x105372 ExtV.zero)).w), (@Value.int IntKind.i64 ((x.getD x105372 ExtV.zero)).h)].getD x882049 (@Value.tuple (@Array.mk _ []))))))), (int (@Pl.firstUpI (@par l) (l).length (@fitsP x s) i))] = [(@AV.view (x).length 4 (fun x397433 => (fun x484782 => (@AV.lit ([(@Value.int IntKind.i64 ((x.getD x397433 ExtV.zero)).type), (@Value.string ((x.getD x397433 ExtV.zero)).name), (@Value.int IntKind.i64 ((x.getD x397433 ExtV.zero)).w), (@Value.int IntKind.i64 ((x.getD x397433 ExtV.zero)).h)].getD x484782 (@Value.tuple (@Array.mk _ []))))))), (int (@Pl.firstUpI (@par l) (l).length (@fitsP x s) i))]) True)) (.need (@isSo (@And ([(@AV.agg [(@AV.lit (@Value.string s)), (@qview xs)]), (@AV.agg [(int ((@atV x (@Pl.firstUpI (@par l) (l).length (@fitsP x s) i))).type), (@AV.lit (@Value.string ((@atV x (@Pl.firstUpI (@par l) (l).length (@fitsP x s) i))).name)), (int ((@atV x (@Pl.firstUpI (@par l) (l).length (@fitsP x s) i))).w), (int ((@atV x (@Pl.firstUpI (@par l) (l).length (@fitsP x s) i))).h)])] = [(@query s xs), (@AV.agg [(int ((@atV x (@Pl.firstUpI (@par l) (l).length (@fitsP x s) i))).type), (@AV.lit (@Value.string ((@atV x (@Pl.firstUpI (@par l) (l).length (@fitsP x s) i))).name)), (int ((@atV x (@Pl.firstUpI (@par l) (l).length (@fitsP x s) i))).w), (int ((@atV x (@Pl.firstUpI (@par l) (l).length (@fitsP x s) i))).h)])]) (@And ((@ByteArray.size s) ≤ 9223372036854775807) ((xs).length ≤ 17592186044416)))) (.leaf (int (@evalQ s xs ((@atV x (@Pl.firstUpI (@par l) (l).length (@fitsP x s) i))).type ((@atV x (@Pl.firstUpI (@par l) (l).length (@fitsP x s) i))).w ((@atV x (@Pl.firstUpI (@par l) (l).length (@fitsP x s) i))).h))))))) (by kernel_rfl) (by
    unfold truthI
    generalize firstUpI (par l) l.length (fitsP x s) i = k at *
    refine need_so ⟨rfl, hb⟩ (fork_ok (fun h1 => leaf_int ?_) (fun h1 => need_so ⟨rfl, trivial⟩ (need_so ⟨rfl, hs, hx⟩ (leaf_int ?_))))
    · simp only [Bool.not_eq_true', Bool.not_eq_false', leI_t, leI_f, eqI_t, eqI_f, inR_t, inR_f, isSo_t, isSo_f] at h1
      rw [if_pos (by omega)]
    · simp only [Bool.not_eq_true', Bool.not_eq_false', leI_t, leI_f, eqI_t, eqI_f, inR_t, inR_f, isSo_t, isSo_f] at h1
      rw [if_neg (by omega)])
theorem Sy.truth_hr (l : List NodeV) (x : List ExtV) (i : Int) (s : ByteArray) (xs : List QNodeV) (hb : bigL l x) (hs : s.size ≤ maxLen) (hx : xs.length ≤ 17592186044416) : CallTo Try.prog 39 [nview l, xview x, int i, Sy.query s xs] M0 fun v _ => v = int (truthI l x i s xs) :=
  have H := at_hr x
  toV [cNearR l x, cAtR x H, cEvalHR s xs] [] 400 30 (.yes (.br .done (.yes (.yes .done)))) (.need (@isSo (@And ([(@AV.view (l).length 6 (fun x169447 => (fun x12592 => (@AV.lit ([(@Value.int IntKind.i64 ((l.getD x169447 nodeNone)).parent), (@Value.string ((l.getD x169447 nodeNone)).tag), (@Value.string ((l.getD x169447 nodeNone)).id), ((l.getD x169447 nodeNone)).cls, ((l.getD x169447 nodeNone)).att, (@Value.string ((l.getD x169447 nodeNone)).text)].getD x12592 (@Value.tuple (@Array.mk _ []))))))), (@AV.view (x).length 4 (fun x444984 => (fun x561221 => (@AV.lit ([(@Value.int IntKind.i64 ((x.getD x444984 ExtV.zero)).type), (@Value.string ((x.getD x444984 ExtV.zero)).name), (@Value.int IntKind.i64 ((x.getD x444984 ExtV.zero)).w), (@Value.int IntKind.i64 ((x.getD x444984 ExtV.zero)).h)].getD x561221 (@Value.tuple (@Array.mk _ []))))))), (int i), (@AV.lit (@Value.string s)), (int (1 : Int))] = [(@AV.view (l).length 6 (fun x505350 => (fun x99658 => (@AV.lit ([(@Value.int IntKind.i64 ((l.getD x505350 nodeNone)).parent), (@Value.string ((l.getD x505350 nodeNone)).tag), (@Value.string ((l.getD x505350 nodeNone)).id), ((l.getD x505350 nodeNone)).cls, ((l.getD x505350 nodeNone)).att, (@Value.string ((l.getD x505350 nodeNone)).text)].getD x99658 (@Value.tuple (@Array.mk _ []))))))), (@AV.view (x).length 4 (fun x22835 => (fun x935668 => (@AV.lit ([(@Value.int IntKind.i64 ((x.getD x22835 ExtV.zero)).type), (@Value.string ((x.getD x22835 ExtV.zero)).name), (@Value.int IntKind.i64 ((x.getD x22835 ExtV.zero)).w), (@Value.int IntKind.i64 ((x.getD x22835 ExtV.zero)).h)].getD x935668 (@Value.tuple (@Array.mk _ []))))))), (int i), (@AV.lit (@Value.string s)), (int (1 : Int))]) (@And ((l).length ≤ 17592186044416) ((x).length ≤ 17592186044416)))) (.fork (!(leI (0 : Int) (@Pl.firstUpI (@par l) (l).length (@fitsP x s) i))) (.leaf (int (2 : Int))) (.need (@isSo (@And ([(@AV.view (x).length 4 (fun x105372 => (fun x882049 => (@AV.lit ([(@Value.int IntKind.i64 ((x.getD x105372 ExtV.zero)).type), (@Value.string ((x.getD x105372 ExtV.zero)).name), (@Value.int IntKind.i64 ((x.getD x105372 ExtV.zero)).w), (@Value.int IntKind.i64 ((x.getD x105372 ExtV.zero)).h)].getD x882049 (@Value.tuple (@Array.mk _ []))))))), (int (@Pl.firstUpI (@par l) (l).length (@fitsP x s) i))] = [(@AV.view (x).length 4 (fun x397433 => (fun x484782 => (@AV.lit ([(@Value.int IntKind.i64 ((x.getD x397433 ExtV.zero)).type), (@Value.string ((x.getD x397433 ExtV.zero)).name), (@Value.int IntKind.i64 ((x.getD x397433 ExtV.zero)).w), (@Value.int IntKind.i64 ((x.getD x397433 ExtV.zero)).h)].getD x484782 (@Value.tuple (@Array.mk _ []))))))), (int (@Pl.firstUpI (@par l) (l).length (@fitsP x s) i))]) True)) (.need (@isSo (@And ([(@AV.agg [(@AV.lit (@Value.string s)), (@qview xs)]), (@AV.agg [(int ((@atV x (@Pl.firstUpI (@par l) (l).length (@fitsP x s) i))).type), (@AV.lit (@Value.string ((@atV x (@Pl.firstUpI (@par l) (l).length (@fitsP x s) i))).name)), (int ((@atV x (@Pl.firstUpI (@par l) (l).length (@fitsP x s) i))).w), (int ((@atV x (@Pl.firstUpI (@par l) (l).length (@fitsP x s) i))).h)])] = [(@query s xs), (@AV.agg [(int ((@atV x (@Pl.firstUpI (@par l) (l).length (@fitsP x s) i))).type), (@AV.lit (@Value.string ((@atV x (@Pl.firstUpI (@par l) (l).length (@fitsP x s) i))).name)), (int ((@atV x (@Pl.firstUpI (@par l) (l).length (@fitsP x s) i))).w), (int ((@atV x (@Pl.firstUpI (@par l) (l).length (@fitsP x s) i))).h)])]) (@And ((@ByteArray.size s) ≤ 9223372036854775807) ((xs).length ≤ 17592186044416)))) (.leaf (int (@evalQ s xs ((@atV x (@Pl.firstUpI (@par l) (l).length (@fitsP x s) i))).type ((@atV x (@Pl.firstUpI (@par l) (l).length (@fitsP x s) i))).w ((@atV x (@Pl.firstUpI (@par l) (l).length (@fitsP x s) i))).h))))))) (by kernel_rfl) (by
    unfold truthI
    generalize firstUpI (par l) l.length (fitsP x s) i = k at *
    refine need_so ⟨rfl, hb⟩ (fork_ok (fun h1 => leaf_int ?_) (fun h1 => need_so ⟨rfl, trivial⟩ (need_so ⟨rfl, hs, hx⟩ (leaf_int ?_))))
    · simp only [Bool.not_eq_true', Bool.not_eq_false', leI_t, leI_f, eqI_t, eqI_f, inR_t, inR_f, isSo_t, isSo_f] at h1
      rw [if_pos (by omega)]
    · simp only [Bool.not_eq_true', Bool.not_eq_false', leI_t, leI_f, eqI_t, eqI_f, inR_t, inR_f, isSo_t, isSo_f] at h1
      rw [if_neg (by omega)])
end Go.Proofs.Ytjljlcflmcjapaa
