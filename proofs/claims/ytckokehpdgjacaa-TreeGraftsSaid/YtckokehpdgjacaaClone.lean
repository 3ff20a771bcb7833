/-
  Contracts of the library's Clone at strings and at attributes, and of the program's copied: a node with classes and attributes of its own.
-/
import Derived.Test.YtckokehpdgjacaaElem
import Derived.Test.YtckokehpdgjacaaFacts
import Derived.Deep.Heap
namespace Go.Proofs.Ytckokehpdgjacaa
open Go.RowKit Pl
set_option linter.unusedVariables false

theorem tStrs : SliceT Try.prog 51 9 1 16 (.string ⟨#[]⟩) :=
  ⟨Try.underlying51, by obtain ⟨i0, hi, hz0, hz1, hz2⟩ := info_parts (show (Try.prog.info? 9).map (fun i => (i.zero, i.size, i.bytes)) = some (some (.string ⟨#[]⟩), 1, 16) by kernel_rfl); exact ⟨i0, hi, hz0, hz1, hz2⟩, rfl, by decide⟩
theorem tAttrs : SliceT Try.prog 52 92 2 32 (.agg #[.string ⟨#[]⟩, .string ⟨#[]⟩]) :=
  ⟨Try.underlying52, by obtain ⟨i0, hi, hz0, hz1, hz2⟩ := info_parts (show (Try.prog.info? 92).map (fun i => (i.zero, i.size, i.bytes)) = some (some (.agg #[.string ⟨#[]⟩, .string ⟨#[]⟩]), 2, 32) by kernel_rfl); exact ⟨i0, hi, hz0, hz1, hz2⟩, rfl, by decide⟩
theorem tNodes : SliceT Try.prog 22 54 6 104 (.agg #[.int .i64 0, .string ⟨#[]⟩, .string ⟨#[]⟩, .slice none 0 0, .slice none 0 0, .string ⟨#[]⟩]) :=
  ⟨Try.underlying22, by obtain ⟨i0, hi, hz0, hz1, hz2⟩ := info_parts (show (Try.prog.info? 54).map (fun i => (i.zero, i.size, i.bytes)) = some (some (.agg #[.int .i64 0, .string ⟨#[]⟩, .string ⟨#[]⟩, .slice none 0 0, .slice none 0 0, .string ⟨#[]⟩]), 6, 104) by kernel_rfl); exact ⟨i0, hi, hz0, hz1, hz2⟩, rfl, by decide⟩

@[go_sem] theorem nilS0 (w : World) : (binOp BinOp.eql 51 (.slice none 0 0) (.slice none 0 0)).run Try.prog w = .ok (.bool true) w := by kernel_rfl
@[go_sem] theorem nilS1 (ad : Addr) (n c : Nat) (w : World) : (binOp BinOp.eql 51 (.slice (some ad) n c) (.slice none 0 0)).run Try.prog w = .ok (.bool false) w := by kernel_rfl
@[go_sem] theorem nilA0 (w : World) : (binOp BinOp.eql 52 (.slice none 0 0) (.slice none 0 0)).run Try.prog w = .ok (.bool true) w := by kernel_rfl
@[go_sem] theorem nilA1 (ad : Addr) (n c : Nat) (w : World) : (binOp BinOp.eql 52 (.slice (some ad) n c) (.slice none 0 0)).run Try.prog w = .ok (.bool false) w := by kernel_rfl

theorem own_base {w : World} {base : Nat} {e : TypeId} {s : Nat} {v : Value} {n m c : Nat} {flat : List Value} {ad : Addr} (h : w.ownsRow base e s v n flat) (hv : v = .slice (some ad) m c) : base ≤ ad.block := by
  rcases h.2 with ⟨rfl, _⟩ | ⟨g, cap, cur, rfl, hb, _⟩
  · cases hv
  · simp at hv; rw [← hv.1]; exact hb

/-- the block that a slice lies in is one of elements of type e -/
def Tagged (w : World) (a : Option Addr) (e : TypeId) : Prop := ∀ ad, a = some ad → ∃ cur fr, w.heap[ad.block]? = some (.cells cur e fr)
theorem Tagged.grow {w w' : World} {a : Option Addr} {e : TypeId} (h : Tagged w a e) (hb : Below w.heap.size w w') : Tagged w' a e := fun ad ha => by
  obtain ⟨cur, fr, hc⟩ := h ad ha
  exact ⟨cur, fr, (hb.block _ (Array.getElem?_eq_some_iff.1 hc).1).trans hc⟩
theorem Tagged.put {w : World} {a : Option Addr} {e : TypeId} (h : Tagged w a e) (b o : Nat) (v : Value) (hne : ∀ ad, a = some ad → ad.block ≠ b) : Tagged (w.setCell ⟨b, o, none⟩ v) a e := fun ad ha => by
  obtain ⟨cur, fr, hc⟩ := h ad ha
  have hn := hne ad ha
  exact ⟨cur, fr, (Go.Deep.blk_setCell_other w ⟨b, o, none⟩ v ad.block hn).trans hc⟩
theorem own_tag {w : World} {base : Nat} {e : TypeId} {s : Nat} {v : Value} {n m c : Nat} {flat : List Value} {ad : Addr} (h : w.ownsRow base e s v n flat) (hv : v = .slice (some ad) m c) : ∃ cur fr, w.heap[ad.block]? = some (.cells cur e fr) := by
  rcases h.2 with ⟨rfl, _⟩ | ⟨g, cap, cur, rfl, hb, hc, _⟩
  · cases hv
  · simp at hv; rw [← hv.1]; exact ⟨cur, _, hc⟩

theorem own_empty (w : World) (e : TypeId) (s : Nat) : (w.alloc (.cells #[] e)).ownsRow w.heap.size e s (.slice (some ⟨w.heap.size, 0, none⟩) 0 0) 0 [] :=
  ⟨by simp, Or.inr ⟨w.heap.size, 0, #[], rfl, Nat.le_refl _, heap_alloc_new w _, Nat.le_refl _, by omega, by simp, by simp⟩⟩

set_option maxRecDepth 20000 in
theorem clone_strs {w : World} {a : Option Addr} {cap : Nat} {xs : List ByteArray} (h : RStrs w a cap xs) (hs : xs.length ≤ 1024) :
    Calls Try.prog 89 #[.slice a xs.length cap] w fun e w' => ∃ a' cap', e = .returned (.slice a' xs.length cap') ∧ RStrs w' a' cap' xs ∧ (∀ ad, a' = some ad → w.heap.size ≤ ad.block) ∧ Tagged w' a' 9 ∧ Below w.heap.size w w' := by
  cases ha : a with
  | none =>
    subst ha
    have hc := h.nil rfl
    subst hc
    have hx : xs = [] := List.eq_nil_of_length_eq_zero (by have := h.le; omega)
    subst hx
    go_enter Try.func89, Try.ntmps89
    go_wp2
    go_ret
    exact ⟨none, 0, rfl, h, (fun _ e => by cases e), (fun _ e => by cases e), Below.refl _ _⟩
  | some ad =>
    subst ha
    have HR := Lib.hid h; clear h
    go_enter Try.func89, Try.ntmps89
    go_wp2_with (first
      | (at_builtin; refine wpList_app_rows (cells := cStr) 51 9 1 16 _ tStrs rfl _ _ rfl w.heap.size _ 0 [] rfl (own_empty w 9 1) (some ad) cap xs rfl (HR.out.later _) (fun _ _ => rfl) (fun y _ u hu => by simp [cStr] at hu; subst hu; rfl) (by omega) (by omega) (by simp) ?_; intro v' w1 hown1 hb1))
    go_ret
    obtain ⟨b', c, rfl, hr⟩ := Rows.of_own (cells := cStr) (xs := xs) (by simpa using hown1) (fun k hk j u hu => by simpa using flat_get cStr 1 xs (fun _ _ => rfl) k hk j u hu) (by omega)
    exact ⟨b', c, by simp, hr, (fun ad e => own_base hown1 (by rw [e])), (fun ad e => own_tag hown1 (by rw [e])), (balloc (Below.refl _ _) _).trans hb1⟩

set_option maxRecDepth 20000 in
theorem clone_attrs {w : World} {a : Option Addr} {cap : Nat} {xs : List AttrV} (h : RAttrs w a cap xs) (hs : xs.length ≤ 1024) :
    Calls Try.prog 90 #[.slice a xs.length cap] w fun e w' => ∃ a' cap', e = .returned (.slice a' xs.length cap') ∧ RAttrs w' a' cap' xs ∧ (∀ ad, a' = some ad → w.heap.size ≤ ad.block) ∧ Tagged w' a' 92 ∧ Below w.heap.size w w' := by
  cases ha : a with
  | none =>
    subst ha
    have hc := h.nil rfl
    subst hc
    have hx : xs = [] := List.eq_nil_of_length_eq_zero (by have := h.le; omega)
    subst hx
    go_enter Try.func90, Try.ntmps90
    go_wp2
    go_ret
    exact ⟨none, 0, rfl, h, (fun _ e => by cases e), (fun _ e => by cases e), Below.refl _ _⟩
  | some ad =>
    subst ha
    have HR := Lib.hid h; clear h
    go_enter Try.func90, Try.ntmps90
    go_wp2_with (first
      | (at_builtin; refine wpList_app_rows (cells := AttrV.cells) 52 92 2 32 _ tAttrs rfl _ _ rfl w.heap.size _ 0 [] rfl (own_empty w 92 2) (some ad) cap xs rfl (HR.out.later _) (fun _ _ => rfl) (fun y _ => AttrV.one y) (by omega) (by omega) (by simp) ?_; intro v' w1 hown1 hb1))
    go_ret
    obtain ⟨b', c, rfl, hr⟩ := Rows.of_own (cells := AttrV.cells) (xs := xs) (by simpa using hown1) (fun k hk j u hu => by simpa using flat_get AttrV.cells 2 xs (fun _ _ => rfl) k hk j u hu) (by omega)
    exact ⟨b', c, by simp, hr, (fun ad e => own_base hown1 (by rw [e])), (fun ad e => own_tag hown1 (by rw [e])), (balloc (Below.refl _ _) _).trans hb1⟩

end Go.Proofs.Ytckokehpdgjacaa
