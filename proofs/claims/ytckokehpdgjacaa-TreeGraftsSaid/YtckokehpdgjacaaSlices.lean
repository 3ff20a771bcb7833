/-
  Contracts of the library's IndexFunc and ContainsFunc at strings and at attributes.
-/
import Derived.Test.YtckokehpdgjacaaProg
import Derived.Test.YtckokehpdgjacaaBase
import Derived.Test.YtckokehpdgjacaaNamePlain
namespace Go.Proofs.Ytckokehpdgjacaa
open Go.RowKit Pl
set_option linter.unusedVariables false

set_option maxHeartbeats 400000 in
theorem idx_strs {w : World} {a : Option Addr} {cap : Nat} {xs : List ByteArray} (h : RStrs w a cap xs) (fid : FuncId) (first captured : Array Value) (g : ByteArray → Bool)
    (hfid : ∀ (args : Array Value) (w' : World), (callFunc fid args).run Try.prog w' = .ok (.enter fid args) w')
    (Hf : ∀ (x : ByteArray) (w' : World), x ∈ xs → Below w.heap.size w w' → Calls Try.prog fid (first ++ #[.string x] ++ captured) w' fun e w'' => e = .returned (.bool (g x)) ∧ Below w'.heap.size w' w'') :
    Calls Try.prog 92 #[.slice a xs.length cap, .func (.func fid) first captured] w fun e w' => e = .returned (.int .i64 (idxF g xs 0)) ∧ Below w.heap.size w w' := by
  have HF := Lib.hid Hf; clear Hf
  have hsm := h.sm
  have HR := Lib.hid h; clear h
  go_enter Try.func92, Try.ntmps92
  go_wp2_with fail
  go_loopw [8] (fun t wr => ∃ j : Nat, t = .int .i64 j ∧ j ≤ xs.length ∧ Hid (idxF g xs 0 = idxF g (xs.drop j) j) ∧ Below w.heap.size w wr) (fun t _ => xs.length - (intOf t).toNat)
  case atStart => exact ⟨0, rfl, Nat.zero_le _, rfl, Below.refl _ _⟩
  case round =>
    obtain ⟨j, rfl, hj, hx, hb⟩ := hrel
    by_cases hlt : j < xs.length
    · obtain ⟨bb, off, rfl, hbb, hc⟩ := RStrs.at (HR.out.grow hb) (by intro e; rw [e] at hlt; simp at hlt)
      have hcj := hc j hlt
      clear hc
      have HS := Lib.hid (idxF_step g xs j hlt)
      have HM := Lib.hid (List.getElem_mem hlt)
      generalize hy : xs[j] = y at *
      clear hy
      by_cases hg : g y = true
      · have HG := Lib.hid (HS.out.trans (if_pos hg))
        go_wp2_with (first
          | (refine (HF.out y _ HM.out hb).mono ?_; rintro e w2 ⟨rfl, hb3⟩))
        go_ret
        exact ⟨ret_int (by rw [hx.out, HG.out]), bseq hb hb3⟩
      · have HG := Lib.hid (HS.out.trans (if_neg hg))
        have hg' : g y = false := by simpa using hg
        clear hg
        go_wp2_with (first
          | (refine (HF.out y _ HM.out hb).mono ?_; rintro e w2 ⟨rfl, hb3⟩))
        go_roundw
        case rel => exact ⟨j + 1, by go_num, by omega, by rw [Hid, hx.out, HG.out], bseq hb hb3⟩
        case measure => simp [intOf]; omega
    · go_wp2_with fail
      go_ret
      exact ⟨ret_int (by rw [hx.out, List.drop_of_length_le (by omega)]; rfl), hb⟩

theorem con_strs {w : World} {a : Option Addr} {cap : Nat} {xs : List ByteArray} (h : RStrs w a cap xs) (fid : FuncId) (first captured : Array Value) (g : ByteArray → Bool)
    (hfid : ∀ (args : Array Value) (w' : World), (callFunc fid args).run Try.prog w' = .ok (.enter fid args) w')
    (Hf : ∀ (x : ByteArray) (w' : World), x ∈ xs → Below w.heap.size w w' → Calls Try.prog fid (first ++ #[.string x] ++ captured) w' fun e w'' => e = .returned (.bool (g x)) ∧ Below w'.heap.size w' w'') :
    Calls Try.prog 85 #[.slice a xs.length cap, .func (.func fid) first captured] w fun e w' => e = .returned (.bool (xs.any g)) ∧ Below w.heap.size w w' := by
  have HA := Lib.hid (idxF_any g xs 0)
  have HX := Lib.hid (idx_strs h fid first captured g hfid Hf); clear Hf h
  go_enter Try.func85, Try.ntmps85
  go_wp2_with (go_at_call 92; refine HX.out.mono ?_; rintro e w1 ⟨rfl, hb⟩)
  go_ret
  exact ⟨ret_bool HA.out, hb⟩

set_option maxHeartbeats 400000 in
theorem idx_attrs {w : World} {a : Option Addr} {cap : Nat} {xs : List AttrV} (h : RAttrs w a cap xs) (fid : FuncId) (first captured : Array Value) (g : AttrV → Bool)
    (hfid : ∀ (args : Array Value) (w' : World), (callFunc fid args).run Try.prog w' = .ok (.enter fid args) w')
    (Hf : ∀ (x : AttrV) (w' : World), x ∈ xs → Below w.heap.size w w' → Calls Try.prog fid (first ++ #[.agg #[.string x.name, .string x.value]] ++ captured) w' fun e w'' => e = .returned (.bool (g x)) ∧ Below w'.heap.size w' w'') :
    Calls Try.prog 93 #[.slice a xs.length cap, .func (.func fid) first captured] w fun e w' => e = .returned (.int .i64 (idxF g xs 0)) ∧ Below w.heap.size w w' := by
  have HF := Lib.hid Hf; clear Hf
  have hsm := h.sm
  have HR := Lib.hid h; clear h
  go_enter Try.func93, Try.ntmps93
  go_wp2_with fail
  go_loopw [8] (fun t wr => ∃ j : Nat, t = .int .i64 j ∧ j ≤ xs.length ∧ Hid (idxF g xs 0 = idxF g (xs.drop j) j) ∧ Below w.heap.size w wr) (fun t _ => xs.length - (intOf t).toNat)
  case atStart => exact ⟨0, rfl, Nat.zero_le _, rfl, Below.refl _ _⟩
  case round =>
    obtain ⟨j, rfl, hj, hx, hb⟩ := hrel
    by_cases hlt : j < xs.length
    · obtain ⟨bb, off, rfl, hbb, hc⟩ := RAttrs.at (HR.out.grow hb) (by intro e; rw [e] at hlt; simp at hlt)
      have hcj := hc j hlt
      clear hc
      have HS := Lib.hid (idxF_step g xs j hlt)
      have HM := Lib.hid (List.getElem_mem hlt)
      generalize hy : xs[j] = y at *
      clear hy
      by_cases hg : g y = true
      · have HG := Lib.hid (HS.out.trans (if_pos hg))
        go_wp2_with (first
          | (refine (HF.out y _ HM.out hb).mono ?_; rintro e w2 ⟨rfl, hb3⟩))
        go_ret
        exact ⟨ret_int (by rw [hx.out, HG.out]), bseq hb hb3⟩
      · have HG := Lib.hid (HS.out.trans (if_neg hg))
        have hg' : g y = false := by simpa using hg
        clear hg
        go_wp2_with (first
          | (refine (HF.out y _ HM.out hb).mono ?_; rintro e w2 ⟨rfl, hb3⟩))
        go_roundw
        case rel => exact ⟨j + 1, by go_num, by omega, by rw [Hid, hx.out, HG.out], bseq hb hb3⟩
        case measure => simp [intOf]; omega
    · go_wp2_with fail
      go_ret
      exact ⟨ret_int (by rw [hx.out, List.drop_of_length_le (by omega)]; rfl), hb⟩

theorem con_attrs {w : World} {a : Option Addr} {cap : Nat} {xs : List AttrV} (h : RAttrs w a cap xs) (fid : FuncId) (first captured : Array Value) (g : AttrV → Bool)
    (hfid : ∀ (args : Array Value) (w' : World), (callFunc fid args).run Try.prog w' = .ok (.enter fid args) w')
    (Hf : ∀ (x : AttrV) (w' : World), x ∈ xs → Below w.heap.size w w' → Calls Try.prog fid (first ++ #[.agg #[.string x.name, .string x.value]] ++ captured) w' fun e w'' => e = .returned (.bool (g x)) ∧ Below w'.heap.size w' w'') :
    Calls Try.prog 87 #[.slice a xs.length cap, .func (.func fid) first captured] w fun e w' => e = .returned (.bool (xs.any g)) ∧ Below w.heap.size w w' := by
  have HA := Lib.hid (idxF_any g xs 0)
  have HX := Lib.hid (idx_attrs h fid first captured g hfid Hf); clear Hf h
  go_enter Try.func87, Try.ntmps87
  go_wp2_with (go_at_call 93; refine HX.out.mono ?_; rintro e w1 ⟨rfl, hb⟩)
  go_ret
  exact ⟨ret_bool HA.out, hb⟩

end Go.Proofs.Ytckokehpdgjacaa
