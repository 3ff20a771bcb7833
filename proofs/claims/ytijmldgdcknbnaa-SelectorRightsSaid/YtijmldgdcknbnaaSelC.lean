/-
  Layer 7: may a selector be? The program's searches.
-/
import Derived.Test.YtijmldgdcknbnaaSelB
import Derived.Test.YtijmldgdcknbnaaNames
namespace Go.Proofs.Ytijmldgdcknbnaa
open Go Go.RowKit Pl Sy
set_option linter.unusedVariables false
set_option linter.unusedSimpArgs false

/-- a search: a loop that ends at the first that fits -/
theorem Sy.scan {α : Type} {P : Program} {body : Code} (xs : List α) (g : α → Bool) (d : α) (F E : Int → Fr) (M : Mem)
    (step : ∀ (k : Int) (n : Nat) (G : Ex → Fr → Mem → Prop), 0 ≤ k → k ≤ xs.length → (k < xs.length → g (xs.getD k.toNat d) = false → LoopTo P body n (F (k + 1)) M G) → (k < xs.length → g (xs.getD k.toNat d) = true → G .ret (E k) M) → (k = xs.length → G (.exit 0) (F k) M) → LoopTo P body (n + 1) (F k) M G) :
    LoopTo P body (xs.length + 1) (F 0) M fun ex F' M' => M' = M ∧ ((0 ≤ idxF g xs 0 ∧ ex = .ret ∧ F' = E (idxF g xs 0)) ∨ (idxF g xs 0 = -1 ∧ ex = .exit 0 ∧ F' = F xs.length)) := by
  have key : ∀ (l pre : List α) (k : Int), xs = pre ++ l → k = pre.length → LoopTo P body (l.length + 1) (F k) M fun ex F' M' => M' = M ∧ ((0 ≤ idxF g l pre.length ∧ ex = .ret ∧ F' = E (idxF g l pre.length)) ∨ (idxF g l pre.length = -1 ∧ ex = .exit 0 ∧ F' = F xs.length)) := by
    intro l
    induction l with
    | nil =>
      intro pre k h hk
      have hl : xs.length = pre.length := by rw [h]; simp
      refine step k _ _ (by omega) (by omega) (fun h1 _ => by omega) (fun h1 _ => by omega) (fun h1 => ⟨rfl, .inr ⟨rfl, rfl, by rw [h1]⟩⟩)
    | cons x l ih =>
      intro pre k h hk
      have hl : xs.length = pre.length + l.length + 1 := by rw [h]; simp; omega
      have hg : xs.getD k.toNat d = x := by rw [h]; exact getD_at _ _ _ _ _ hk
      refine step k _ _ (by omega) (by omega) (fun h1 h2 => ?_) (fun h1 h2 => ⟨rfl, .inl ?_⟩) (fun h1 => by omega)
      · rw [hg] at h2
        have e : idxF g (x :: l) pre.length = idxF g l (pre ++ [x]).length := by
          show (if g x then _ else _) = _
          rw [if_neg (by rw [h2]; simp)]
          simp
        rw [e]
        exact ih (pre ++ [x]) (k + 1) (by rw [h]; simp) (by simp; omega)
      · rw [hg] at h2
        have e : idxF g (x :: l) pre.length = (pre.length : Int) := by
          show (if g x then _ else _) = _
          rw [if_pos h2]
        rw [e, hk]
        exact ⟨by omega, rfl, rfl⟩
  exact key xs [] 0 rfl rfl
/-- the first place below n that fits; -1: none -/
def idxN (g : Nat → Bool) (n : Nat) : Int := idxF g (List.range n) 0
def anyN (g : Nat → Bool) (n : Nat) : Bool := (List.range n).any g
theorem anyN_idx (g : Nat → Bool) (n : Nat) : leI 0 (idxN g n) = anyN g n := by rw [leI_eq]; exact idxF_any g _ 0
theorem idxF_lt {α : Type} (g : α → Bool) : ∀ (xs : List α) (n : Nat), idxF g xs n < n + xs.length
  | [], n => by show (-1 : Int) < _; simp; omega
  | x :: xs, n => by
    show (if g x then _ else _) < _
    have := idxF_lt g xs (n + 1)
    simp only [List.length_cons]
    split <;> omega
theorem Sy.scanN {P : Program} {body : Code} (m : Nat) (g : Nat → Bool) (F E : Int → Fr) (M : Mem)
    (step : ∀ (k : Int) (n : Nat) (G : Ex → Fr → Mem → Prop), 0 ≤ k → k ≤ m → (k < m → g k.toNat = false → LoopTo P body n (F (k + 1)) M G) → (k < m → g k.toNat = true → G .ret (E k) M) → (k = m → G (.exit 0) (F k) M) → LoopTo P body (n + 1) (F k) M G) :
    LoopTo P body (m + 1) (F 0) M fun ex F' M' => M' = M ∧ ((0 ≤ idxN g m ∧ ex = .ret ∧ F' = E (idxN g m)) ∨ (idxN g m = -1 ∧ ex = .exit 0 ∧ F' = F m)) := by
  have h := scan (P := P) (body := body) (List.range m) g 0 F E M fun k n G h0 h1 c1 c2 c3 => by
    simp only [List.length_range] at h1 c1 c2 c3
    have e : k < m → (List.range m).getD k.toNat 0 = k.toNat := fun h => by
      rw [List.getD_eq_getElem?_getD, List.getElem?_eq_getElem (by simp; omega)]
      simp
    exact step k n G h0 h1 (fun a b => c1 a (by rw [e a]; exact b)) (fun a b => c2 a (by rw [e a]; exact b)) c3
  simp only [List.length_range] at h
  exact h
/-- is a text no name? -/
def lacksB (s : ByteArray) : Bool := !nameL s.data.toList
/-- may a test not be? -/
def oddB (t : TestV) : Bool := !nameL t.name.data.toList || !textL t.value.data.toList || !t.equal && !bytesEq t.value.data.toList []
noncomputable abbrev Sy.cName : Con Try.prog := str1 115 (fun s => boo (nameL s.data.toList)) (fun s => s.size ≤ maxLen) (fun _ => trivial) fun s h => old (us := [.string s]) (fun w => name_p s w h)
noncomputable abbrev Sy.cText : Con Try.prog := str1 118 (fun s => boo (textL s.data.toList)) (fun s => s.size ≤ maxLen) (fun _ => trivial) fun s h => old (us := [.string s]) (fun w => text_p s w h)
/-sy lacks_t
fun (s : ByteArray) (d : D) => reckV [cName] [] 400 30 63 [.lit (.string s)] M0 d
-/
theorem Sy.lacks_t (s : ByteArray) (h : s.size ≤ maxLen) : CallTo Try.prog 63 [.lit (.string s)] M0 fun v _ => v = boo (lacksB s) :=
  toV [cName] [] 400 30 (.yes .done) (.need (@isSo ((@ByteArray.size s) ≤ 9223372036854775807)) (.leaf (boo (!(@Pl.nameL (@Array.toList _ (@ByteArray.data s))))))) (by kernel_rfl) (need_so h rfl)
noncomputable abbrev Sy.cLacks : Con Try.prog := str1 63 (fun s => boo (lacksB s)) (fun s => s.size ≤ maxLen) (fun _ => trivial) lacks_t
abbrev Sy.testA (t : TestV) : AV := .agg [.lit (.string t.name), .lit (.bool t.equal), .lit (.string t.value)]
def TestV.Ok (t : TestV) : Prop := t.name.size ≤ maxLen ∧ t.value.size ≤ maxLen
/-sy odd_t
fun (t : TestV) (d : D) => reckV [cName, cText] [] 400 30 66 [testA t] M0 d
-/
theorem Sy.odd_t (t : TestV) (h : t.Ok) : CallTo Try.prog 66 [testA t] M0 fun v _ => v = boo (oddB t) :=
  toV [cName, cText] [] 400 30 (.yes (.br (.auto 1 (.yes (.auto 1 (.br (.auto 2 (.br (.auto 4 .done) (.auto 4 .done))) (.auto 7 .done))))) (.auto 12 .done))) (.need (@isSo ((@ByteArray.size (t).name) ≤ 9223372036854775807)) (.fork (!(!(@Pl.nameL (@Array.toList _ (@ByteArray.data (t).name))))) (.need (@isSo ((@ByteArray.size (t).value) ≤ 9223372036854775807)) (.fork (!(!(@Pl.textL (@Array.toList _ (@ByteArray.data (t).value))))) (.fork (!(t).equal) (.leaf (boo (!(@bytesEq (@Array.toList _ (@ByteArray.data (t).value)) (@Array.toList _ (@ByteArray.data (@ByteArray.mk (@Array.mk _ [])))))))) (.leaf (boo false))) (.leaf (boo true)))) (.leaf (boo true)))) (by kernel_rfl) (by
    unfold oddB
    refine need_so h.1 (fork_ok (fun h1 => need_so h.2 (fork_ok (fun h2 => fork_ok (fun h3 => ?_) (fun h3 => ?_)) (fun h2 => ?_))) (fun h1 => ?_))
    · have h1' : nameL t.name.data.toList = true := by simpa using h1
      have h2' : textL t.value.data.toList = true := by simpa using h2
      have h3' : t.equal = false := by simpa using h3
      rw [h1', h2', h3']; exact rfl
    · have h1' : nameL t.name.data.toList = true := by simpa using h1
      have h2' : textL t.value.data.toList = true := by simpa using h2
      have h3' : t.equal = true := by simpa using h3
      rw [h1', h2', h3']; exact rfl
    · have h1' : nameL t.name.data.toList = true := by simpa using h1
      have h2' : textL t.value.data.toList = false := by simpa using h2
      rw [h1', h2']; exact rfl
    · have h1' : nameL t.name.data.toList = false := by simpa using h1
      rw [h1']; exact rfl)
noncomputable abbrev Sy.cOdd : Con Try.prog := atX 66 (fun args => match args with | [.agg [.lit (.string a), .lit (.bool b), .lit (.string c)]] => some (⟨a, b, c⟩ : TestV) | _ => none) (fun t => [testA t]) (fun t => boo (oddB t)) TestV.Ok fun t h => ⟨⟨⟨⟨trivial, trivial, trivial, trivial⟩, trivial⟩, trivial⟩, odd_t t h⟩
/-sy cfs_p
fun (xs : List ByteArray) (d : D) => probeV SyTool.probe [cLacks] 400 30 64 [cview xs, .fn (.func 63) [] []] M0 d
-/
/-sy cft_p
fun (xs : List TestV) (d : D) => probeV SyTool.probe [cOdd] 400 30 65 [tview xs, .fn (.func 66) [] []] M0 d
-/
namespace Sy
abbrev csF (xs : List ByteArray) (k j : Int) : Fr := [some ((@AV.view (xs).length 1 (fun x510711 => (fun x736766 => (@AV.lit ([(@Value.string (xs.getD x510711 (@ByteArray.mk (@Array.mk _ []))))].getD x736766 (@Value.tuple (@Array.mk _ [])))))))), some ((@AV.fn (@Fn.func 63) [] [])), none, none, some (int j), none, some ((@AV.view (xs).length 1 (fun x513682 => (fun x549973 => (@AV.lit ([(@Value.string (xs.getD x513682 (@ByteArray.mk (@Array.mk _ []))))].getD x549973 (@Value.tuple (@Array.mk _ [])))))))), some ((int (((xs).length : Nat) : Int))), some (int k), none, none, none, none, none, none, none, none, none, none]
abbrev ctF (xs : List TestV) (k j : Int) : Fr := [some ((@AV.view (xs).length 3 (fun x510711 => (fun x736766 => (@AV.lit ([(@Value.string ((xs.getD x510711 testNone)).name), (@Value.bool ((xs.getD x510711 testNone)).equal), (@Value.string ((xs.getD x510711 testNone)).value)].getD x736766 (@Value.tuple (@Array.mk _ [])))))))), some ((@AV.fn (@Fn.func 66) [] [])), none, none, some (int j), none, some ((@AV.view (xs).length 3 (fun x513682 => (fun x549973 => (@AV.lit ([(@Value.string ((xs.getD x513682 testNone)).name), (@Value.bool ((xs.getD x513682 testNone)).equal), (@Value.string ((xs.getD x513682 testNone)).value)].getD x549973 (@Value.tuple (@Array.mk _ [])))))))), some ((int (((xs).length : Nat) : Int))), some (int k), none, none, none, none, none, none, none, none, none, none]
abbrev csE (xs : List ByteArray) (j : Int) : Fr := [some ((@AV.view (xs).length 1 (fun x510711 => (fun x736766 => (@AV.lit ([(@Value.string (xs.getD x510711 (@ByteArray.mk (@Array.mk _ []))))].getD x736766 (@Value.tuple (@Array.mk _ [])))))))), some ((@AV.fn (@Fn.func 63) [] [])), none, none, some (int j), none, some ((@AV.view (xs).length 1 (fun x513682 => (fun x549973 => (@AV.lit ([(@Value.string (xs.getD x513682 (@ByteArray.mk (@Array.mk _ []))))].getD x549973 (@Value.tuple (@Array.mk _ [])))))))), some ((int (((xs).length : Nat) : Int))), none, none, none, none, none, none, none, none, none, none, none]
abbrev ctE (xs : List TestV) (j : Int) : Fr := [some ((@AV.view (xs).length 3 (fun x510711 => (fun x736766 => (@AV.lit ([(@Value.string ((xs.getD x510711 testNone)).name), (@Value.bool ((xs.getD x510711 testNone)).equal), (@Value.string ((xs.getD x510711 testNone)).value)].getD x736766 (@Value.tuple (@Array.mk _ [])))))))), some ((@AV.fn (@Fn.func 66) [] [])), none, none, some (int j), none, some ((@AV.view (xs).length 3 (fun x513682 => (fun x549973 => (@AV.lit ([(@Value.string ((xs.getD x513682 testNone)).name), (@Value.bool ((xs.getD x513682 testNone)).equal), (@Value.string ((xs.getD x513682 testNone)).value)].getD x549973 (@Value.tuple (@Array.mk _ [])))))))), some ((int (((xs).length : Nat) : Int))), none, none, none, none, none, none, none, none, none, none, none]
end Sy
/-sy cfs_r
fun (xs : List ByteArray) (k : Int) (d : D) => reckL [cLacks] [] 400 30 116 3 [true, true, false, false, true, false, true, true, true, false, false, false, false, false, false, false, false, false, false] (csF xs k 0) M0 d
-/
/-sy cft_r
fun (xs : List TestV) (k : Int) (d : D) => reckL [cOdd] [] 400 30 117 3 [true, true, false, false, true, false, true, true, true, false, false, false, false, false, false, false, false, false, false] (ctF xs k 0) M0 d
-/
def StrsOk (xs : List ByteArray) : Prop := xs.length ≤ 17592186044416 ∧ ∀ s ∈ xs, s.size ≤ maxLen
def TestsOk (xs : List TestV) : Prop := xs.length ≤ 17592186044416 ∧ ∀ t ∈ xs, t.Ok
theorem getD_mem {α : Type} (xs : List α) (k : Int) (d : α) (h0 : 0 ≤ k) (h1 : k < xs.length) : xs.getD k.toNat d ∈ xs := by
  rw [List.getD_eq_getElem?_getD, List.getElem?_eq_getElem (by omega)]
  exact List.getElem_mem _
theorem Sy.cs_scan (xs : List ByteArray) (hx : StrsOk xs) : LoopTo Try.prog (theBody Try.prog 116 3) (xs.length + 1) (csF xs 0 0) M0 fun ex F' M' => M' = M0 ∧ ((0 ≤ idxF lacksB xs 0 ∧ ex = .ret ∧ F' = csF xs (idxF lacksB xs 0) (idxF lacksB xs 0)) ∨ (idxF lacksB xs 0 = -1 ∧ ex = .exit 0 ∧ F' = csF xs xs.length 0)) :=
  scan xs lacksB ⟨#[]⟩ (fun k => csF xs k 0) (fun k => csF xs k k) M0 fun k n G h0 h1 c1 c2 c3 => by
    refine roundL [cLacks] [] 400 30 116 3 Try.func116 rfl (by kernel_rfl) [true, true, false, false, true, false, true, true, true, false, false, false, false, false, false, false, false, false, false] (.br (.yes (.yes (.br .done .done))) .done) (.fork (!(leI (((xs).length : Nat) : Int) k)) (.need (@inR k (xs).length) (.need (@isSo ((@ByteArray.size (xs.getD (k).toNat (@ByteArray.mk (@Array.mk _ [])))) ≤ 9223372036854775807)) (.fork (@lacksB (xs.getD (k).toNat (@ByteArray.mk (@Array.mk _ [])))) (.leaf (Ex.ret, ([(some (@AV.view (xs).length 1 (fun x144576 => (fun x82104 => (@AV.lit ([(@Value.string (xs.getD x144576 (@ByteArray.mk (@Array.mk _ []))))].getD x82104 (@Value.tuple (@Array.mk _ [])))))))), (some (@AV.fn (@Fn.func 63) [] [])), none, none, (some (int k)), none, (some (@AV.view (xs).length 1 (fun x639701 => (fun x299622 => (@AV.lit ([(@Value.string (xs.getD x639701 (@ByteArray.mk (@Array.mk _ []))))].getD x299622 (@Value.tuple (@Array.mk _ [])))))))), (some (int (((xs).length : Nat) : Int))), (some (int k)), none, none, none, none, none, none, none, none, none, none], (@Mem.mk 0 0 [])))) (.leaf (Ex.norm, ([(some (@AV.view (xs).length 1 (fun x315577 => (fun x531074 => (@AV.lit ([(@Value.string (xs.getD x315577 (@ByteArray.mk (@Array.mk _ []))))].getD x531074 (@Value.tuple (@Array.mk _ [])))))))), (some (@AV.fn (@Fn.func 63) [] [])), none, none, (some (int (0 : Int))), none, (some (@AV.view (xs).length 1 (fun x775158 => (fun x78695 => (@AV.lit ([(@Value.string (xs.getD x775158 (@ByteArray.mk (@Array.mk _ []))))].getD x78695 (@Value.tuple (@Array.mk _ [])))))))), (some (int (((xs).length : Nat) : Int))), (some (int (w64 (k + (1 : Int))))), none, none, none, none, none, none, none, none, none, none], (@Mem.mk 0 0 []))))))) (.leaf ((@Ex.exit 0), ([(some (@AV.view (xs).length 1 (fun x932999 => (fun x98187 => (@AV.lit ([(@Value.string (xs.getD x932999 (@ByteArray.mk (@Array.mk _ []))))].getD x98187 (@Value.tuple (@Array.mk _ [])))))))), (some (@AV.fn (@Fn.func 63) [] [])), none, none, (some (int (0 : Int))), none, (some (@AV.view (xs).length 1 (fun x859564 => (fun x640761 => (@AV.lit ([(@Value.string (xs.getD x859564 (@ByteArray.mk (@Array.mk _ []))))].getD x640761 (@Value.tuple (@Array.mk _ [])))))))), (some (int (((xs).length : Nat) : Int))), (some (int k)), none, none, none, none, none, none, none, none, none, none], (@Mem.mk 0 0 []))))) (by kernel_rfl) ?_
    have hl := hx.1
    refine fork_ok (fun h => ?_) (fun h => ?_)
    · simp only [Bool.not_eq_true', Bool.not_eq_false', leI_t, leI_f, eqI_t, eqI_f, inR_t, inR_f, isSo_t, isSo_f] at h
      have hr : inR k xs.length = true := by rw [inR_t]; omega
      refine need_t hr (need_so (hx.2 _ (getD_mem xs k _ h0 (by omega))) (fork_ok (fun h2 => c2 (by omega) h2) (fun h2 => ?_)))
      rw [w64_in (r := k + 1) (by omega)]
      exact c1 (by omega) h2
    · simp only [Bool.not_eq_true', Bool.not_eq_false', leI_t, leI_f, eqI_t, eqI_f, inR_t, inR_f, isSo_t, isSo_f] at h
      exact c3 (by omega)
theorem Sy.ct_scan (xs : List TestV) (hx : TestsOk xs) : LoopTo Try.prog (theBody Try.prog 117 3) (xs.length + 1) (ctF xs 0 0) M0 fun ex F' M' => M' = M0 ∧ ((0 ≤ idxF oddB xs 0 ∧ ex = .ret ∧ F' = ctF xs (idxF oddB xs 0) (idxF oddB xs 0)) ∨ (idxF oddB xs 0 = -1 ∧ ex = .exit 0 ∧ F' = ctF xs xs.length 0)) :=
  scan xs oddB testNone (fun k => ctF xs k 0) (fun k => ctF xs k k) M0 fun k n G h0 h1 c1 c2 c3 => by
    refine roundL [cOdd] [] 400 30 117 3 Try.func117 rfl (by kernel_rfl) [true, true, false, false, true, false, true, true, true, false, false, false, false, false, false, false, false, false, false] (.br (.yes (.yes (.br .done .done))) .done) (.fork (!(leI (((xs).length : Nat) : Int) k)) (.need (@inR k (xs).length) (.need (@isSo (@And ([(@AV.agg [(@AV.lit (@Value.string ((xs.getD (k).toNat testNone)).name)), (boo ((xs.getD (k).toNat testNone)).equal), (@AV.lit (@Value.string ((xs.getD (k).toNat testNone)).value))])] = [(@AV.agg [(@AV.lit (@Value.string ((xs.getD (k).toNat testNone)).name)), (boo ((xs.getD (k).toNat testNone)).equal), (@AV.lit (@Value.string ((xs.getD (k).toNat testNone)).value))])]) (@And ((@ByteArray.size ((xs.getD (k).toNat testNone)).name) ≤ 9223372036854775807) ((@ByteArray.size ((xs.getD (k).toNat testNone)).value) ≤ 9223372036854775807)))) (.fork (@oddB (@TestV.mk ((xs.getD (k).toNat testNone)).name ((xs.getD (k).toNat testNone)).equal ((xs.getD (k).toNat testNone)).value)) (.leaf (Ex.ret, ([(some (@AV.view (xs).length 3 (fun x82104 => (fun x639701 => (@AV.lit ([(@Value.string ((xs.getD x82104 testNone)).name), (@Value.bool ((xs.getD x82104 testNone)).equal), (@Value.string ((xs.getD x82104 testNone)).value)].getD x639701 (@Value.tuple (@Array.mk _ [])))))))), (some (@AV.fn (@Fn.func 66) [] [])), none, none, (some (int k)), none, (some (@AV.view (xs).length 3 (fun x299622 => (fun x533050 => (@AV.lit ([(@Value.string ((xs.getD x299622 testNone)).name), (@Value.bool ((xs.getD x299622 testNone)).equal), (@Value.string ((xs.getD x299622 testNone)).value)].getD x533050 (@Value.tuple (@Array.mk _ [])))))))), (some (int (((xs).length : Nat) : Int))), (some (int k)), none, none, none, none, none, none, none, none, none, none], (@Mem.mk 0 0 [])))) (.leaf (Ex.norm, ([(some (@AV.view (xs).length 3 (fun x531074 => (fun x775158 => (@AV.lit ([(@Value.string ((xs.getD x531074 testNone)).name), (@Value.bool ((xs.getD x531074 testNone)).equal), (@Value.string ((xs.getD x531074 testNone)).value)].getD x775158 (@Value.tuple (@Array.mk _ [])))))))), (some (@AV.fn (@Fn.func 66) [] [])), none, none, (some (int (0 : Int))), none, (some (@AV.view (xs).length 3 (fun x78695 => (fun x144576 => (@AV.lit ([(@Value.string ((xs.getD x78695 testNone)).name), (@Value.bool ((xs.getD x78695 testNone)).equal), (@Value.string ((xs.getD x78695 testNone)).value)].getD x144576 (@Value.tuple (@Array.mk _ [])))))))), (some (int (((xs).length : Nat) : Int))), (some (int (w64 (k + (1 : Int))))), none, none, none, none, none, none, none, none, none, none], (@Mem.mk 0 0 []))))))) (.leaf ((@Ex.exit 0), ([(some (@AV.view (xs).length 3 (fun x932999 => (fun x98187 => (@AV.lit ([(@Value.string ((xs.getD x932999 testNone)).name), (@Value.bool ((xs.getD x932999 testNone)).equal), (@Value.string ((xs.getD x932999 testNone)).value)].getD x98187 (@Value.tuple (@Array.mk _ [])))))))), (some (@AV.fn (@Fn.func 66) [] [])), none, none, (some (int (0 : Int))), none, (some (@AV.view (xs).length 3 (fun x859564 => (fun x640761 => (@AV.lit ([(@Value.string ((xs.getD x859564 testNone)).name), (@Value.bool ((xs.getD x859564 testNone)).equal), (@Value.string ((xs.getD x859564 testNone)).value)].getD x640761 (@Value.tuple (@Array.mk _ [])))))))), (some (int (((xs).length : Nat) : Int))), (some (int k)), none, none, none, none, none, none, none, none, none, none], (@Mem.mk 0 0 []))))) (by kernel_rfl) ?_
    have hl := hx.1
    refine fork_ok (fun h => ?_) (fun h => ?_)
    · simp only [Bool.not_eq_true', Bool.not_eq_false', leI_t, leI_f, eqI_t, eqI_f, inR_t, inR_f, isSo_t, isSo_f] at h
      have hr : inR k xs.length = true := by rw [inR_t]; omega
      refine need_t hr (need_so ⟨rfl, hx.2 _ (getD_mem xs k _ h0 (by omega))⟩ (fork_ok (fun h2 => c2 (by omega) h2) (fun h2 => ?_)))
      rw [w64_in (r := k + 1) (by omega)]
      exact c1 (by omega) h2
    · simp only [Bool.not_eq_true', Bool.not_eq_false', leI_t, leI_f, eqI_t, eqI_f, inR_t, inR_f, isSo_t, isSo_f] at h
      exact c3 (by omega)
namespace Sy
noncomputable abbrev lpCs (xs : List ByteArray) : Lp Try.prog where
  f := 116
  key := 3
  S := formS (fun F M => slotI F 8) (fun k => csF xs k 0) (fun _ => M0) (fun k => StrsOk xs ∧ k = 0) (fun k => .fork (leI 0 (idxF lacksB xs 0)) (.leaf (.ret, csE xs (idxF lacksB xs 0), M0)) (.leaf (.exit 0, csE xs 0, M0))) [true, true, false, false, true, false, true, true, true, false, false, false, false, false, false, false, false, false, false]
  one := by kernel_rfl
  ok := formS_ok fun k ⟨h1, h2⟩ => by
    subst h2
    refine ⟨xs.length + 1, ?_⟩
    refine ((Sy.cs_scan xs h1).out [true, true, false, false, true, false, true, true, false, false, false, false, false, false, false, false, false, false, false]).mono fun ex F M hg => ?_
    obtain ⟨F0, ⟨hM, hg⟩, rfl⟩ := hg
    rcases hg with ⟨q1, rfl, rfl⟩ | ⟨q1, rfl, rfl⟩
    · exact .inl ⟨by rw [leI_t]; exact q1, by rw [hM]; rfl⟩
    · exact .inr ⟨by rw [leI_f, q1]; omega, by rw [hM]; rfl⟩
noncomputable abbrev lpCt (xs : List TestV) : Lp Try.prog where
  f := 117
  key := 3
  S := formS (fun F M => slotI F 8) (fun k => ctF xs k 0) (fun _ => M0) (fun k => TestsOk xs ∧ k = 0) (fun k => .fork (leI 0 (idxF oddB xs 0)) (.leaf (.ret, ctE xs (idxF oddB xs 0), M0)) (.leaf (.exit 0, ctE xs 0, M0))) [true, true, false, false, true, false, true, true, true, false, false, false, false, false, false, false, false, false, false]
  one := by kernel_rfl
  ok := formS_ok fun k ⟨h1, h2⟩ => by
    subst h2
    refine ⟨xs.length + 1, ?_⟩
    refine ((Sy.ct_scan xs h1).out [true, true, false, false, true, false, true, true, false, false, false, false, false, false, false, false, false, false, false]).mono fun ex F M hg => ?_
    obtain ⟨F0, ⟨hM, hg⟩, rfl⟩ := hg
    rcases hg with ⟨q1, rfl, rfl⟩ | ⟨q1, rfl, rfl⟩
    · exact .inl ⟨by rw [leI_t]; exact q1, by rw [hM]; rfl⟩
    · exact .inr ⟨by rw [leI_f, q1]; omega, by rw [hM]; rfl⟩
end Sy
/-sy cfs_t
fun (xs : List ByteArray) (d : D) => reckV [cLacks] [lpCs xs] 400 30 64 [cview xs, .fn (.func 63) [] []] M0 d
-/
/-sy cft_t
fun (xs : List TestV) (d : D) => reckV [cOdd] [lpCt xs] 400 30 65 [tview xs, .fn (.func 66) [] []] M0 d
-/
/-- does some text of a list? -/
def anyS (g : ByteArray → Bool) (xs : List ByteArray) : Bool := xs.any g
def anyT (g : TestV → Bool) (xs : List TestV) : Bool := xs.any g
theorem Sy.cfs_t (xs : List ByteArray) (h : StrsOk xs) : CallTo Try.prog 64 [cview xs, .fn (.func 63) [] []] M0 fun v _ => v = boo (anyS lacksB xs) :=
  toV [cLacks] [lpCs xs] 400 30 (.br .done .done) (.need (@isSo (@And (((some (@AV.view (xs).length 1 (fun x934859 => (fun x188012 => (@AV.lit ([(@Value.string (xs.getD x934859 (@ByteArray.mk (@Array.mk _ []))))].getD x188012 (@Value.tuple (@Array.mk _ [])))))))) :: (some (@AV.fn (@Fn.func 63) [] [])) :: [none, none, (some (int (0 : Int))), none, (some (@AV.view (xs).length 1 (fun x93156 => (fun x412665 => (@AV.lit ([(@Value.string (xs.getD x93156 (@ByteArray.mk (@Array.mk _ []))))].getD x412665 (@Value.tuple (@Array.mk _ [])))))))), (some (int (((xs).length : Nat) : Int))), (some (int (0 : Int))), none, none, none, none, none, none, none, none, none, none]) = [(some (@AV.view (xs).length 1 (fun x346626 => (fun x290742 => (@AV.lit ([(@Value.string (xs.getD x346626 (@ByteArray.mk (@Array.mk _ []))))].getD x290742 (@Value.tuple (@Array.mk _ [])))))))), (some (@AV.fn (@Fn.func 63) [] [])), none, none, (some (int (0 : Int))), none, (some (@AV.view (xs).length 1 (fun x676903 => (fun x582675 => (@AV.lit ([(@Value.string (xs.getD x676903 (@ByteArray.mk (@Array.mk _ []))))].getD x582675 (@Value.tuple (@Array.mk _ [])))))))), (some (int (((xs).length : Nat) : Int))), (some (int (0 : Int))), none, none, none, none, none, none, none, none, none, none]) ((@Mem.mk 0 0 []) = M0))) (.need (@isSo (@And (@And ((xs).length ≤ 17592186044416) (∀ (s : ByteArray), s ∈ xs → s.size ≤ maxLen)) ((0 : Int) = (0 : Int)))) (.fork (leI (0 : Int) (@Pl.idxF _ lacksB xs 0)) (.leaf (boo (leI (0 : Int) (@Pl.idxF _ lacksB xs 0)))) (.leaf (boo false))))) (by kernel_rfl) (by
    unfold anyS
    rw [← idxF_any lacksB xs 0]
    refine need_so ⟨rfl, rfl⟩ (need_so ⟨h, rfl⟩ (fork_ok (fun h1 => ?_) (fun h1 => ?_)))
    · rw [leI_eq]; exact rfl
    · rw [leI_eq] at h1; rw [h1]; exact rfl)
theorem Sy.cft_t (xs : List TestV) (h : TestsOk xs) : CallTo Try.prog 65 [tview xs, .fn (.func 66) [] []] M0 fun v _ => v = boo (anyT oddB xs) :=
  toV [cOdd] [lpCt xs] 400 30 (.br .done .done) (.need (@isSo (@And (((some (@AV.view (xs).length 3 (fun x934859 => (fun x188012 => (@AV.lit ([(@Value.string ((xs.getD x934859 testNone)).name), (@Value.bool ((xs.getD x934859 testNone)).equal), (@Value.string ((xs.getD x934859 testNone)).value)].getD x188012 (@Value.tuple (@Array.mk _ [])))))))) :: (some (@AV.fn (@Fn.func 66) [] [])) :: [none, none, (some (int (0 : Int))), none, (some (@AV.view (xs).length 3 (fun x93156 => (fun x412665 => (@AV.lit ([(@Value.string ((xs.getD x93156 testNone)).name), (@Value.bool ((xs.getD x93156 testNone)).equal), (@Value.string ((xs.getD x93156 testNone)).value)].getD x412665 (@Value.tuple (@Array.mk _ [])))))))), (some (int (((xs).length : Nat) : Int))), (some (int (0 : Int))), none, none, none, none, none, none, none, none, none, none]) = [(some (@AV.view (xs).length 3 (fun x346626 => (fun x290742 => (@AV.lit ([(@Value.string ((xs.getD x346626 testNone)).name), (@Value.bool ((xs.getD x346626 testNone)).equal), (@Value.string ((xs.getD x346626 testNone)).value)].getD x290742 (@Value.tuple (@Array.mk _ [])))))))), (some (@AV.fn (@Fn.func 66) [] [])), none, none, (some (int (0 : Int))), none, (some (@AV.view (xs).length 3 (fun x676903 => (fun x582675 => (@AV.lit ([(@Value.string ((xs.getD x676903 testNone)).name), (@Value.bool ((xs.getD x676903 testNone)).equal), (@Value.string ((xs.getD x676903 testNone)).value)].getD x582675 (@Value.tuple (@Array.mk _ [])))))))), (some (int (((xs).length : Nat) : Int))), (some (int (0 : Int))), none, none, none, none, none, none, none, none, none, none]) ((@Mem.mk 0 0 []) = M0))) (.need (@isSo (@And (@And ((xs).length ≤ 17592186044416) (∀ (t : TestV), t ∈ xs → t.Ok)) ((0 : Int) = (0 : Int)))) (.fork (leI (0 : Int) (@Pl.idxF _ oddB xs 0)) (.leaf (boo (leI (0 : Int) (@Pl.idxF _ oddB xs 0)))) (.leaf (boo false))))) (by kernel_rfl) (by
    unfold anyT
    rw [← idxF_any oddB xs 0]
    refine need_so ⟨rfl, rfl⟩ (need_so ⟨h, rfl⟩ (fork_ok (fun h1 => ?_) (fun h1 => ?_)))
    · rw [leI_eq]; exact rfl
    · rw [leI_eq] at h1; rw [h1]; exact rfl)
noncomputable abbrev Sy.cAnyS (xs : List ByteArray) : Con Try.prog := at1 64 [cview xs, .fn (.func 63) [] []] (boo (anyS lacksB xs)) (StrsOk xs) fun h => ⟨⟨⟨viewOf_free strCells ⟨#[]⟩ 1 xs, ⟨trivial, trivial⟩, trivial⟩, trivial⟩, cfs_t xs h⟩
noncomputable abbrev Sy.cAnyT (xs : List TestV) : Con Try.prog := at1 65 [tview xs, .fn (.func 66) [] []] (boo (anyT oddB xs)) (TestsOk xs) fun h => ⟨⟨⟨viewOf_free TestV.cells testNone 3 xs, ⟨trivial, trivial⟩, trivial⟩, trivial⟩, cft_t xs h⟩
abbrev Sy.partG (p : PartV) : AV := .agg [int p.comb, .lit (.string p.tag), .lit (.string p.id), cview p.cls, tview p.tests, int p.states]
theorem Sy.partG_free (p : PartV) : Free (partG p) := ⟨trivial, trivial, trivial, viewOf_free strCells ⟨#[]⟩ 1 _, viewOf_free TestV.cells testNone 3 _, trivial, trivial⟩
def PartOk (p : PartV) : Prop := p.tag.size ≤ maxLen ∧ p.id.size ≤ maxLen ∧ StrsOk p.cls ∧ TestsOk p.tests
/-sy wrong_t
fun (p : PartV) (d : D) => reckV [cLacks, cAnyS p.cls, cAnyT p.tests] [] 400 30 35 [partG p] M0 d
-/
/-- may a part not be? -/
def wrongB (p : PartV) : Bool := (!bytesEq p.tag.data.toList [] && lacksB p.tag) || ((!bytesEq p.id.data.toList [] && lacksB p.id) || (!leI 0 p.states || (!leI p.states 7 || (!leI p.cls.length 8 || (!leI p.tests.length 8 || (anyS lacksB p.cls || anyT oddB p.tests))))))
theorem Sy.wrong_t (p : PartV) (h : PartOk p) : CallTo Try.prog 35 [partG p] M0 fun v _ => v = boo (wrongB p) :=
  toV [cLacks, cAnyS p.cls, cAnyT p.tests] [] 400 30 (.br (.auto 1 (.yes (.auto 0 (.br (.auto 2 (.br (.auto 1 (.yes (.auto 2 (.br (.auto 2 (.br (.auto 2 (.br .done (.br (.auto 3 (.br .done (.yes (.br (.auto 1 (.yes (.auto 0 .done))) (.auto 2 .done))))) (.auto 4 .done)))) (.auto 3 .done))) (.auto 7 .done))))) (.auto 8 (.br (.auto 2 (.br .done (.br (.auto 3 (.br .done (.yes (.br (.auto 1 (.yes (.auto 0 .done))) (.auto 2 .done))))) (.auto 4 .done)))) (.auto 3 .done))))) (.auto 16 .done))))) (.auto 6 (.br (.auto 1 (.yes (.auto 2 (.br (.auto 2 (.br (.auto 2 (.br .done (.br (.auto 3 (.br .done (.yes (.br (.auto 1 (.yes (.auto 0 .done))) (.auto 2 .done))))) (.auto 4 .done)))) (.auto 3 .done))) (.auto 7 .done))))) (.auto 8 (.br (.auto 2 (.br .done (.br (.auto 3 (.br .done (.yes (.br (.auto 1 (.yes (.auto 0 .done))) (.auto 2 .done))))) (.auto 4 .done)))) (.auto 3 .done)))))) (.fork (!(@bytesEq (@Array.toList _ (@ByteArray.data (p).tag)) (@Array.toList _ (@ByteArray.data (@ByteArray.mk (@Array.mk _ [])))))) (.need (@isSo ((@ByteArray.size (p).tag) ≤ 9223372036854775807)) (.fork (!(@lacksB (p).tag)) (.fork (!(@bytesEq (@Array.toList _ (@ByteArray.data (p).id)) (@Array.toList _ (@ByteArray.data (@ByteArray.mk (@Array.mk _ [])))))) (.need (@isSo ((@ByteArray.size (p).id) ≤ 9223372036854775807)) (.fork (!(@lacksB (p).id)) (.fork (!(!(leI (0 : Int) (p).states))) (.fork (!(leI (p).states (7 : Int))) (.leaf (boo true)) (.fork (!(!(leI ((((p).cls).length : Nat) : Int) (8 : Int)))) (.fork (!(leI ((((p).tests).length : Nat) : Int) (8 : Int))) (.leaf (boo true)) (.need (@isSo (@And ([(@AV.view ((p).cls).length 1 (fun x306070 => (fun x976250 => (@AV.lit ([(@Value.string ((p).cls.getD x306070 (@ByteArray.mk (@Array.mk _ []))))].getD x976250 (@Value.tuple (@Array.mk _ []))))))), (@AV.fn (@Fn.func 63) [] [])] = [(@AV.view ((p).cls).length 1 (fun x183929 => (fun x559001 => (@AV.lit ([(@Value.string ((p).cls.getD x183929 (@ByteArray.mk (@Array.mk _ []))))].getD x559001 (@Value.tuple (@Array.mk _ []))))))), (@AV.fn (@Fn.func 63) [] [])]) (@And (((p).cls).length ≤ 17592186044416) (∀ (s : ByteArray), s ∈ p.cls → s.size ≤ maxLen)))) (.fork (!(@anyS lacksB (p).cls)) (.need (@isSo (@And ([(@AV.view ((p).tests).length 3 (fun x473548 => (fun x898843 => (@AV.lit ([(@Value.string (((p).tests.getD x473548 testNone)).name), (@Value.bool (((p).tests.getD x473548 testNone)).equal), (@Value.string (((p).tests.getD x473548 testNone)).value)].getD x898843 (@Value.tuple (@Array.mk _ []))))))), (@AV.fn (@Fn.func 66) [] [])] = [(@AV.view ((p).tests).length 3 (fun x351903 => (fun x992478 => (@AV.lit ([(@Value.string (((p).tests.getD x351903 testNone)).name), (@Value.bool (((p).tests.getD x351903 testNone)).equal), (@Value.string (((p).tests.getD x351903 testNone)).value)].getD x992478 (@Value.tuple (@Array.mk _ []))))))), (@AV.fn (@Fn.func 66) [] [])]) (@And (((p).tests).length ≤ 17592186044416) (∀ (t : TestV), t ∈ p.tests → t.Ok)))) (.leaf (boo (@anyT oddB (p).tests)))) (.leaf (boo true))))) (.leaf (boo true)))) (.leaf (boo true))) (.leaf (boo true)))) (.fork (!(!(leI (0 : Int) (p).states))) (.fork (!(leI (p).states (7 : Int))) (.leaf (boo true)) (.fork (!(!(leI ((((p).cls).length : Nat) : Int) (8 : Int)))) (.fork (!(leI ((((p).tests).length : Nat) : Int) (8 : Int))) (.leaf (boo true)) (.need (@isSo (@And ([(@AV.view ((p).cls).length 1 (fun x401175 => (fun x994531 => (@AV.lit ([(@Value.string ((p).cls.getD x401175 (@ByteArray.mk (@Array.mk _ []))))].getD x994531 (@Value.tuple (@Array.mk _ []))))))), (@AV.fn (@Fn.func 63) [] [])] = [(@AV.view ((p).cls).length 1 (fun x935954 => (fun x735301 => (@AV.lit ([(@Value.string ((p).cls.getD x935954 (@ByteArray.mk (@Array.mk _ []))))].getD x735301 (@Value.tuple (@Array.mk _ []))))))), (@AV.fn (@Fn.func 63) [] [])]) (@And (((p).cls).length ≤ 17592186044416) (∀ (s : ByteArray), s ∈ p.cls → s.size ≤ maxLen)))) (.fork (!(@anyS lacksB (p).cls)) (.need (@isSo (@And ([(@AV.view ((p).tests).length 3 (fun x711117 => (fun x343552 => (@AV.lit ([(@Value.string (((p).tests.getD x711117 testNone)).name), (@Value.bool (((p).tests.getD x711117 testNone)).equal), (@Value.string (((p).tests.getD x711117 testNone)).value)].getD x343552 (@Value.tuple (@Array.mk _ []))))))), (@AV.fn (@Fn.func 66) [] [])] = [(@AV.view ((p).tests).length 3 (fun x424680 => (fun x193343 => (@AV.lit ([(@Value.string (((p).tests.getD x424680 testNone)).name), (@Value.bool (((p).tests.getD x424680 testNone)).equal), (@Value.string (((p).tests.getD x424680 testNone)).value)].getD x193343 (@Value.tuple (@Array.mk _ []))))))), (@AV.fn (@Fn.func 66) [] [])]) (@And (((p).tests).length ≤ 17592186044416) (∀ (t : TestV), t ∈ p.tests → t.Ok)))) (.leaf (boo (@anyT oddB (p).tests)))) (.leaf (boo true))))) (.leaf (boo true)))) (.leaf (boo true)))) (.leaf (boo true)))) (.fork (!(@bytesEq (@Array.toList _ (@ByteArray.data (p).id)) (@Array.toList _ (@ByteArray.data (@ByteArray.mk (@Array.mk _ [])))))) (.need (@isSo ((@ByteArray.size (p).id) ≤ 9223372036854775807)) (.fork (!(@lacksB (p).id)) (.fork (!(!(leI (0 : Int) (p).states))) (.fork (!(leI (p).states (7 : Int))) (.leaf (boo true)) (.fork (!(!(leI ((((p).cls).length : Nat) : Int) (8 : Int)))) (.fork (!(leI ((((p).tests).length : Nat) : Int) (8 : Int))) (.leaf (boo true)) (.need (@isSo (@And ([(@AV.view ((p).cls).length 1 (fun x655600 => (fun x661688 => (@AV.lit ([(@Value.string ((p).cls.getD x655600 (@ByteArray.mk (@Array.mk _ []))))].getD x661688 (@Value.tuple (@Array.mk _ []))))))), (@AV.fn (@Fn.func 63) [] [])] = [(@AV.view ((p).cls).length 1 (fun x257755 => (fun x492338 => (@AV.lit ([(@Value.string ((p).cls.getD x257755 (@ByteArray.mk (@Array.mk _ []))))].getD x492338 (@Value.tuple (@Array.mk _ []))))))), (@AV.fn (@Fn.func 63) [] [])]) (@And (((p).cls).length ≤ 17592186044416) (∀ (s : ByteArray), s ∈ p.cls → s.size ≤ maxLen)))) (.fork (!(@anyS lacksB (p).cls)) (.need (@isSo (@And ([(@AV.view ((p).tests).length 3 (fun x3038 => (fun x117513 => (@AV.lit ([(@Value.string (((p).tests.getD x3038 testNone)).name), (@Value.bool (((p).tests.getD x3038 testNone)).equal), (@Value.string (((p).tests.getD x3038 testNone)).value)].getD x117513 (@Value.tuple (@Array.mk _ []))))))), (@AV.fn (@Fn.func 66) [] [])] = [(@AV.view ((p).tests).length 3 (fun x561585 => (fun x175260 => (@AV.lit ([(@Value.string (((p).tests.getD x561585 testNone)).name), (@Value.bool (((p).tests.getD x561585 testNone)).equal), (@Value.string (((p).tests.getD x561585 testNone)).value)].getD x175260 (@Value.tuple (@Array.mk _ []))))))), (@AV.fn (@Fn.func 66) [] [])]) (@And (((p).tests).length ≤ 17592186044416) (∀ (t : TestV), t ∈ p.tests → t.Ok)))) (.leaf (boo (@anyT oddB (p).tests)))) (.leaf (boo true))))) (.leaf (boo true)))) (.leaf (boo true))) (.leaf (boo true)))) (.fork (!(!(leI (0 : Int) (p).states))) (.fork (!(leI (p).states (7 : Int))) (.leaf (boo true)) (.fork (!(!(leI ((((p).cls).length : Nat) : Int) (8 : Int)))) (.fork (!(leI ((((p).tests).length : Nat) : Int) (8 : Int))) (.leaf (boo true)) (.need (@isSo (@And ([(@AV.view ((p).cls).length 1 (fun x423505 => (fun x681441 => (@AV.lit ([(@Value.string ((p).cls.getD x423505 (@ByteArray.mk (@Array.mk _ []))))].getD x681441 (@Value.tuple (@Array.mk _ []))))))), (@AV.fn (@Fn.func 63) [] [])] = [(@AV.view ((p).cls).length 1 (fun x97748 => (fun x186771 => (@AV.lit ([(@Value.string ((p).cls.getD x97748 (@ByteArray.mk (@Array.mk _ []))))].getD x186771 (@Value.tuple (@Array.mk _ []))))))), (@AV.fn (@Fn.func 63) [] [])]) (@And (((p).cls).length ≤ 17592186044416) (∀ (s : ByteArray), s ∈ p.cls → s.size ≤ maxLen)))) (.fork (!(@anyS lacksB (p).cls)) (.need (@isSo (@And ([(@AV.view ((p).tests).length 3 (fun x961663 => (fun x484566 => (@AV.lit ([(@Value.string (((p).tests.getD x961663 testNone)).name), (@Value.bool (((p).tests.getD x961663 testNone)).equal), (@Value.string (((p).tests.getD x961663 testNone)).value)].getD x484566 (@Value.tuple (@Array.mk _ []))))))), (@AV.fn (@Fn.func 66) [] [])] = [(@AV.view ((p).tests).length 3 (fun x695354 => (fun x87933 => (@AV.lit ([(@Value.string (((p).tests.getD x695354 testNone)).name), (@Value.bool (((p).tests.getD x695354 testNone)).equal), (@Value.string (((p).tests.getD x695354 testNone)).value)].getD x87933 (@Value.tuple (@Array.mk _ []))))))), (@AV.fn (@Fn.func 66) [] [])]) (@And (((p).tests).length ≤ 17592186044416) (∀ (t : TestV), t ∈ p.tests → t.Ok)))) (.leaf (boo (@anyT oddB (p).tests)))) (.leaf (boo true))))) (.leaf (boo true)))) (.leaf (boo true))))) (by kernel_rfl) (by
    obtain ⟨h1, h2, h3, h4⟩ := h
    have e : ([] : List UInt8) = (ByteArray.mk #[]).data.toList := rfl
    unfold wrongB
    rw [e]
    repeat' (first
      | refine fork_ok (fun _ => ?_) (fun _ => ?_)
      | refine need_so h1 ?_
      | refine need_so h2 ?_
      | refine need_so ⟨rfl, h3⟩ ?_
      | refine need_so ⟨rfl, h4⟩ ?_)
    all_goals refine leaf_boo ?_
    all_goals (simp only [Bool.not_eq_true', Bool.not_eq_false', Bool.not_not] at *)
    all_goals simp only [*, Bool.not_true, Bool.not_false, Bool.true_and, Bool.false_and, Bool.or_true, Bool.true_or, Bool.or_false, Bool.false_or])
noncomputable abbrev Sy.cWrong (p : PartV) : Con Try.prog := at1 35 [partG p] (boo (wrongB p)) (PartOk p) fun h => ⟨⟨⟨partG_free p, trivial⟩, trivial⟩, wrong_t p h⟩
end Go.Proofs.Ytijmldgdcknbnaa
