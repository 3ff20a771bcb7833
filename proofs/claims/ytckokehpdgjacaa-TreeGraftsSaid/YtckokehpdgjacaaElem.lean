/-
  Contracts of tree.element, tree.words, and of the reference's Right: is a node right?
-/
import Derived.Test.YtckokehpdgjacaaNames
import Derived.Test.YtckokehpdgjacaaSlices
namespace Go.Proofs.Ytckokehpdgjacaa
open Go.RowKit Pl
set_option linter.unusedVariables false

def nmB (s : ByteArray) : Bool := nameL s.data.toList
def txB (s : ByteArray) : Bool := textL s.data.toList
def atB (a : AttrV) : Bool := nmB a.name && txB a.value

/-- what a node's reading owes to its memory: its classes and attributes -/
structure NodeX (w : World) (n : NodeV) (cs : List ByteArray) (ats : List AttrV) : Prop where
  tag : n.tag.size ≤ maxLen
  id : n.id.size ≤ maxLen
  text : n.text.size ≤ maxLen
  cls : ∃ a cap, n.cls = .slice a cs.length cap ∧ RStrs w a cap cs
  att : ∃ a cap, n.att = .slice a ats.length cap ∧ RAttrs w a cap ats
  csz : ∀ c ∈ cs, c.size ≤ maxLen
  asz : ∀ a ∈ ats, a.name.size ≤ maxLen ∧ a.value.size ≤ maxLen

theorem NodeX.grow {w w' : World} {n : NodeV} {cs : List ByteArray} {ats : List AttrV} (h : NodeX w n cs ats) (hb : Below w.heap.size w w') : NodeX w' n cs ats := by
  obtain ⟨a, cap, e, h1⟩ := h.cls
  obtain ⟨a', cap', e', h2⟩ := h.att
  exact ⟨h.tag, h.id, h.text, ⟨a, cap, e, h1.grow hb⟩, ⟨a', cap', e', h2.grow hb⟩, h.csz, h.asz⟩

def allNm (cs : List ByteArray) : Bool := cs.all nmB
def allAt (ats : List AttrV) : Bool := ats.all atB
def elemB (n : NodeV) (cs : List ByteArray) (ats : List AttrV) : Bool :=
  nmB n.tag && (n.id.toList.isEmpty || nmB n.id) && n.text.toList.isEmpty && decide (cs.length ≤ 8) && decide (ats.length ≤ 8) && allNm cs && allAt ats
def wordsB (n : NodeV) (cs : List ByteArray) (ats : List AttrV) : Bool :=
  n.tag.toList.isEmpty && n.id.toList.isEmpty && decide (cs.length = 0) && decide (ats.length = 0) && txB n.text
def rightB (n : NodeV) (cs : List ByteArray) (ats : List AttrV) : Bool := if n.tag.toList.isEmpty then wordsB n cs ats else elemB n cs ats

theorem nm_empty {s : ByteArray} (h : s.toList.isEmpty = true) : nmB s = false := by
  rw [str_emp] at h
  have := of_decide_eq_true h
  rw [this]; rfl

theorem right_eq (n : NodeV) (cs : List ByteArray) (ats : List AttrV) : (elemB n cs ats || wordsB n cs ats) = rightB n cs ats := by
  unfold rightB
  by_cases h : n.tag.toList.isEmpty = true
  · rw [if_pos h]; unfold elemB; rw [nm_empty h]; simp
  · rw [if_neg h]; unfold wordsB; simp [h]

theorem lacks_p (s : ByteArray) (w : World) (hs : s.size ≤ maxLen) : Calls Try.prog 86 #[.string s] w fun e w' => e = .returned (.bool (!nmB s)) ∧ w = w' := by
  go_enter Try.func86, Try.ntmps86
  go_wp2_with (go_at_call 22; refine (name_p _ _ hs).mono ?_; rintro e w' ⟨rfl, rfl⟩)
  go_ret
  exact ⟨rfl, rfl⟩

theorem odd_p (s t : ByteArray) (w : World) (hs : s.size ≤ maxLen) (ht : t.size ≤ maxLen) : Calls Try.prog 88 #[.agg #[.string s, .string t]] w fun e w' => e = .returned (.bool (!atB ⟨s, t⟩)) ∧ Below w.heap.size w w' := by
  go_enter Try.func88, Try.ntmps88
  go_wp2_with (first
    | (go_at_call 22; refine (name_p _ _ hs).mono ?_; rintro e w' ⟨rfl, rfl⟩)
    | (go_at_call 24; refine (text_p _ _ ht).mono ?_; rintro e w' ⟨rfl, rfl⟩))
  all_goals
    go_ret
    exact ⟨ret_bool (by unfold atB nmB txB; simp_all), balloc (Below.refl _ _) _⟩

theorem not_any {α : Type} (l : List α) (f : α → Bool) : (!l.any fun x => !f x) = l.all f := by
  induction l with
  | nil => rfl
  | cons x l ih => simp only [List.any_cons, List.all_cons, Bool.not_or, ih, Bool.not_not]

set_option maxHeartbeats 1000000 in
theorem element_p {w : World} {n : NodeV} {cs : List ByteArray} {ats : List AttrV} {a a' : Option Addr} {cap cap' : Nat} (hc : RStrs w a cap cs) (ha : RAttrs w a' cap' ats)
    (t1 : n.tag.size ≤ maxLen) (t2 : n.id.size ≤ maxLen) (h3 : ∀ c ∈ cs, c.size ≤ maxLen) (h4 : ∀ a ∈ ats, a.name.size ≤ maxLen ∧ a.value.size ≤ maxLen) :
    Calls Try.prog 68 #[.agg #[.int .i64 n.parent, .string n.tag, .string n.id, .slice a cs.length cap, .slice a' ats.length cap', .string n.text]] w fun e w' =>
      e = .returned (.bool (elemB n cs ats)) ∧ Below w.heap.size w w' := by
  have hw0 : Below w.heap.size w (w.alloc (.cells #[.int .i64 n.parent, .string n.tag, .string n.id, .slice a cs.length cap, .slice a' ats.length cap', .string n.text] 54)) := balloc (Below.refl _ _) _
  have C1 : ∀ W', Below w.heap.size w W' → Calls Try.prog 85 #[.slice a cs.length cap, .func (.func 86) #[] #[]] W' fun e w' => e = .returned (.bool (!allNm cs)) ∧ Below W'.heap.size W' w' := fun W' h => by
    have := con_strs (hc.grow h) 86 #[] #[] (fun s => !nmB s) (enters Try.func86 (by kernel_rfl) rfl)
      (fun x w' hx _ => (lacks_p x w' (h3 x hx)).mono fun e w'' ⟨he, hw⟩ => ⟨he, hw ▸ Below.refl _ _⟩)
    rw [show (cs.any fun s => !nmB s) = !allNm cs by rw [allNm, ← not_any, Bool.not_not]] at this
    exact this
  have C2 : ∀ W', Below w.heap.size w W' → Calls Try.prog 87 #[.slice a' ats.length cap', .func (.func 88) #[] #[]] W' fun e w' => e = .returned (.bool (!allAt ats)) ∧ Below W'.heap.size W' w' := fun W' h => by
    have := con_attrs (ha.grow h) 88 #[] #[] (fun a => !atB a) (enters Try.func88 (by kernel_rfl) rfl)
      (fun x w' hx _ => odd_p x.name x.value w' (h4 x hx).1 (h4 x hx).2)
    rw [show (ats.any fun s => !atB s) = !allAt ats by rw [allAt, ← not_any, Bool.not_not]] at this
    exact this
  have H1 := Lib.hid C1; have H2 := Lib.hid C2; clear C1 C2 h3 h4 hc ha
  go_enter Try.func68, Try.ntmps68
  go_wp2_with (first
    | (go_at_call 22; refine (name_p _ _ (by first | exact t1 | exact t2)).mono ?_; rintro e w' ⟨rfl, rfl⟩)
    | (go_at_call 85; refine (H1.out _ hw0).mono ?_; rintro e w1 ⟨rfl, h1⟩; have hw1 := bseq hw0 h1; have hcc := bcell h1)
    | (go_at_call 87; refine (H2.out _ hw1).mono ?_; rintro e w2 ⟨rfl, h2⟩; have hw2 := bseq hw1 h2))
  all_goals
    go_ret
    first
      | exact ⟨ret_bool (by unfold elemB nmB; simp_all <;> omega), hw2⟩
      | exact ⟨ret_bool (by unfold elemB nmB; simp_all <;> omega), hw1⟩
      | exact ⟨ret_bool (by unfold elemB nmB; simp_all <;> omega), hw0⟩

set_option maxHeartbeats 1000000 in
theorem words_p {w : World} {n : NodeV} {cs : List ByteArray} {ats : List AttrV} {a a' : Option Addr} {cap cap' : Nat} (t3 : n.text.size ≤ maxLen) :
    Calls Try.prog 69 #[.agg #[.int .i64 n.parent, .string n.tag, .string n.id, .slice a cs.length cap, .slice a' ats.length cap', .string n.text]] w fun e w' =>
      e = .returned (.bool (wordsB n cs ats)) ∧ Below w.heap.size w w' := by
  have hw0 : Below w.heap.size w (w.alloc (.cells #[.int .i64 n.parent, .string n.tag, .string n.id, .slice a cs.length cap, .slice a' ats.length cap', .string n.text] 54)) := balloc (Below.refl _ _) _
  go_enter Try.func69, Try.ntmps69
  go_wp2_with (first
    | (go_at_call 24; refine (text_p _ _ t3).mono ?_; rintro e w' ⟨rfl, rfl⟩))
  all_goals
    go_ret
    exact ⟨ret_bool (by unfold wordsB txB; simp_all <;> omega), balloc (Below.refl _ _) _⟩

def e0B (n : NodeV) (cs : List ByteArray) (ats : List AttrV) : Bool :=
  nmB n.tag && (n.id.toList.isEmpty || nmB n.id) && n.text.toList.isEmpty && decide (cs.length ≤ 8) && decide (ats.length ≤ 8)
theorem elem_e0 (n : NodeV) (cs : List ByteArray) (ats : List AttrV) : elemB n cs ats = ((e0B n cs ats && allNm cs) && allAt ats) := rfl

theorem all_drop {α : Type} (f : α → Bool) (l : List α) (k : Nat) (hk : k < l.length) : (l.drop k).all f = (f l[k] && (l.drop (k + 1)).all f) := by
  rw [List.drop_eq_getElem_cons hk]; rfl

set_option maxHeartbeats 4000000 in
theorem right_r {w : World} {n : NodeV} {cs : List ByteArray} {ats : List AttrV} {a a' : Option Addr} {cap cap' : Nat} (hc : RStrs w a cap cs) (ha : RAttrs w a' cap' ats)
    (t1 : n.tag.size ≤ maxLen) (t2 : n.id.size ≤ maxLen) (t3 : n.text.size ≤ maxLen) (h3 : ∀ c ∈ cs, c.size ≤ maxLen) (h4 : ∀ a ∈ ats, a.name.size ≤ maxLen ∧ a.value.size ≤ maxLen) :
    Calls Try.prog 47 #[.agg #[.int .i64 n.parent, .string n.tag, .string n.id, .slice a cs.length cap, .slice a' ats.length cap', .string n.text]] w fun e w' =>
      e = .returned (.bool (rightB n cs ats)) ∧ Below w.heap.size w w' := by
  by_cases he : n.tag.toList.isEmpty = true
  · have HR := Lib.hid (show rightB n cs ats = wordsB n cs ats by unfold rightB; rw [if_pos he])
    have he2 : n.tag.toList = [] := by simpa using he
    clear hc ha h3 h4
    go_enter Try.func47, Try.ntmps47
    go_wp2_with (first
      | (go_at_call 25; refine (text_r _ _ t3).mono ?_; rintro e w' ⟨rfl, rfl⟩))
    all_goals
      go_ret
      exact ⟨ret_bool (by rw [HR.out]; unfold wordsB txB; simp_all <;> omega), balloc (Below.refl _ _) _⟩
  · have he' : n.tag.toList.isEmpty = false := by simpa using he
    have HR := Lib.hid (show rightB n cs ats = ((e0B n cs ats && cs.all nmB) && ats.all atB) by unfold rightB; rw [if_neg he, elem_e0]; rfl)
    have hw0 : Below w.heap.size w (w.alloc (.cells #[.int .i64 n.parent, .string n.tag, .string n.id, .slice a cs.length cap, .slice a' ats.length cap', .string n.text] 54)) := balloc (Below.refl _ _) _
    clear he
    have HC := Lib.hid (hc.grow hw0); have HA := Lib.hid (ha.grow hw0)
    have hlc := hc.sm
    have hla := ha.sm
    have H3 := Lib.hid h3; have H4 := Lib.hid h4
    clear hc ha h3 h4
    by_cases hE : e0B n cs ats = true
    · have HE := Lib.hid hE
      have hparts : nameL n.tag.data.toList = true ∧ (n.id.toList.isEmpty = true ∨ (n.id.toList.isEmpty = false ∧ nameL n.id.data.toList = true)) ∧ n.text.toList.isEmpty = true ∧ cs.length ≤ 8 ∧ ats.length ≤ 8 := by
        unfold e0B nmB at hE
        simp only [Bool.and_eq_true, Bool.or_eq_true, decide_eq_true_eq] at hE
        obtain ⟨⟨⟨⟨q1, q2⟩, q3⟩, q4⟩, q5⟩ := hE
        refine ⟨q1, ?_, q3, q4, q5⟩
        by_cases hi : n.id.toList.isEmpty = true
        · exact .inl hi
        · exact .inr ⟨by simpa using hi, q2.resolve_left hi⟩
      clear hE
      obtain ⟨q1, q2, q3, q4, q5⟩ := hparts
      have z4 : decide ((cs.length : Int) ≤ 8) = true := by simp; omega
      have z5 : decide ((ats.length : Int) ≤ 8) = true := by simp; omega
      rcases q2 with q2 | ⟨q2, q6⟩
      all_goals
        go_enter Try.func47, Try.ntmps47
        go_wp2_with (first
          | (go_at_call 23; refine (name_r _ _ (by first | exact t1 | exact t2)).mono ?_; rintro e w' ⟨rfl, rfl⟩))
        go_loop [4, 3] (fun t o => ∃ (k : Nat) (b : Bool), t = .int .i64 k ∧ o = .bool b ∧ k ≤ cs.length ∧ Hid (cs.all nmB = (b && (cs.drop k).all nmB))) (fun t _ => cs.length - (intOf t).toNat)
        case atStart => exact ⟨0, true, rfl, rfl, Nat.zero_le _, by rw [Hid]; simp⟩
        case round =>
          obtain ⟨k, b, rfl, rfl, hk, hx⟩ := hrel
          have hcase : (k < cs.length ∧ b = true) ∨ (k < cs.length ∧ b = false) ∨ cs.length ≤ k := by cases b <;> simp <;> omega
          rcases hcase with ⟨hlt, rfl⟩ | ⟨hlt, rfl⟩ | hge
          · obtain ⟨bb, off, rfl, hbb, hc⟩ := RStrs.at HC.out (by intro e; rw [e] at hlt; simp at hlt)
            have hcj := hc k hlt
            clear hc
            have HD := Lib.hid (all_drop nmB cs k hlt)
            have HZ := Lib.hid (H3.out _ (List.getElem_mem hlt))
            generalize hy : cs[k] = y at *
            clear hy
            go_wp2_with (first
              | (go_at_call 23; refine (name_r _ _ HZ.out).mono ?_; rintro e w' ⟨rfl, rfl⟩))
            go_round
            case rel => exact ⟨k + 1, _, by go_num, rfl, by omega, by rw [Hid, hx.out, HD.out]; rfl⟩
            case measure => simp [intOf]; omega
          all_goals
            first
              | have HS := Lib.hid (show cs.all nmB = b by rw [hx.out, List.drop_of_length_le hge]; simp)
              | have HS := Lib.hid (show cs.all nmB = false by rw [hx.out]; rfl)
            clear hx
            go_wp2_with fail
            go_loop [5, 3] (fun t o => ∃ (k : Nat) (b : Bool), t = .int .i64 k ∧ o = .bool b ∧ k ≤ ats.length ∧ Hid ((cs.all nmB && ats.all atB) = (b && (ats.drop k).all atB))) (fun t _ => ats.length - (intOf t).toNat)
            case atStart => exact ⟨0, _, rfl, rfl, Nat.zero_le _, by rw [Hid, HS.out]; simp⟩
            case round =>
              clear HS
              obtain ⟨k2, b2, rfl, rfl, hk2, hx2⟩ := hrel
              have hcase2 : (k2 < ats.length ∧ b2 = true) ∨ (k2 < ats.length ∧ b2 = false) ∨ ats.length ≤ k2 := by cases b2 <;> simp <;> omega
              rcases hcase2 with ⟨hlt2, rfl⟩ | ⟨hlt2, rfl⟩ | hge2
              · obtain ⟨bb2, off2, rfl, hbb2, hc2⟩ := RAttrs.at HA.out (by intro e; rw [e] at hlt2; simp at hlt2)
                obtain ⟨hcn, hcv⟩ := hc2 k2 hlt2
                clear hc2
                have HD2 := Lib.hid (all_drop atB ats k2 hlt2)
                have HZ2 := Lib.hid (H4.out _ (List.getElem_mem hlt2))
                generalize hy2 : ats[k2] = y2 at *
                clear hy2
                go_wp2_with (first
                  | (go_at_call 23; refine (name_r _ _ HZ2.out.1).mono ?_; rintro e w' ⟨rfl, rfl⟩)
                  | (go_at_call 25; refine (text_r _ _ HZ2.out.2).mono ?_; rintro e w' ⟨rfl, rfl⟩))
                all_goals
                  go_round
                  case rel => exact ⟨k2 + 1, _, by go_num, rfl, by omega, by rw [Hid, hx2.out, HD2.out, atB, nmB, txB]; simp_all⟩
                  case measure => simp [intOf]; omega
              · go_wp2_with fail
                go_ret
                exact ⟨ret_bool (by rw [HR.out, HE.out, Bool.true_and, hx2.out]; rfl), hw0⟩
              · go_wp2_with fail
                go_ret
                exact ⟨ret_bool (by rw [HR.out, HE.out, Bool.true_and, hx2.out, List.drop_of_length_le hge2]; simp), hw0⟩
    · have HE := Lib.hid (show e0B n cs ats = false by simpa using hE)
      clear hE
      go_enter Try.func47, Try.ntmps47
      go_wp2_with (first
        | (go_at_call 23; refine (name_r _ _ (by first | exact t1 | exact t2)).mono ?_; rintro e w' ⟨rfl, rfl⟩))
      all_goals
        first
          | (exfalso; have := HE.out; unfold e0B nmB at this; simp_all; omega)
          | (go_loop [4, 3] (fun t o => ∃ (k : Nat), t = .int .i64 k ∧ o = .bool false) (fun t _ => 0)
             case atStart => exact ⟨0, rfl, by first | rfl | (congr 1; have := HE.out; unfold e0B nmB at this; simp_all <;> omega)⟩
             case round =>
               obtain ⟨k, rfl, rfl⟩ := hrel
               go_wp2_with fail
               all_goals
                 go_loop [5, 3] (fun t o => ∃ (k : Nat), t = .int .i64 k ∧ o = .bool false) (fun t _ => 0)
                 case atStart => exact ⟨0, rfl, rfl⟩
                 case round =>
                   obtain ⟨k, rfl, rfl⟩ := hrel
                   go_wp2_with fail
                   all_goals
                     go_ret
                     exact ⟨ret_bool (by rw [HR.out, HE.out]; rfl), hw0⟩)

end Go.Proofs.Ytckokehpdgjacaa
