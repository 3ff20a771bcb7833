/-
  Layer 4's law TreeGrafts, walked.
-/
import Derived.Test.YtckokehpdgjacaaLaw04
import Derived.Test.YtckokehpdgjacaaGraft
import Derived.Test.YtckokehpdgjacaaGraftNo
import Derived.Test.YtckokehpdgjacaaGraftR
import Derived.Test.YtckokehpdgjacaaSameR
namespace Go.Proofs.Ytckokehpdgjacaa
open Go.RowKit Pl
set_option linter.unusedVariables false

set_option maxHeartbeats 2000000 in
theorem grafts_big {w : World} {a a' : Option Addr} {cap cap' : Nat} {l m : List NodeV} (hsm : l.length ≤ 17592186044416) (hsm' : m.length ≤ 17592186044416) (i : Int) (hbig : 100 < l.length ∨ 100 < m.length) :
    Calls Try.prog 11 #[.slice a l.length cap, .int .i64 i, .slice a' m.length cap'] w fun e w' => e = .returned (.bool true) ∧ Below w.heap.size w w' := by
  by_cases h1 : 100 < l.length
  · have hd : decide ((100 : Int) < (l.length : Int)) = true := by simp; omega
    clear hbig
    go_enter Try.func11, Try.ntmps11
    go_wp2_with (go_at_call 26; refine (known04 _).mono ?_; rintro e w3 ⟨rfl, h3⟩)
    go_ret
    exact ⟨rfl, h3⟩
  · have h2 : 100 < m.length := by omega
    have hd : decide ((100 : Int) < (l.length : Int)) = false := by simp; omega
    have hd' : decide ((100 : Int) < (m.length : Int)) = true := by simp; omega
    clear hbig
    go_enter Try.func11, Try.ntmps11
    go_wp2_with (go_at_call 26; refine (known04 _).mono ?_; rintro e w3 ⟨rfl, h3⟩)
    go_ret
    exact ⟨rfl, h3⟩

set_option maxHeartbeats 2000000 in
theorem grafts_walk {w : World} {a a' : Option Addr} {cap cap' : Nat} {l m : List NodeV} {L M : List PNode} (hl : RNodes w a cap l) (hm : RNodes w a' cap' m) (hL : RP w l L) (hM : RP w m M) (i : Int) :
    Calls Try.prog 11 #[.slice a l.length cap, .int .i64 i, .slice a' m.length cap'] w fun e w' => e = .returned (.bool true) ∧ Below w.heap.size w w' := by
  have hsm := hl.sm
  have hsm' := hm.sm
  by_cases hbig : 100 < l.length ∨ 100 < m.length
  · exact grafts_big hsm hsm' i hbig
  have hn : l.length ≤ 100 := by omega
  have hn' : m.length ≤ 100 := by omega
  have d1 : decide ((100 : Int) < (l.length : Int)) = false := by simp; omega
  have d2 : decide ((100 : Int) < (m.length : Int)) = false := by simp; omega
  clear hbig
  have HC1 := Lib.hid (fun W (h : Below w.heap.size w W) => by have := check_r (hl.grow h) (hL.nodesX.grow h); rw [hL.check] at this; exact this)
  have HC2 := Lib.hid (fun W (h : Below w.heap.size w W) => by have := check_r (hm.grow h) (hM.nodesX.grow h); rw [hM.check] at this; exact this)
  by_cases hbad : ¬ (checkP L = 0 ∧ checkP M = 0)
  · have HG := Lib.hid (graft_no hl hm hL hM i hbad)
    clear hl hm hL hM
    generalize checkP L = c1 at *
    generalize checkP M = c2 at *
    by_cases h1 : c1 = 0
    · subst h1
      have hz : (c2 != 0) = true := by simpa using hbad
      clear hbad
      go_enter Try.func11, Try.ntmps11
      go_wp2_with (first
        | (go_at_call 39; refine HG.out.mono ?_; rintro e w1 ⟨rfl, h1⟩)
        | (go_at_call 29; first
          | (refine (HC1.out _ h1).mono ?_; clear HC1; rintro e w2 ⟨rfl, h2⟩; have hb2 := bseq h1 h2)
          | (refine (HC2.out _ hb2).mono ?_; clear HC2; rintro e w3 ⟨rfl, h3⟩; have hb3 := bseq hb2 h3))
        | (go_at_call 26; refine (known04 _).mono ?_; rintro e w4 ⟨rfl, h4⟩))
      go_ret
      exact ⟨rfl, bseq hb3 h4⟩
    · have hz : (c1 != 0) = true := by simpa using h1
      clear hbad h1
      go_enter Try.func11, Try.ntmps11
      go_wp2_with (first
        | (go_at_call 39; refine HG.out.mono ?_; rintro e w1 ⟨rfl, h1⟩)
        | (go_at_call 29; refine (HC1.out _ h1).mono ?_; rintro e w2 ⟨rfl, h2⟩; have hb2 := bseq h1 h2)
        | (go_at_call 26; refine (known04 _).mono ?_; rintro e w4 ⟨rfl, h4⟩))
      go_ret
      exact ⟨rfl, bseq hb2 h4⟩
  have c12 : checkP L = 0 ∧ checkP M = 0 := by simpa using hbad
  obtain ⟨c1, c2⟩ := c12
  clear hbad
  rw [c1] at HC1; rw [c2] at HC2
  by_cases harg : i < 0 ∨ (l.length : Int) ≤ i ∨ ∃ k : Nat, i = k ∧ ∃ h : k < l.length, l[k].tag.toList.isEmpty = true
  · have HG := Lib.hid (graft_arg hl hm hL hM i c1 c2 harg)
    by_cases hin : 0 ≤ i ∧ i < l.length
    · obtain ⟨k, rfl, hk, htag⟩ : ∃ k : Nat, i = k ∧ ∃ h : k < l.length, l[k].tag.toList.isEmpty = true := by
        rcases harg with h | h | h
        · omega
        · omega
        · exact h
      obtain ⟨b, off, rfl, hb, hc⟩ := hl.at (fun e => by rw [e] at hk; simp at hk)
      obtain ⟨_, t1, _⟩ := hc k hk
      have ht : l[k].tag = ⟨#[]⟩ := by rw [str_emp] at htag; exact of_decide_eq_true htag
      rw [ht] at t1
      have s1 : decide ((k : Int) < 0) = false := by simp
      have s2 : decide ((l.length : Int) ≤ (k : Int)) = false := by simp; omega
      clear hc hl hm hL hM c1 c2 harg htag ht hin
      go_enter Try.func11, Try.ntmps11
      go_wp2_with (first
        | (go_at_call 39; refine HG.out.mono ?_; rintro e w1 ⟨rfl, h1⟩)
        | (go_at_call 29; first
          | (refine (HC1.out _ h1).mono ?_; clear HC1; rintro e w2 ⟨rfl, h2⟩; have hb2 := bseq h1 h2)
          | (refine (HC2.out _ hb2).mono ?_; clear HC2; rintro e w3 ⟨rfl, h3⟩; have hb3 := bseq hb2 h3; have t2 := (hb3.cell (p := ⟨b, off + k * 6 + 1, none⟩) hb).trans t1))
        | (go_at_call 26; refine (known04 _).mono ?_; rintro e w4 ⟨rfl, h4⟩))
      go_ret
      exact ⟨rfl, bseq hb3 h4⟩
    · clear hl hm hL hM c1 c2 harg
      by_cases hneg : i < 0
      · have s1 : decide (i < 0) = true := by simpa using hneg
        clear hin
        go_enter Try.func11, Try.ntmps11
        go_wp2_with (first
          | (go_at_call 39; refine HG.out.mono ?_; rintro e w1 ⟨rfl, h1⟩)
          | (go_at_call 29; first
            | (refine (HC1.out _ h1).mono ?_; clear HC1; rintro e w2 ⟨rfl, h2⟩; have hb2 := bseq h1 h2)
            | (refine (HC2.out _ hb2).mono ?_; clear HC2; rintro e w3 ⟨rfl, h3⟩; have hb3 := bseq hb2 h3))
          | (go_at_call 26; refine (known04 _).mono ?_; rintro e w4 ⟨rfl, h4⟩))
        go_ret
        exact ⟨rfl, bseq hb3 h4⟩
      · have s1 : decide (i < 0) = false := by simpa using hneg
        have s2 : decide ((l.length : Int) ≤ i) = true := by simp; omega
        clear hin
        go_enter Try.func11, Try.ntmps11
        go_wp2_with (first
          | (go_at_call 39; refine HG.out.mono ?_; rintro e w1 ⟨rfl, h1⟩)
          | (go_at_call 29; first
            | (refine (HC1.out _ h1).mono ?_; clear HC1; rintro e w2 ⟨rfl, h2⟩; have hb2 := bseq h1 h2)
            | (refine (HC2.out _ hb2).mono ?_; clear HC2; rintro e w3 ⟨rfl, h3⟩; have hb3 := bseq hb2 h3))
          | (go_at_call 26; refine (known04 _).mono ?_; rintro e w4 ⟨rfl, h4⟩))
        go_ret
        exact ⟨rfl, bseq hb3 h4⟩
  obtain ⟨k, rfl⟩ := Int.eq_ofNat_of_zero_le (show 0 ≤ i by
    rcases Int.lt_or_le i 0 with h | h
    · exact absurd (Or.inl h) harg
    · exact h)
  have hk : k < l.length := by
    rcases Nat.lt_or_ge k l.length with h | h
    · exact h
    · exact absurd (Or.inr (Or.inl (by omega))) harg
  have htag : l[k].tag.toList.isEmpty = false := by
    cases h : l[k].tag.toList.isEmpty
    · rfl
    · exact absurd (Or.inr (Or.inr ⟨k, rfl, hk, h⟩)) harg
  clear harg
  have HG := Lib.hid (graft_ok hl hm hL hM hn hn' c1 c2 k hk htag)
  have HR := Lib.hid (fun W (h : Below w.heap.size w W) => graft_r (hl.grow h) (hm.grow h) (hL.grow h) (hM.grow h) hn hn' c1 c2 k hk)
  obtain ⟨b, off, rfl, hb, hc⟩ := hl.at (fun e => by rw [e] at hk; simp at hk)
  obtain ⟨_, t1, _⟩ := hc k hk
  have s1 : decide ((k : Int) < 0) = false := by simp
  have s2 : decide ((l.length : Int) ≤ (k : Int)) = false := by simp; omega
  clear hc hl hm hL hM c1 c2
  generalize graftP L k (E (par l) l.length k) M = G at *
  generalize l[k].tag = ty at *
  by_cases hz : checkP G = 0
  · go_enter Try.func11, Try.ntmps11
    have Hz := Lib.hid hz; clear hz
    go_wp2_with (first
      | (go_at_call 39; refine HG.out.mono ?_; rintro e w1 ⟨hh, h1⟩; obtain ⟨_, b5, c5, ol, rfl, hr5, hp5⟩ := hh.resolve_right (fun x => x.1 Hz.out); have HR5 := Lib.hid hr5; have HP5 := Lib.hid hp5; clear hr5 hp5 hh)
      | (go_at_call 29; first
        | (refine (HC1.out _ h1).mono ?_; clear HC1; rintro e w2 ⟨rfl, h2⟩; have hb2 := bseq h1 h2; have h12 := h2)
        | (refine (HC2.out _ hb2).mono ?_; clear HC2; rintro e w3 ⟨rfl, h3⟩; have hb3 := bseq hb2 h3; have h13 := bseq h12 h3; have t2 := (hb3.cell (p := ⟨b, off + k * 6 + 1, none⟩) hb).trans t1)
        | (refine ((by have := check_r HR6.out HP6.out.nodesX; rw [HP6.out.check, Hz.out] at this; exact this) : Calls _ _ _ _ _).mono ?_; rintro e w5 ⟨rfl, h5⟩; have h45 := h5))
      | (go_at_call 40; refine (HR.out _ hb3).mono ?_; rintro e w4 ⟨b6, c6, ol6, rfl, hr6, hp6, h4⟩; have HR6 := Lib.hid hr6; have HP6 := Lib.hid hp6; have hb4 := bseq hb3 h4; have h14 := bseq h13 h4; clear hr6 hp6)
      | (go_at_call 41; refine (same_nodes (HR5.out.grow (bseq h14 h45)) (HR6.out.grow h45) (HP5.out.grow (bseq h14 h45)) (HP6.out.grow h45)).mono ?_; rintro e w6 ⟨rfl, h6⟩; have hb6 := bseq (bseq hb4 h45) h6)
      | (go_at_call 26; refine (known04 _).mono ?_; rintro e w7 ⟨rfl, h7⟩))
    go_ret
    exact ⟨rfl, bseq hb6 h7⟩
  · have Hz := Lib.hid hz
    have zc : (checkP G != 0) = true := by simpa using hz
    clear hz
    go_enter Try.func11, Try.ntmps11
    go_wp2_with (first
      | (go_at_call 39; refine HG.out.mono ?_; rintro e w1 ⟨hh, h1⟩; obtain ⟨_, rfl⟩ := hh.resolve_left (fun x => Hz.out x.1); clear hh)
      | (go_at_call 29; first
        | (refine (HC1.out _ h1).mono ?_; clear HC1; rintro e w2 ⟨rfl, h2⟩; have hb2 := bseq h1 h2; have h12 := h2)
        | (refine (HC2.out _ hb2).mono ?_; clear HC2; rintro e w3 ⟨rfl, h3⟩; have hb3 := bseq hb2 h3; have h13 := bseq h12 h3; have t2 := (hb3.cell (p := ⟨b, off + k * 6 + 1, none⟩) hb).trans t1)
        | (refine ((by have := check_r HR6.out HP6.out.nodesX; rw [HP6.out.check] at this; exact this) : Calls _ _ _ _ _).mono ?_; rintro e w5 ⟨rfl, h5⟩; have hb5 := bseq hb4 h5))
      | (go_at_call 40; refine (HR.out _ hb3).mono ?_; rintro e w4 ⟨b6, c6, ol6, rfl, hr6, hp6, h4⟩; have HR6 := Lib.hid hr6; have HP6 := Lib.hid hp6; have hb4 := bseq hb3 h4; have h14 := bseq h13 h4; clear hr6 hp6)
      | (go_at_call 26; refine (known04 _).mono ?_; rintro e w7 ⟨rfl, h7⟩))
    go_ret
    exact ⟨rfl, bseq hb5 h7⟩

theorem grafts_walk' {w : World} {a a' : Option Addr} {cap cap' : Nat} {l m : List NodeV} {C C' : Nat → List ByteArray} {A A' : Nat → List AttrV} (hl : RNodes w a cap l) (hX : NodesX w l C A) (hm : RNodes w a' cap' m) (hX' : NodesX w m C' A') (i : Int) :
    Calls Try.prog 11 #[.slice a l.length cap, .int .i64 i, .slice a' m.length cap'] w fun e w' => e = .returned (.bool true) ∧ Below w.heap.size w w' :=
  grafts_walk hl hm hX.rp hX'.rp i

end Go.Proofs.Ytckokehpdgjacaa
