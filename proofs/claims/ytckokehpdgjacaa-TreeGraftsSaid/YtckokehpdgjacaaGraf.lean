/-
  Nodes without their places in memory; what a graft is; the two functions that Graft hands down.
-/
import Derived.Test.YtckokehpdgjacaaCopied
import Derived.Test.YtckokehpdgjacaaTree7
import Derived.Test.YtckokehpdgjacaaLiesPlain
namespace Go.Proofs.Ytckokehpdgjacaa
open Go.RowKit Pl
set_option linter.unusedVariables false

/-- a node, without its places in memory -/
structure PNode where
  parent : Int
  tag : ByteArray
  id : ByteArray
  text : ByteArray
  cs : List ByteArray
  ats : List AttrV
def pn (n : NodeV) (cs : List ByteArray) (ats : List AttrV) : PNode := ⟨n.parent, n.tag, n.id, n.text, cs, ats⟩
def PNode.toV (P : PNode) : NodeV := ⟨P.parent, P.tag, P.id, .slice none 0 0, .slice none 0 0, P.text⟩

structure RPN (w : World) (y : NodeV) (P : PNode) : Prop where
  parent : y.parent = P.parent
  tag : y.tag = P.tag
  id : y.id = P.id
  text : y.text = P.text
  x : NodeX w y P.cs P.ats
theorem RPN.grow {w w' : World} {y : NodeV} {P : PNode} (h : RPN w y P) (hb : Below w.heap.size w w') : RPN w' y P := ⟨h.parent, h.tag, h.id, h.text, h.x.grow hb⟩

structure RP (w : World) (l : List NodeV) (L : List PNode) : Prop where
  len : l.length = L.length
  at_ : ∀ k (h : k < l.length) (h' : k < L.length), RPN w l[k] L[k]
theorem RP.grow {w w' : World} {l : List NodeV} {L : List PNode} (h : RP w l L) (hb : Below w.heap.size w w') : RP w' l L := ⟨h.len, fun k h1 h2 => (h.at_ k h1 h2).grow hb⟩
theorem RP.nil (w : World) : RP w [] [] := ⟨rfl, fun k h => absurd h (by simp)⟩
theorem RP.snoc {w : World} {l : List NodeV} {L : List PNode} {y : NodeV} {P : PNode} (h : RP w l L) (hy : RPN w y P) : RP w (l ++ [y]) (L ++ [P]) :=
  ⟨by simp [h.len], fun k h1 h2 => by
    have hl := h.len
    by_cases hk : k < l.length
    · rw [List.getElem_append_left hk, List.getElem_append_left (by omega)]; exact h.at_ k hk (by omega)
    · have e : k = l.length := by simp at h1; omega
      subst e
      rw [List.getElem_append_right (Nat.le_refl _), List.getElem_append_right (by omega)]
      simp [hl]; exact hy⟩

def pures (l : List NodeV) (C : Nat → List ByteArray) (A : Nat → List AttrV) : List PNode := l.mapIdx fun k n => pn n (C k) (A k)
theorem NodesX.rp {w : World} {l : List NodeV} {C : Nat → List ByteArray} {A : Nat → List AttrV} (h : NodesX w l C A) : RP w l (pures l C A) :=
  ⟨by simp [pures], fun k h1 h2 => by
    have := h.out k h1
    simp only [pures, List.getElem_mapIdx]
    exact ⟨rfl, rfl, rfl, rfl, this⟩⟩

def csP (L : List PNode) (k : Nat) : List ByteArray := match L[k]? with | some P => P.cs | none => []
def atP (L : List PNode) (k : Nat) : List AttrV := match L[k]? with | some P => P.ats | none => []
theorem RP.nodesX {w : World} {l : List NodeV} {L : List PNode} (h : RP w l L) : NodesX w l (csP L) (atP L) :=
  ⟨fun k hk => by
    have h2 : k < L.length := by have := h.len; omega
    have := (h.at_ k hk h2).x
    simpa [csP, atP, h2] using this⟩

/-- the answer of a check, of nodes without their places -/
def checkP (L : List PNode) : Int := checkV (L.map PNode.toV) (csP L) (atP L)

theorem RP.par {w : World} {l : List NodeV} {L : List PNode} (h : RP w l L) : par l = par (L.map PNode.toV) := by
  funext k
  have hl := h.len
  by_cases hk : k < l.length
  · have h2 : k < L.length := by omega
    have := (h.at_ k hk h2).parent
    simp [Go.Proofs.Ytckokehpdgjacaa.par, hk, h2, this, PNode.toV]
  · have h2 : ¬ k < L.length := by omega
    simp [Go.Proofs.Ytckokehpdgjacaa.par, hk, h2]

theorem RP.check {w : World} {l : List NodeV} {L : List PNode} (h : RP w l L) : checkV l (csP L) (atP L) = checkP L := by
  have hl := h.len
  have e1 := h.par
  have e2 : rgN l (csP L) (atP L) = rgN (L.map PNode.toV) (csP L) (atP L) := by
    funext k
    by_cases hk : k < l.length
    · have h2 : k < L.length := by omega
      have ht := h.at_ k hk h2
      simp only [rgN, List.getElem?_map, List.getElem?_eq_getElem hk, List.getElem?_eq_getElem h2, Option.map_some]
      simp only [rightB, wordsB, elemB, ht.tag, ht.id, ht.text, PNode.toV]
      rfl
    · have h2 : ¬ k < L.length := by omega
      simp [rgN, hk, h2]
  have e3 : tgN l = tgN (L.map PNode.toV) := by
    funext k
    by_cases hk : k < l.length
    · have h2 : k < L.length := by omega
      have ht := h.at_ k hk h2
      simp only [tgN, List.getElem?_map, List.getElem?_eq_getElem hk, List.getElem?_eq_getElem h2, Option.map_some, ht.tag, PNode.toV]
    · have h2 : ¬ k < L.length := by omega
      simp [tgN, hk, h2]
  unfold checkP checkV
  rw [e1, e2, e3, List.length_map, hl]

/-- what a tree's nodes keep -/
theorem tree_facts {l : List NodeV} {C : Nat → List ByteArray} {A : Nat → List AttrV} (h : checkV l C A = 0) :
    l.length ≠ 0 ∧ l.length ≤ 1024 ∧ ∀ k, k < l.length → (C k).length ≤ 8 ∧ (A k).length ≤ 8 ∧ -1 ≤ par l k ∧ par l k < k := by
  unfold checkV checkN at h
  by_cases h0 : l.length = 0
  · rw [if_pos h0] at h; cases h
  rw [if_neg h0] at h
  by_cases h1 : 1024 < l.length
  · rw [if_pos h1] at h; cases h
  rw [if_neg h1] at h
  refine ⟨h0, by omega, fun k hk => ?_⟩
  have hR := chk_all _ h k (List.mem_range'_1.2 (by omega))
  simp only [Bool.and_eq_true] at hR
  obtain ⟨h2, h3⟩ := hR
  have h4 : (C k).length ≤ 8 ∧ (A k).length ≤ 8 := by
    rw [rgN_eq hk] at h2
    unfold rightB at h2
    split at h2
    · unfold wordsB at h2
      simp only [Bool.and_eq_true, decide_eq_true_eq] at h2
      omega
    · unfold elemB at h2
      simp only [Bool.and_eq_true, decide_eq_true_eq] at h2
      exact ⟨h2.1.1.1.2, h2.1.1.2⟩
  refine ⟨h4.1, h4.2, ?_⟩
  unfold standsN at h3
  by_cases hz : k = 0
  · subst hz
    rw [if_pos rfl] at h3
    simp only [Bool.and_eq_true, decide_eq_true_eq] at h3
    rw [h3.1]; exact ⟨by omega, by omega⟩
  · rw [if_neg hz] at h3
    simp only [Bool.and_eq_true, decide_eq_true_eq] at h3
    have := h3.1.1
    have h5 := up_lt (par l) k
    unfold up at this h5
    split at this
    · omega
    · omega

/-- a part of a list, changed one by one -/
def seg (S : List PNode) (off : Nat) (f : PNode → PNode) (k : Nat) : List PNode := ((S.drop off).take k).map f
theorem seg_zero (S : List PNode) (off : Nat) (f : PNode → PNode) : seg S off f 0 = [] := by simp [seg]
theorem seg_step (S : List PNode) (off : Nat) (f : PNode → PNode) (k : Nat) (h : off + k < S.length) : seg S off f (k + 1) = seg S off f k ++ [f S[off + k]] := by
  unfold seg
  rw [List.take_succ_eq_append_getElem (by simp; omega), List.map_append]
  simp
theorem seg_len (S : List PNode) (off : Nat) (f : PNode → PNode) (k : Nat) : (seg S off f k).length ≤ k := by simp [seg]; omega

def addP (i : Int) (P : PNode) : PNode := { P with parent := P.parent + i }
def shiftP (e d : Int) (P : PNode) : PNode := { P with parent := if e ≤ P.parent then P.parent + d else P.parent }
/-- nodes M, but their first, beneath node i of L; 'e': where what stands beneath i ends -/
def graftP (L : List PNode) (i e : Nat) (M : List PNode) : List PNode :=
  seg L 0 (fun P => P) (i + 1) ++ seg M 1 (addP i) (M.length - 1) ++ seg L e (shiftP e (M.length - ((e : Int) - i))) (L.length - e)

theorem clo1 (p : Int) (i g : Nat) (w : World) (hc : w.cell? ⟨g, 0, none⟩ = some (.int .i64 i)) (h0 : -10000 ≤ p) (h1 : p ≤ 10000) (hi : i ≤ 10000) :
    Calls Try.prog 76 #[.int .i64 p, .pointer (some ⟨g, 0, none⟩)] w fun e w' => e = .returned (.int .i64 (p + i)) ∧ w = w' := by
  go_enter Try.func76, Try.ntmps76
  go_wp2
  go_ret
  exact ⟨ret_int (by go_num), rfl⟩
theorem clo2 (p d : Int) (e g h : Nat) (w : World) (hc : w.cell? ⟨g, 0, none⟩ = some (.int .i64 e)) (hd : w.cell? ⟨h, 0, none⟩ = some (.int .i64 d)) (h0 : -10000 ≤ p) (h1 : p ≤ 10000) (h2 : -10000 ≤ d) (h3 : d ≤ 10000) :
    Calls Try.prog 77 #[.int .i64 p, .pointer (some ⟨g, 0, none⟩), .pointer (some ⟨h, 0, none⟩)] w fun e' w' => e' = .returned (.int .i64 (if (e : Int) ≤ p then p + d else p)) ∧ w = w' := by
  by_cases hp : (e : Int) ≤ p
  · rw [if_pos hp]
    go_enter Try.func77, Try.ntmps77
    go_wp2
    go_ret
    exact ⟨ret_int (by go_num), rfl⟩
  · rw [if_neg hp]
    go_enter Try.func77, Try.ntmps77
    go_wp2
    go_ret
    exact ⟨rfl, rfl⟩

theorem own_grow {w w' : World} {base : Nat} {e : TypeId} {s n : Nat} {v : Value} {xs : List Value} (h : w.ownsRow base e s v n xs) (hb : Below w.heap.size w w') : w'.ownsRow base e s v n xs := by
  obtain ⟨h1, h2⟩ := h
  refine ⟨h1, ?_⟩
  rcases h2 with h2 | ⟨g, cap, cur, rfl, hg, hc, r⟩
  · exact Or.inl h2
  · exact Or.inr ⟨g, cap, cur, rfl, hg, (hb.block g (Array.getElem?_eq_some_iff.1 hc).1).trans hc, r⟩

/-- what a walk reads of one node -/
structure NodeAt (W : World) (b o : Nat) (P : PNode) (ac aa : Option Addr) (cc ca : Nat) : Prop where
  d0 : W.cell? ⟨b, o, none⟩ = some (.int .i64 P.parent)
  d1 : W.cell? ⟨b, o + 1, none⟩ = some (.string P.tag)
  d2 : W.cell? ⟨b, o + 2, none⟩ = some (.string P.id)
  d3 : W.cell? ⟨b, o + 3, none⟩ = some (.slice ac P.cs.length cc)
  d4 : W.cell? ⟨b, o + 4, none⟩ = some (.slice aa P.ats.length ca)
  d5 : W.cell? ⟨b, o + 5, none⟩ = some (.string P.text)
  rc : RStrs W ac cc P.cs
  ra : RAttrs W aa ca P.ats
  tag : P.tag.size ≤ maxLen
  id : P.id.size ≤ maxLen
  text : P.text.size ≤ maxLen
  csz : ∀ c ∈ P.cs, c.size ≤ maxLen
  asz : ∀ a ∈ P.ats, a.name.size ≤ maxLen ∧ a.value.size ≤ maxLen

theorem node_at {W : World} {a : Option Addr} {cap : Nat} {l : List NodeV} {L : List PNode} (hl : RNodes W a cap l) (hL : RP W l L) (h0 : L.length ≠ 0) :
    ∃ b off, a = some ⟨b, off, none⟩ ∧ b < W.heap.size ∧ ∀ k (hk : k < L.length), ∃ ac aa cc ca, NodeAt W b (off + k * 6) L[k] ac aa cc ca := by
  have hlen := hL.len
  obtain ⟨b, off, rfl, hb, hc⟩ := hl.at (fun e => h0 (by rw [← hlen, e]; rfl))
  refine ⟨b, off, rfl, hb, fun k hk => ?_⟩
  have hk' : k < l.length := by omega
  obtain ⟨d0, d1, d2, d3, d4, d5⟩ := hc k hk'
  rw [par_eq hk'] at d0
  have r := hL.at_ k hk' hk
  obtain ⟨ac, cc, e1, r1⟩ := r.x.cls
  obtain ⟨aa, ca, e2, r2⟩ := r.x.att
  exact ⟨ac, aa, cc, ca, by rw [← r.parent]; exact d0, by rw [← r.tag]; exact d1, by rw [← r.id]; exact d2, by rw [← e1]; exact d3, by rw [← e2]; exact d4, by rw [← r.text]; exact d5, r1, r2,
    by rw [← r.tag]; exact r.x.tag, by rw [← r.id]; exact r.x.id, by rw [← r.text]; exact r.x.text, r.x.csz, r.x.asz⟩

/-- a copy, as a node -/
theorem NodeAt.rpn {W w' : World} {b o : Nat} {P : PNode} {ac aa ac' aa' : Option Addr} {cc ca cc' ca' : Nat} (h : NodeAt W b o P ac aa cc ca) (h1 : RStrs w' ac' cc' P.cs) (h2 : RAttrs w' aa' ca' P.ats) (q : Int) :
    RPN w' ⟨q, P.tag, P.id, .slice ac' P.cs.length cc', .slice aa' P.ats.length ca', P.text⟩ { P with parent := q } :=
  ⟨rfl, rfl, rfl, rfl, ⟨h.tag, h.id, h.text, ⟨ac', cc', rfl, h1⟩, ⟨aa', ca', rfl, h2⟩, h.csz, h.asz⟩⟩

/-! ### A list that is built by appends, whose nodes' classes and attributes lie in blocks of other types -/
theorem grown_alloc {w w' : World} {row : Option Nat} {o : Obj} (h : (w.alloc o).grownBy w' row) : w.grownBy w' row :=
  ⟨h.os, h.tape, h.output, Nat.le_trans (by simp) h.size, fun k hk hne => (h.block k (by simp; omega) hne).trans (Go.heap_alloc_old w o hk)⟩
theorem own_ne {w : World} {base : Nat} {e e' : TypeId} {s n b : Nat} {v : Value} {xs : List Value} {cur : Array Value} {fr : Nat × Nat} (ho : w.ownsRow base e s v n xs) (ht : w.heap[b]? = some (.cells cur e' fr)) (hne : e' ≠ e) : some b ≠ v.ownBlock := by
  rcases ho.2 with ⟨rfl, _⟩ | ⟨g, cap, cur', rfl, _, hg, _⟩
  · simp [Value.ownBlock]
  · intro h
    simp only [Value.ownBlock, Option.some.injEq] at h
    subst h
    rw [ht] at hg
    simp at hg
    exact hne hg.2.1
theorem Rows.grown {α : Type} {cells : α → List Value} {s : Nat} {w w' : World} {row : Option Nat} {a : Option Addr} {cap : Nat} {xs : List α} (h : Rows cells s w a cap xs) (hg : w.grownBy w' row) (hne : ∀ ad, a = some ad → some ad.block ≠ row) : Rows cells s w' a cap xs :=
  ⟨h.le, h.max, h.sm, h.nil, fun h0 => by
    obtain ⟨b, off, ha, hlt, hc⟩ := h.base h0
    exact ⟨b, off, ha, Nat.lt_of_lt_of_le hlt hg.size, fun k hk j u hu => hg.cell (a := ⟨b, off + k * s + j, none⟩) (hc k hk j u hu) (show some b ≠ row from hne ⟨b, off, none⟩ ha)⟩⟩
theorem Tagged.grown {w w' : World} {row : Option Nat} {a : Option Addr} {e : TypeId} (h : Tagged w a e) (hg : w.grownBy w' row) (hne : ∀ ad, a = some ad → some ad.block ≠ row) : Tagged w' a e := fun ad ha => by
  obtain ⟨cur, fr, hc⟩ := h ad ha
  exact ⟨cur, fr, (hg.block _ (Array.getElem?_eq_some_iff.1 hc).1 (hne ad ha)).trans hc⟩

/-- append of what one new block holds, onto a slice of the call's own: which blocks are as they were -/
theorem wpList_app2 {P : Program} {w : World} {ops : Array Oper} {rest : List Oper} {o : Oper} {a : Act} {Q : Exit → Act → World → Prop}
    (t e : TypeId) (size bytes : Nat) (z : Value) (hT : SliceT P t e size bytes z) (hgd : o.guard = none) (s x : Operand)
    (ho : o.op = .call { callee := .builtin .append, args := #[s, x], argTypes := #[t, t] })
    (base : Nat) (v : Value) (n : Nat) (xs : List Value) (hs : a.eval s = v) (hown : w.ownsRow base e size v n xs)
    (m : Nat) (news : Array Value) (hx : a.eval x = .slice (some ⟨w.heap.size, 0, none⟩) m m) (hl : news.size = m * size) (h1 : ∀ u ∈ news, u.oneCell' = true)
    (hbytes : (n + m) * bytes ≤ 140737488355328) (hn : n + m ≤ 17592186044416) (hbase : base ≤ w.heap.size)
    (h : ∀ v' w', w'.ownsRow base e size v' (n + m) (xs ++ news.toList) → w.grownBy w' v.ownBlock → Below base w w' → wpList P ops Q rest (a.put o.dst v') w') :
    wpList P ops Q (o :: rest) a (w.alloc (.cells news e)) := by
  obtain ⟨i, hi, hz, hsz, hby⟩ := hT.info
  refine wpList_append_own _ hgd s x t ho base e i z size bytes hT.under hi hz hsz hby hT.zs hT.pos v n xs hs (hown.alloc _) ⟨w.heap.size, 0, none⟩ m m news.toList hx (by simpa using hl) ?_ (by simpa using h1) (by unfold maxLen; omega) hbytes (by simp; omega) ?_
  · intro j u hu
    have : (⟨w.heap.size, 0, none⟩ : Addr).add j = ⟨w.heap.size, j, none⟩ := by unfold Addr.add; split <;> simp_all
    rw [this, World.cell?_alloc_new]
    simpa using hu
  · intro v' w' ho' hg _
    exact h v' w' ho' (grown_alloc hg) (((Below.refl _ _).alloc hbase _).trans (Below.of_grown hg (hown.alloc _) (by simp; omega)))

/-- nodes whose classes and attributes lie in blocks of their own types -/
structure RNO (w : World) (y : NodeV) (P : PNode) : Prop where
  parent : y.parent = P.parent
  tag : y.tag = P.tag
  id : y.id = P.id
  text : y.text = P.text
  x : ∃ ac cc aa ca, y.cls = .slice ac P.cs.length cc ∧ RStrs w ac cc P.cs ∧ Tagged w ac 9 ∧ y.att = .slice aa P.ats.length ca ∧ RAttrs w aa ca P.ats ∧ Tagged w aa 92
  sz : P.tag.size ≤ maxLen ∧ P.id.size ≤ maxLen ∧ P.text.size ≤ maxLen
  csz : ∀ c ∈ P.cs, c.size ≤ maxLen
  asz : ∀ a ∈ P.ats, a.name.size ≤ maxLen ∧ a.value.size ≤ maxLen
theorem RNO.rpn {w : World} {y : NodeV} {P : PNode} (h : RNO w y P) : RPN w y P := by
  obtain ⟨ac, cc, aa, ca, e1, r1, _, e2, r2, _⟩ := h.x
  exact ⟨h.parent, h.tag, h.id, h.text, ⟨by rw [h.tag]; exact h.sz.1, by rw [h.id]; exact h.sz.2.1, by rw [h.text]; exact h.sz.2.2, ⟨ac, cc, e1, r1⟩, ⟨aa, ca, e2, r2⟩, h.csz, h.asz⟩⟩
theorem RNO.grow {w w' : World} {y : NodeV} {P : PNode} (h : RNO w y P) (hb : Below w.heap.size w w') : RNO w' y P := by
  obtain ⟨ac, cc, aa, ca, e1, r1, t1, e2, r2, t2⟩ := h.x
  exact ⟨h.parent, h.tag, h.id, h.text, ⟨ac, cc, aa, ca, e1, r1.grow hb, t1.grow hb, e2, r2.grow hb, t2.grow hb⟩, h.sz, h.csz, h.asz⟩
theorem RNO.grown {w w' : World} {y : NodeV} {P : PNode} {base n : Nat} {v : Value} {xs : List Value} (h : RNO w y P) (ho : w.ownsRow base 54 6 v n xs) (hg : w.grownBy w' v.ownBlock) : RNO w' y P := by
  obtain ⟨ac, cc, aa, ca, e1, r1, t1, e2, r2, t2⟩ := h.x
  have n1 : ∀ ad, ac = some ad → some ad.block ≠ v.ownBlock := fun ad ha => by
    obtain ⟨cur, fr, hc⟩ := t1 ad ha
    exact own_ne ho hc (by decide)
  have n2 : ∀ ad, aa = some ad → some ad.block ≠ v.ownBlock := fun ad ha => by
    obtain ⟨cur, fr, hc⟩ := t2 ad ha
    exact own_ne ho hc (by decide)
  exact ⟨h.parent, h.tag, h.id, h.text, ⟨ac, cc, aa, ca, e1, r1.grown hg n1, t1.grown hg n1, e2, r2.grown hg n2, t2.grown hg n2⟩, h.sz, h.csz, h.asz⟩

structure RO (w : World) (l : List NodeV) (L : List PNode) : Prop where
  len : l.length = L.length
  at_ : ∀ k (h : k < l.length) (h' : k < L.length), RNO w l[k] L[k]
theorem RO.rp {w : World} {l : List NodeV} {L : List PNode} (h : RO w l L) : RP w l L := ⟨h.len, fun k h1 h2 => (h.at_ k h1 h2).rpn⟩
theorem RO.grow {w w' : World} {l : List NodeV} {L : List PNode} (h : RO w l L) (hb : Below w.heap.size w w') : RO w' l L := ⟨h.len, fun k h1 h2 => (h.at_ k h1 h2).grow hb⟩
theorem RO.grown {w w' : World} {l : List NodeV} {L : List PNode} {base n : Nat} {v : Value} {xs : List Value} (h : RO w l L) (ho : w.ownsRow base 54 6 v n xs) (hg : w.grownBy w' v.ownBlock) : RO w' l L := ⟨h.len, fun k h1 h2 => (h.at_ k h1 h2).grown ho hg⟩
theorem RO.nil (w : World) : RO w [] [] := ⟨rfl, fun k h => absurd h (by simp)⟩
theorem RO.snoc {w : World} {l : List NodeV} {L : List PNode} {y : NodeV} {P : PNode} (h : RO w l L) (hy : RNO w y P) : RO w (l ++ [y]) (L ++ [P]) :=
  ⟨by simp [h.len], fun k h1 h2 => by
    have hl := h.len
    by_cases hk : k < l.length
    · rw [List.getElem_append_left hk, List.getElem_append_left (by omega)]; exact h.at_ k hk (by omega)
    · have e : k = l.length := by simp at h1; omega
      subst e
      rw [List.getElem_append_right (Nat.le_refl _), List.getElem_append_right (by omega)]
      simp [hl]; exact hy⟩

theorem NodeAt.grow {W W' : World} {b o : Nat} {P : PNode} {ac aa : Option Addr} {cc ca : Nat} (h : NodeAt W b o P ac aa cc ca) (hlt : b < W.heap.size) (hb : Below W.heap.size W W') : NodeAt W' b o P ac aa cc ca :=
  ⟨(hb.cell (p := ⟨b, o, none⟩) hlt).trans h.d0, (hb.cell (p := ⟨b, o + 1, none⟩) hlt).trans h.d1, (hb.cell (p := ⟨b, o + 2, none⟩) hlt).trans h.d2, (hb.cell (p := ⟨b, o + 3, none⟩) hlt).trans h.d3,
    (hb.cell (p := ⟨b, o + 4, none⟩) hlt).trans h.d4, (hb.cell (p := ⟨b, o + 5, none⟩) hlt).trans h.d5, h.rc.grow hb, h.ra.grow hb, h.tag, h.id, h.text, h.csz, h.asz⟩
theorem NodeAt.rno {W w' : World} {b o : Nat} {P : PNode} {ac aa ac' aa' : Option Addr} {cc ca cc' ca' : Nat} (h : NodeAt W b o P ac aa cc ca) (h1 : RStrs w' ac' cc' P.cs) (h2 : RAttrs w' aa' ca' P.ats) (t1 : Tagged w' ac' 9) (t2 : Tagged w' aa' 92) (q : Int) :
    RNO w' ⟨q, P.tag, P.id, .slice ac' P.cs.length cc', .slice aa' P.ats.length ca', P.text⟩ { P with parent := q } :=
  ⟨rfl, rfl, rfl, rfl, ⟨ac', cc', aa', ca', rfl, h1, t1, rfl, h2, t2⟩, ⟨h.tag, h.id, h.text⟩, h.csz, h.asz⟩

end Go.Proofs.Ytckokehpdgjacaa
