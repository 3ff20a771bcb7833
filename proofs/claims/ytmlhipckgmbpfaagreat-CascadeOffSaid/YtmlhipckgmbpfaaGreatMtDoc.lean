/-
  Nodes with their classes and attributes, as they lie in memory; a node's parent.
-/
import Derived.Test.YtmlhipckgmbpfaaGreatOpenP
import Derived.Test.YtmlhipckgmbpfaaGreatMtPlain
namespace Go.Proofs.YtmlhipckgmbpfaaGreat
open Go Go.RowKit Sy
set_option linter.unusedVariables false
set_option linter.unusedSimpArgs false

structure NodeW where
  parent : Int
  tag : ByteArray
  id : ByteArray
  cls : List ByteArray
  att : List AttrV
  text : ByteArray
def nodeNone : NodeW := ⟨0, ⟨#[]⟩, ⟨#[]⟩, [], [], ⟨#[]⟩⟩
def attrNone : AttrV := ⟨⟨#[]⟩, ⟨#[]⟩⟩
/-- a node as it lies in a block -/
structure NRow where
  n : NodeW
  a : Option Addr
  cap : Nat
  b : Option Addr
  cbp : Nat
instance : Inhabited AttrV := ⟨attrNone⟩
instance : Inhabited NRow := ⟨⟨nodeNone, none, 0, none, 0⟩⟩
def NRow.cells (r : NRow) : List Value := [.int .i64 r.n.parent, .string r.n.tag, .string r.n.id, .slice r.a r.n.cls.length r.cap, .slice r.b r.n.att.length r.cbp, .string r.n.text]
def NodeOk (n : NodeW) : Prop := n.tag.size ≤ maxLen ∧ n.id.size ≤ maxLen ∧ n.text.size ≤ maxLen ∧ (n.cls.length ≤ 17592186044416 ∧ ∀ s ∈ n.cls, s.size ≤ maxLen) ∧ (n.att.length ≤ 17592186044416 ∧ ∀ t ∈ n.att, t.name.size ≤ maxLen ∧ t.value.size ≤ maxLen)
def NRowIn (W : World) (r : NRow) : Prop := Rows strCells 1 W r.a r.cap r.n.cls ∧ Rows AttrV.cells 2 W r.b r.cbp r.n.att ∧ NodeOk r.n
/-- a list of nodes in memory -/
structure Doc (W : World) (a : Option Addr) (cap : Nat) (rs : List NRow) : Prop where
  rows : Rows NRow.cells 6 W a cap rs
  each : ∀ r ∈ rs, NRowIn W r
theorem NRowIn.grow {W W' : World} {r : NRow} (h : NRowIn W r) (hb : Below W.heap.size W W') : NRowIn W' r := ⟨h.1.grow hb, h.2.1.grow hb, h.2.2⟩
theorem Doc.grow {W W' : World} {a : Option Addr} {cap : Nat} {rs : List NRow} (h : Doc W a cap rs) (hb : Below W.heap.size W W') : Doc W' a cap rs := ⟨h.rows.grow hb, fun r hr => (h.each r hr).grow hb⟩

def npar (rs : List NRow) (k : Nat) : Int := match rs[k]? with | some r => r.n.parent | none => 0
def ntag (rs : List NRow) (k : Nat) : ByteArray := match rs[k]? with | some r => r.n.tag | none => ⟨#[]⟩
def nel (rs : List NRow) (k : Nat) : Bool := !decide (ntag rs k = ⟨#[]⟩)
theorem Doc.len {W : World} {a : Option Addr} {cap : Nat} {rs : List NRow} (h : Doc W a cap rs) : rs.length ≤ 9223372036854775807 := h.rows.len
theorem Doc.at {W : World} {a : Option Addr} {cap : Nat} {rs : List NRow} (h : Doc W a cap rs) (hne : 0 < rs.length) : ∃ b off, a = some ⟨b, off, none⟩ ∧ b < W.heap.size ∧ ∀ k (hk : k < rs.length),
    W.cell? ⟨b, off + k * 6, none⟩ = some (.int .i64 (npar rs k)) ∧ W.cell? ⟨b, off + k * 6 + 1, none⟩ = some (.string (ntag rs k)) := by
  obtain ⟨b, off, ha, hlt, hc⟩ := h.rows.base (fun e => by rw [e] at hne; simp at hne)
  refine ⟨b, off, ha, hlt, fun k hk => ⟨?_, ?_⟩⟩
  · have := hc k hk 0 _ rfl
    simpa [npar, hk] using this
  · have := hc k hk 1 _ rfl
    simpa [ntag, hk] using this

/-! ### Nodes as the symbolic interpreter reads them -/
namespace Sy
abbrev aview (l : List AttrV) : AV := viewOf AttrV.cells attrNone 2 l
def nodeA (p : NodeW) (j : Nat) : AV := match j with
  | 0 => int p.parent
  | 1 => .lit (.string p.tag)
  | 2 => .lit (.string p.id)
  | 3 => cview p.cls
  | 4 => aview p.att
  | _ => .lit (.string p.text)
def ncell (ns : List NodeW) (i j : Nat) : AV := nodeA (ns.getD i nodeNone) j
abbrev nview (ns : List NodeW) : AV := .view ns.length 6 (ncell ns)
theorem nodeA_free (p : NodeW) (j : Nat) : Free (nodeA p j) := by
  match j with
  | 0 => trivial
  | 1 => trivial
  | 2 => trivial
  | 3 => exact viewOf_free strCells ⟨#[]⟩ 1 _
  | 4 => exact viewOf_free AttrV.cells attrNone 2 _
  | j + 5 => trivial
theorem nview_free (ns : List NodeW) : Free (nview ns) := fun i j => nodeA_free _ j
end Sy
theorem rel_nview {W : World} {a : Option Addr} {cap : Nat} {rs : List NRow} (h : Doc W a cap rs) : Sy.rel (Sy.rho0 W) (Sy.nview (rs.map NRow.n)) (.slice a rs.length cap) := by
  obtain ⟨h, hq⟩ := h
  simp only [Sy.rel, List.length_map]
  refine ⟨a, cap, rfl, h.le, h.max, h.nil, fun hn => ?_⟩
  obtain ⟨b, off, rfl, hb, hcell⟩ := h.base (fun e => by rw [e] at hn; simp at hn)
  refine ⟨b, off, rfl, fun i j hi hj => ?_⟩
  have hg : (rs.map NRow.n).getD i nodeNone = rs[i].n := by rw [List.getD_eq_getElem?_getD, List.getElem?_map, List.getElem?_eq_getElem hi]; rfl
  obtain ⟨r1, r2, _⟩ := hq rs[i] (List.getElem_mem hi)
  have hst : ∀ u, (NRow.cells rs[i])[j]? = some u → (Sy.rho0 W).still b (off + i * 6 + j) = some u := fun u hu => by
    simp only [Sy.rho0, if_pos hb]
    exact hcell i hi j u hu
  simp only [Sy.ncell]
  rw [hg]
  have hj6 : j = 0 ∨ j = 1 ∨ j = 2 ∨ j = 3 ∨ j = 4 ∨ j = 5 := by omega
  rcases hj6 with rfl | rfl | rfl | rfl | rfl | rfl
  · exact ⟨_, hst _ rfl, rfl, rfl⟩
  · exact ⟨_, hst _ rfl, rfl, rfl⟩
  · exact ⟨_, hst _ rfl, rfl, rfl⟩
  · refine ⟨_, hst _ rfl, ?_, rfl⟩
    show Sy.rel (Sy.rho0 W) (Sy.cview rs[i].n.cls) _
    exact rel_rows (⟨#[]⟩ : ByteArray) r1 (fun _ => rfl) (fun y u hu => by simp [strCells] at hu; rw [hu]; rfl)
  · refine ⟨_, hst _ rfl, ?_, rfl⟩
    show Sy.rel (Sy.rho0 W) (Sy.aview rs[i].n.att) _
    exact rel_rows attrNone r2 (fun _ => rfl) (fun y u hu => AttrV.one y u hu)
  · exact ⟨_, hst _ rfl, rfl, rfl⟩

open Pl
set_option maxRecDepth 4000 in
theorem mup {w : World} {a : Option Addr} {cap : Nat} {rs : List NRow} (hl : Doc w a cap rs) (i : Int) (h0 : 0 ≤ i) (h1 : i < rs.length) :
    Calls Tryz.prog 147 #[.slice a rs.length cap, .int .i64 i] w fun e w' => e = .returned (.int .i64 (up (npar rs) i.toNat)) ∧ w' = w := by
  obtain ⟨k, rfl⟩ := Int.eq_ofNat_of_zero_le h0
  have hk : k < rs.length := by omega
  have hlen := hl.len
  obtain ⟨b, off, rfl, hb, hc⟩ := hl.at (by omega)
  have hc0 := (hc k hk).1
  generalize hp : npar rs k = p at hc0
  have H := Lib.hid (show up (npar rs) k = if 0 ≤ p ∧ p < k then p else -1 by unfold up; rw [hp])
  clear hc hp hl
  show Calls _ _ _ _ fun e w' => e = .returned (.int .i64 (up (npar rs) k)) ∧ w' = w
  go_enter Tryz.func147, Tryz.ntmps147
  go_wp2
  all_goals
    go_ret
    exact ⟨ret_int (by rw [H.out]; omega), rfl⟩
end Go.Proofs.YtmlhipckgmbpfaaGreat
