/-
  How Go's slices of plain structs read in memory: 'Rows': a slice whose elements' cells are known; kept over any world that only has grown.
-/
import Derived.WalkKit
import Derived.WalkLawsBesides
import Derived.WalkSpells
import Derived.WalkSmall
import Derived.Laws.AppendOwnNone
import Derived.Lib.Hide
import Derived.BigQuiet
import Derived.Deep.QuietTactic
import Derived.Deep.RegionWith
import Derived.Deep.RegionHeld3
import Derived.Deep.LoopGhost
import Derived.Deep.DeepFit
namespace Go.Proofs.YtmlhipckgmbpfaaGreat
open Go.RowKit

/-- a slice's elements, each a list of cells -/
structure Rows {α : Type} (cells : α → List Value) (s : Nat) (w : World) (a : Option Addr) (cap : Nat) (xs : List α) : Prop where
  le : xs.length ≤ cap
  max : cap ≤ 9223372036854775807
  sm : xs.length ≤ 17592186044416
  nil : a = none → cap = 0
  base : xs ≠ [] → ∃ b off, a = some ⟨b, off, none⟩ ∧ b < w.heap.size ∧
    ∀ k (h : k < xs.length) j u, (cells xs[k])[j]? = some u → w.cell? ⟨b, off + k * s + j, none⟩ = some u

theorem Rows.len {α : Type} {cells : α → List Value} {s : Nat} {w : World} {a : Option Addr} {cap : Nat} {xs : List α} (h : Rows cells s w a cap xs) : xs.length ≤ 9223372036854775807 :=
  Nat.le_trans h.le h.max

theorem Rows.below {α : Type} {cells : α → List Value} {s : Nat} {w w' : World} {a : Option Addr} {cap : Nat} {xs : List α} {B : Nat}
    (h : Rows cells s w a cap xs) (hb : Below B w w') (hB : w.heap.size ≤ B) : Rows cells s w' a cap xs :=
  ⟨h.le, h.max, h.sm, h.nil, fun hne => by
    obtain ⟨b, off, ha, hlt, hc⟩ := h.base hne
    exact ⟨b, off, ha, Nat.lt_of_lt_of_le hlt hb.size, fun k hk j u hu => (hb.cell (p := ⟨b, off + k * s + j, none⟩) (Nat.lt_of_lt_of_le hlt hB)).trans (hc k hk j u hu)⟩⟩

theorem Rows.grow {α : Type} {cells : α → List Value} {s : Nat} {w w' : World} {a : Option Addr} {cap : Nat} {xs : List α}
    (h : Rows cells s w a cap xs) (hb : Below w.heap.size w w') : Rows cells s w' a cap xs := h.below hb (Nat.le_refl _)

/-- old cells and old marks read as before -/
theorem bcell {B : Nat} {W w1 : World} (hb : Below B W w1) : (∀ b o, b < B → w1.cell? ⟨b, o, none⟩ = W.cell? ⟨b, o, none⟩) ∧ (∀ b o, b < B → w1.frozen? ⟨b, o, none⟩ = W.frozen? ⟨b, o, none⟩) :=
  ⟨fun b o h => hb.cell (p := ⟨b, o, none⟩) h, fun b o h => hb.frozen (p := ⟨b, o, none⟩) h⟩

/-- two growths -/
theorem bseq {w w1 w2 : World} (h1 : Below w.heap.size w w1) (h2 : Below w1.heap.size w1 w2) : Below w.heap.size w w2 := h1.trans (h2.mono h1.size)
theorem balloc {w w1 : World} (h1 : Below w.heap.size w w1) (o : Obj) : Below w.heap.size w (w1.alloc o) := h1.alloc h1.size o

/-- w, grown as u is; w itself where u is no growth of w: so every growth of w has this form -/
noncomputable def wext (w u : World) : World := open Classical in if Below w.heap.size w u then u else w
theorem wext_below (w u : World) : Below w.heap.size w (wext w u) := by
  unfold wext; split
  · assumption
  · exact Below.refl _ _
theorem to_wext {w u : World} (h : Below w.heap.size w u) : u = wext w u := by unfold wext; rw [if_pos h]
@[go_sem] theorem wext_cell (w u : World) (n i : Nat) (h : n < w.heap.size) : (wext w u).cell? ⟨n, i, none⟩ = w.cell? ⟨n, i, none⟩ := (wext_below w u).cell (p := ⟨n, i, none⟩) h
@[go_sem] theorem wext_frozen (w u : World) (n i : Nat) (h : n < w.heap.size) : (wext w u).frozen? ⟨n, i, none⟩ = w.frozen? ⟨n, i, none⟩ := (wext_below w u).frozen (p := ⟨n, i, none⟩) h
@[go_sem] theorem wext_lt (w u : World) (n : Nat) (h : n < w.heap.size) : n < (wext w u).heap.size := Nat.lt_of_lt_of_le h (wext_below w u).size
theorem Rows.wext {α : Type} {cells : α → List Value} {s : Nat} {w : World} {a : Option Addr} {cap : Nat} {xs : List α}
    (h : Rows cells s w a cap xs) (u : World) : Rows cells s (wext w u) a cap xs := h.grow (wext_below w u)

/-- a callee met in a grown world -/
theorem ext_of {P : Program} {f : FuncId} {args : Array Value} {w u : World} {v : Value}
    (h : Calls P f args (wext w u) fun e w' => e = .returned v ∧ Below (wext w u).heap.size (wext w u) w') : Calls P f args (wext w u) fun e w' => e = .returned v ∧ ∃ u', w' = wext w u' :=
  h.mono fun _ w' ⟨he, hb⟩ => ⟨he, w', to_wext ((wext_below w u).trans (hb.mono (wext_below w u).size))⟩
theorem ext_of_same {P : Program} {f : FuncId} {args : Array Value} {w u : World} {v : Value}
    (h : Calls P f args (wext w u) fun e w' => e = .returned v ∧ wext w u = w') : Calls P f args (wext w u) fun e w' => e = .returned v ∧ ∃ u', w' = wext w u' :=
  h.mono fun _ _ ⟨he, hb⟩ => ⟨he, u, hb.symm⟩
/-- a region that draws its order, whose operations read and whose callees make memory at most: one walk, in the order of the text -/
theorem wp_region_ext {P : Program} {id : Nat} {Q : Exit → Act → World → Prop} {a : Act} {w : World} {l : List Oper} (hm : P.follows .mixedOrders = true) (hB : Region.lexB .any l.toArray = true)
    (h : wpQuiet P l.toArray (fun w' => ∃ u, w' = wext w u) (fun a' => ∀ w', (∃ u, w' = wext w u) → Q .normal a' w') l a) : (Code.region id l.toArray true).wp P Q a w :=
  wp_region_quiet (C := fun w' => ∃ u, w' = wext w u) hm hB ⟨{ w with drawn := w.drawn + 1 }, to_wext ⟨rfl, rfl, rfl, Nat.le_refl _, fun _ _ => rfl⟩⟩ (by simpa using h)

theorem ret_int {k : IntKind} {a b : Int} (h : a = b) : Ending.returned (.int k a) = .returned (.int k b) := by rw [h]
theorem ret_bool {a b : Bool} (h : a = b) : Ending.returned (.bool a) = .returned (.bool b) := by rw [h]

theorem ret_ints {a b c d : Int} (h : a = c) (h' : b = d) : Ending.returned (.tuple #[.int .i64 a, .int .i64 b]) = .returned (.tuple #[.int .i64 c, .int .i64 d]) := by rw [h, h']

theorem bytes_ext {a b : ByteArray} (h : a.toList = b.toList) : a = b := by
  rw [ByteArray.toList_eq, ByteArray.toList_eq] at h
  cases a; cases b; congr 1; exact Array.toList_inj.1 h
theorem str_beq (a b : ByteArray) : (a.toList == b.toList) = decide (a = b) := by
  rw [Bool.eq_iff_iff, beq_iff_eq, decide_eq_true_eq]
  exact ⟨bytes_ext, fun h => by rw [h]⟩
theorem str_emp (a : ByteArray) : a.toList.isEmpty = decide (a = ⟨#[]⟩) := by
  rw [Bool.eq_iff_iff, List.isEmpty_iff, decide_eq_true_eq]
  exact ⟨fun h => bytes_ext (by rw [h, ByteArray.toList_eq]), fun h => by rw [h, ByteArray.toList_eq]⟩

/-- the cells of an int, of a string, as a slice's element -/
def cInt (n : Int) : List Value := [.int .i64 n]
def cStr (s : ByteArray) : List Value := [.string s]

structure ExtV where
  type : Int
  name : ByteArray
  w : Int
  h : Int
def ExtV.zero : ExtV := ⟨0, ⟨#[]⟩, 0, 0⟩
def ExtV.cells (e : ExtV) : List Value := [.int .i64 e.type, .string e.name, .int .i64 e.w, .int .i64 e.h]
def ExtV.val (e : ExtV) : Value := .agg #[.int .i64 e.type, .string e.name, .int .i64 e.w, .int .i64 e.h]

/-- an extent by its place; none there: nothing -/
def atV (x : List ExtV) (i : Int) : ExtV := if i < 0 then ExtV.zero else match x[i.toNat]? with | some e => e | none => ExtV.zero

structure NodeV where
  parent : Int
  tag : ByteArray
  id : ByteArray
  cls : Value
  att : Value
  text : ByteArray
def NodeV.cells (n : NodeV) : List Value := [.int .i64 n.parent, .string n.tag, .string n.id, n.cls, n.att, .string n.text]
theorem NodeV.len (y : NodeV) : y.cells.length = 6 := rfl
def NodeV.val (n : NodeV) : Value := .agg #[.int .i64 n.parent, .string n.tag, .string n.id, n.cls, n.att, .string n.text]

theorem ExtV.len (y : ExtV) : y.cells.length = 4 := rfl
theorem ExtV.one (y : ExtV) : ∀ u ∈ y.cells, u.oneCell' = true := by
  intro u hu
  simp only [ExtV.cells, List.mem_cons, List.not_mem_nil, or_false] at hu
  rcases hu with rfl | rfl | rfl | rfl <;> rfl

structure AttrV where
  name : ByteArray
  value : ByteArray
def AttrV.cells (a : AttrV) : List Value := [.string a.name, .string a.value]
theorem AttrV.len (y : AttrV) : y.cells.length = 2 := rfl
theorem AttrV.one (y : AttrV) : ∀ u ∈ y.cells, u.oneCell' = true := by
  intro u hu
  simp only [AttrV.cells, List.mem_cons, List.not_mem_nil, or_false] at hu
  rcases hu with rfl | rfl <;> rfl
abbrev RAttrs := Rows AttrV.cells 2

abbrev RInts := Rows cInt 1
abbrev RStrs := Rows cStr 1
abbrev RExts := Rows ExtV.cells 4
abbrev RNodes := Rows NodeV.cells 6

/-- a node's parent, by its place -/
def par (l : List NodeV) (k : Nat) : Int := match l[k]? with | some n => n.parent | none => 0

theorem par_eq {l : List NodeV} {k : Nat} (h : k < l.length) : par l k = l[k].parent := by simp [par, h]

theorem RInts.at {w : World} {a : Option Addr} {cap : Nat} {xs : List Int} (h : RInts w a cap xs) (hne : xs ≠ []) :
    ∃ b off, a = some ⟨b, off, none⟩ ∧ b < w.heap.size ∧ ∀ k (hk : k < xs.length), w.cell? ⟨b, off + k, none⟩ = some (.int .i64 xs[k]) := by
  obtain ⟨b, off, ha, hlt, hc⟩ := h.base hne
  exact ⟨b, off, ha, hlt, fun k hk => by simpa using hc k hk 0 _ (by simp [cInt])⟩

theorem RStrs.at {w : World} {a : Option Addr} {cap : Nat} {xs : List ByteArray} (h : RStrs w a cap xs) (hne : xs ≠ []) :
    ∃ b off, a = some ⟨b, off, none⟩ ∧ b < w.heap.size ∧ ∀ k (hk : k < xs.length), w.cell? ⟨b, off + k, none⟩ = some (.string xs[k]) := by
  obtain ⟨b, off, ha, hlt, hc⟩ := h.base hne
  exact ⟨b, off, ha, hlt, fun k hk => by simpa using hc k hk 0 _ (by simp [cStr])⟩

theorem RNodes.at {w : World} {a : Option Addr} {cap : Nat} {l : List NodeV} (h : RNodes w a cap l) (hne : l ≠ []) :
    ∃ b off, a = some ⟨b, off, none⟩ ∧ b < w.heap.size ∧ ∀ k (hk : k < l.length),
      w.cell? ⟨b, off + k * 6, none⟩ = some (.int .i64 (par l k)) ∧ w.cell? ⟨b, off + k * 6 + 1, none⟩ = some (.string l[k].tag) ∧
      w.cell? ⟨b, off + k * 6 + 2, none⟩ = some (.string l[k].id) ∧ w.cell? ⟨b, off + k * 6 + 3, none⟩ = some l[k].cls ∧
      w.cell? ⟨b, off + k * 6 + 4, none⟩ = some l[k].att ∧ w.cell? ⟨b, off + k * 6 + 5, none⟩ = some (.string l[k].text) := by
  obtain ⟨b, off, ha, hlt, hc⟩ := h.base hne
  refine ⟨b, off, ha, hlt, fun k hk => ⟨?_, ?_, ?_, ?_, ?_, ?_⟩⟩
  · rw [par_eq hk]; exact hc k hk 0 _ rfl
  · exact hc k hk 1 _ rfl
  · exact hc k hk 2 _ rfl
  · exact hc k hk 3 _ rfl
  · exact hc k hk 4 _ rfl
  · exact hc k hk 5 _ rfl

theorem RAttrs.at {w : World} {a : Option Addr} {cap : Nat} {l : List AttrV} (h : RAttrs w a cap l) (hne : l ≠ []) :
    ∃ b off, a = some ⟨b, off, none⟩ ∧ b < w.heap.size ∧ ∀ k (hk : k < l.length),
      w.cell? ⟨b, off + k * 2, none⟩ = some (.string l[k].name) ∧ w.cell? ⟨b, off + k * 2 + 1, none⟩ = some (.string l[k].value) := by
  obtain ⟨b, off, ha, hlt, hc⟩ := h.base hne
  exact ⟨b, off, ha, hlt, fun k hk => ⟨hc k hk 0 _ rfl, hc k hk 1 _ rfl⟩⟩

theorem RExts.at {w : World} {a : Option Addr} {cap : Nat} {l : List ExtV} (h : RExts w a cap l) (hne : l ≠ []) :
    ∃ b off, a = some ⟨b, off, none⟩ ∧ b < w.heap.size ∧ ∀ k (hk : k < l.length),
      w.cell? ⟨b, off + k * 4, none⟩ = some (.int .i64 l[k].type) ∧ w.cell? ⟨b, off + k * 4 + 1, none⟩ = some (.string l[k].name) ∧
      w.cell? ⟨b, off + k * 4 + 2, none⟩ = some (.int .i64 l[k].w) ∧ w.cell? ⟨b, off + k * 4 + 3, none⟩ = some (.int .i64 l[k].h) := by
  obtain ⟨b, off, ha, hlt, hc⟩ := h.base hne
  exact ⟨b, off, ha, hlt, fun k hk => ⟨hc k hk 0 _ rfl, hc k hk 1 _ rfl, hc k hk 2 _ rfl, hc k hk 3 _ rfl⟩⟩

/-- a call of a function that has a Go body: it is entered -/
theorem enters {P : Program} {f : FuncId} {fn : Func} {c : Code} (hf : P.funcs[f]? = some fn) (hname : (fn.name == "runtime.NumGoroutine") = false) (hb : fn.body = some c) (args : Array Value) (w : World) :
    (callFunc f args).run P w = .ok (.enter f args) w := by
  have h1 : fn.name ≠ "runtime.NumGoroutine" := by simpa using hname
  simp [callFunc, hf, h1, hb]

theorem find_take {α : Type} (f : α → Bool) (U : List α) (j : Nat) (hj : j < U.length) (h : (U.take j).find? f = none) :
    (f U[j] = true → U.find? f = some U[j]) ∧ (f U[j] = false → (U.take (j + 1)).find? f = none) := by
  have e : U.take (j + 1) = U.take j ++ [U[j]] := by rw [List.take_succ_eq_append_getElem hj]
  constructor
  · intro hf
    have : U.find? f = (U.take (j + 1) ++ U.drop (j + 1)).find? f := by rw [List.take_append_drop]
    rw [this, List.find?_append, e, List.find?_append, h]
    simp [hf]
  · intro hf
    rw [e, List.find?_append, h]; simp [hf]

/-- a slice type's facts: elements of type e, of so many cells and bytes -/
structure SliceT (P : Program) (t e : TypeId) (size bytes : Nat) (z : Value) : Prop where
  under : P.underlying t = some (.slice e)
  info : ∃ i, P.info? e = some i ∧ i.zero = some z ∧ i.size = size ∧ i.bytes = bytes
  zs : z.cells.size = size
  pos : 0 < size

theorem Below.of_grown {B : Nat} {w w' : World} {e : TypeId} {size : Nat} {v : Value} {n : Nat} {xs : List Value} (hg : w.grownBy w' v.ownBlock) (hown : w.ownsRow B e size v n xs) (hB : B ≤ w.heap.size) : Below B w w' :=
  (Below.refl B w).grown hg hB (fun k hk => (hown.lt k hk).1)

/-- append of what one new block holds, onto a slice of the call's own -/
theorem wpList_app {P : Program} {w : World} {ops : Array Oper} {rest : List Oper} {o : Oper} {a : Act} {Q : Exit → Act → World → Prop}
    (t e : TypeId) (size bytes : Nat) (z : Value) (hT : SliceT P t e size bytes z) (hgd : o.guard = none) (s x : Operand)
    (ho : o.op = .call { callee := .builtin .append, args := #[s, x], argTypes := #[t, t] })
    (base : Nat) (v : Value) (n : Nat) (xs : List Value) (hs : a.eval s = v) (hown : w.ownsRow base e size v n xs)
    (m : Nat) (news : Array Value) (hx : a.eval x = .slice (some ⟨w.heap.size, 0, none⟩) m m) (hl : news.size = m * size) (h1 : ∀ u ∈ news, u.oneCell' = true)
    (hbytes : (n + m) * bytes ≤ 140737488355328) (hn : n + m ≤ 17592186044416) (hbase : base ≤ w.heap.size)
    (h : ∀ v' w', w'.ownsRow base e size v' (n + m) (xs ++ news.toList) → Below base w w' → wpList P ops Q rest (a.put o.dst v') w') :
    wpList P ops Q (o :: rest) a (w.alloc (.cells news e)) := by
  obtain ⟨i, hi, hz, hsz, hby⟩ := hT.info
  refine wpList_append_own _ hgd s x t ho base e i z size bytes hT.under hi hz hsz hby hT.zs hT.pos v n xs hs (hown.alloc _) ⟨w.heap.size, 0, none⟩ m m news.toList hx (by simpa using hl) ?_ (by simpa using h1) (by unfold maxLen; omega) hbytes (by simp; omega) ?_
  · intro j u hu
    have : (⟨w.heap.size, 0, none⟩ : Addr).add j = ⟨w.heap.size, j, none⟩ := by unfold Addr.add; split <;> simp_all
    rw [this, World.cell?_alloc_new]
    simpa using hu
  · intro v' w' ho' hg _
    exact h v' w' ho' (((Below.refl _ _).alloc hbase _).trans (Below.of_grown hg (hown.alloc _) (by simp; omega)))

/-- make with a length that is reckoned -/
theorem wpList_mk {P : Program} {w : World} {ops : Array Oper} {rest : List Oper} {o : Oper} {a : Act} {Q : Exit → Act → World → Prop}
    (t e : TypeId) (size bytes : Nat) (z : Value) (hT : SliceT P t e size bytes z) (hgd : o.guard = none) (l c : Operand) (ho : o.op = .makeSlice t l c)
    (base : Nat) (kl kc : IntKind) (n : Nat) (hl : a.eval l = .int kl (n : Int)) (hc : a.eval c = .int kc (n : Int)) (hb : bytes * n ≤ 281474976710656) (hm : n ≤ maxLen) (hbase : base ≤ w.heap.size)
    (h : ∀ w', w'.ownsRow base e size (.slice (some ⟨w.heap.size, 0, none⟩) n n) n (madeCells z.cells (n * size)).toList → Below base w w' → wpList P ops Q rest (a.put o.dst (.slice (some ⟨w.heap.size, 0, none⟩) n n)) w') :
    wpList P ops Q (o :: rest) a w := by
  obtain ⟨i, hi, hz, hsz, hby⟩ := hT.info
  refine wpList_make_full w hgd l c t ho base e i z size hT.under hi hz hsz kl kc n n n hl hc rfl rfl (by rw [hby]; exact hb) hm hbase ?_
  intro w' ho' hg
  exact h w' ho' ((Below.refl base w).grown hg hbase (fun k hk => by cases hk))

/-- a slice of the call's own reads as rows -/
theorem Rows.of_own {α : Type} {cells : α → List Value} {s : Nat} {w : World} {base : Nat} {e : TypeId} {v : Value} {xs : List α} {flat : List Value}
    (h : w.ownsRow base e s v xs.length flat) (hf : ∀ k (hk : k < xs.length) j u, (cells xs[k])[j]? = some u → flat[k * s + j]? = some u) (hs : xs.length ≤ 17592186044416) :
    ∃ a cap, v = .slice a xs.length cap ∧ Rows cells s w a cap xs := by
  rcases h.2 with ⟨rfl, h0⟩ | ⟨g, cap, cur, rfl, hb, hg, hnc, hcm, hcs, htake⟩
  · refine ⟨none, 0, by rw [h0], by omega, by omega, hs, fun _ => rfl, fun hne => absurd (List.eq_nil_of_length_eq_zero h0) hne⟩
  · refine ⟨some ⟨g, 0, none⟩, cap, rfl, hnc, by simpa [maxLen] using hcm, hs, (fun h => by cases h), fun _ => ⟨g, 0, rfl, (Array.getElem?_eq_some_iff.1 hg).1, fun k hk j u hu => ?_⟩⟩
    have h1 := hf k hk j u hu
    rw [← htake, List.getElem?_take] at h1
    split at h1
    · simp only [World.cell?, hg]
      simpa [Nat.zero_add] using h1
    · cases h1

theorem flat_get {α : Type} (cells : α → List Value) (s : Nat) : ∀ (xs : List α), (∀ x ∈ xs, (cells x).length = s) → ∀ k (hk : k < xs.length) j u, (cells xs[k])[j]? = some u → ((xs.map cells).flatten)[k * s + j]? = some u
  | [], _, k, hk, _, _, _ => absurd hk (by simp)
  | x :: xs, h, 0, _, j, u, hu => by
    have hx := h x (by simp)
    simp only [List.getElem_cons_zero] at hu
    have hj : j < (cells x).length := by
      rcases Nat.lt_or_ge j (cells x).length with h' | h'
      · exact h'
      · rw [List.getElem?_eq_none h'] at hu; cases hu
    simp only [List.map_cons, List.flatten_cons, Nat.zero_mul, Nat.zero_add]
    rw [List.getElem?_append_left hj]; exact hu
  | x :: xs, h, k + 1, hk, j, u, hu => by
    have hx := h x (by simp)
    simp only [List.getElem_cons_succ] at hu
    have := flat_get cells s xs (fun y hy => h y (by simp [hy])) k (by simpa using hk) j u hu
    simp only [List.map_cons, List.flatten_cons]
    rw [List.getElem?_append_right (by rw [hx, Nat.add_mul]; omega)]
    rw [show (k + 1) * s + j - (cells x).length = k * s + j by rw [hx, Nat.add_mul]; omega]
    exact this

/-- a block that is known whole reads as rows -/
theorem Rows.of_block {α : Type} {cells : α → List Value} {s : Nat} {w : World} {g : Nat} {cur : Array Value} {e : TypeId} {fr : Nat × Nat} {xs : List α} {cap : Nat}
    (hg : w.heap[g]? = some (.cells cur e fr)) (hs : ∀ x ∈ xs, (cells x).length = s) (hc : cur.toList = (xs.map cells).flatten) (h1 : xs.length ≤ cap) (h2 : cap ≤ 17592186044416) : Rows cells s w (some ⟨g, 0, none⟩) cap xs :=
  ⟨h1, by omega, by omega, (fun h => by cases h), fun _ => ⟨g, 0, rfl, (Array.getElem?_eq_some_iff.1 hg).1, fun k hk j u hu => by
    have := flat_get cells s xs hs k hk j u hu
    rw [← hc] at this
    simp only [World.cell?, hg]
    simpa using this⟩⟩

theorem flat_at {α : Type} (cells : α → List Value) (s : Nat) (hs : 0 < s) : ∀ (xs : List α), (∀ x ∈ xs, (cells x).length = s) → ∀ i u, ((xs.map cells).flatten)[i]? = some u → ∃ k, ∃ hk : k < xs.length, ∃ j, i = k * s + j ∧ (cells xs[k])[j]? = some u
  | [], _, i, u, h => by simp at h
  | x :: xs, hx, i, u, h => by
    have h0 := hx x (by simp)
    simp only [List.map_cons, List.flatten_cons] at h
    by_cases hi : i < s
    · rw [List.getElem?_append_left (by omega)] at h
      exact ⟨0, by simp, i, by omega, h⟩
    · rw [List.getElem?_append_right (by omega), h0] at h
      obtain ⟨k, hk, j, e, hu⟩ := flat_at cells s hs xs (fun y hy => hx y (by simp [hy])) (i - s) u h
      exact ⟨k + 1, by simpa using hk, j, by rw [Nat.add_mul]; omega, by simpa using hu⟩

/-- all cells of a slice, one behind the other -/
theorem Rows.flat {α : Type} {cells : α → List Value} {s : Nat} {w : World} {b off cap : Nat} {xs : List α} (h : Rows cells s w (some ⟨b, off, none⟩) cap xs) (hs : 0 < s) (hx : ∀ x ∈ xs, (cells x).length = s) :
    ∀ i u, ((xs.map cells).flatten)[i]? = some u → w.cell? ((⟨b, off, none⟩ : Addr).add i) = some u := by
  intro i u hu
  obtain ⟨k, hk, j, rfl, h'⟩ := flat_at cells s hs xs hx i u hu
  obtain ⟨b', off', e, _, hc⟩ := h.base (by intro e; rw [e] at hk; simp at hk)
  simp at e
  obtain ⟨rfl, rfl⟩ := e
  have := hc k hk j u h'
  unfold Addr.add
  split
  · rename_i hz
    rw [Nat.add_assoc, hz] at this; exact this
  · simpa [Nat.add_assoc] using this

/-- append of a whole slice, onto a slice of the call's own -/
theorem wpList_app_rows {α : Type} {cells : α → List Value} {P : Program} {w : World} {ops : Array Oper} {rest : List Oper} {o : Oper} {a : Act} {Q : Exit → Act → World → Prop}
    (t e : TypeId) (size bytes : Nat) (z : Value) (hT : SliceT P t e size bytes z) (hgd : o.guard = none) (s x : Operand)
    (ho : o.op = .call { callee := .builtin .append, args := #[s, x], argTypes := #[t, t] })
    (base : Nat) (v : Value) (n : Nat) (xs : List Value) (hs : a.eval s = v) (hown : w.ownsRow base e size v n xs)
    (ao : Option Addr) (capy : Nat) (ys : List α) (hx : a.eval x = .slice ao ys.length capy) (hY : Rows cells size w ao capy ys) (hlen : ∀ y ∈ ys, (cells y).length = size) (h1 : ∀ y ∈ ys, ∀ u ∈ cells y, u.oneCell' = true)
    (hbytes : (n + ys.length) * bytes ≤ 140737488355328) (hn : n + ys.length ≤ 17592186044416) (hbase : base ≤ w.heap.size)
    (h : ∀ v' w', w'.ownsRow base e size v' (n + ys.length) (xs ++ (ys.map cells).flatten) → Below base w w' → wpList P ops Q rest (a.put o.dst v') w') :
    wpList P ops Q (o :: rest) a w := by
  obtain ⟨i, hi, hz, hsz, hby⟩ := hT.info
  cases ao with
  | none =>
    have h0 := hY.nil rfl
    subst h0
    have hle := hY.le
    have : ys = [] := List.eq_nil_of_length_eq_zero (by omega)
    subst this
    refine wpList_append_own_none hgd s x t ho base e i size hT.under hi v n xs hs hown hx ?_
    have := h v w (by simpa using hown) (Below.refl _ _)
    exact this
  | some ad =>
    have hfl : ((ys.map cells).flatten).length = ys.length * size := by
      clear h hx hY h1 hbytes hn
      induction ys with
      | nil => simp
      | cons y ys ih => simp [ih (fun y hy => hlen y (by simp [hy])), hlen y (by simp), Nat.add_mul]; omega
    refine wpList_append_own _ hgd s x t ho base e i z size bytes hT.under hi hz hsz hby hT.zs hT.pos v n xs hs hown ad ys.length capy _ hx hfl ?_ ?_ (by unfold maxLen; omega) hbytes hbase ?_
    · intro j u hu
      by_cases hne : ys = []
      · subst hne; simp at hu
      · obtain ⟨b, off, e, _, _⟩ := hY.base hne
        simp at e; subst e
        exact hY.flat hT.pos hlen j u hu
    · intro u hu
      obtain ⟨c, hc, hu⟩ := List.mem_flatten.1 hu
      obtain ⟨y, hy, rfl⟩ := List.mem_map.1 hc
      exact h1 y hy u hu
    · intro v' w' ho' hg _
      exact h v' w' ho' (Below.of_grown hg hown hbase)

/-- the block of a slice of the call's own that is not empty -/
theorem own_block {w : World} {base : Nat} {e : TypeId} {s : Nat} {v : Value} {n : Nat} {flat : List Value} (h : w.ownsRow base e s v n flat) (hn : 0 < n) :
    ∃ g cap cur, v = .slice (some ⟨g, 0, none⟩) n cap ∧ base ≤ g ∧ w.heap[g]? = some (.cells cur e (0, 0)) ∧ cur.toList.take (n * s) = flat ∧ n ≤ cap ∧ cap ≤ maxLen ∧ cur.size = cap * s := by
  rcases h.2 with ⟨_, h0⟩ | ⟨g, cap, cur, rfl, hb, hg, hnc, hcm, hcs, ht⟩
  · omega
  · exact ⟨g, cap, cur, rfl, hb, hg, ht, hnc, hcm, hcs⟩

theorem block_cell {w : World} {g : Nat} {cur : Array Value} {e : TypeId} {fr : Nat × Nat} (h : w.heap[g]? = some (.cells cur e fr)) {j : Nat} (hj : j < cur.size) : ∃ u, w.cell? ⟨g, j, none⟩ = some u := by
  simp [World.cell?, h, hj]
theorem block_free {w : World} {g : Nat} {cur : Array Value} {e : TypeId} (h : w.heap[g]? = some (.cells cur e (0, 0))) (j : Nat) : w.frozen? ⟨g, j, none⟩ = false := by
  simp [World.frozen?, h]

theorem setCell_block {w : World} {g : Nat} {cur : Array Value} {e : TypeId} {fr : Nat × Nat} (h : w.heap[g]? = some (.cells cur e fr)) (o : Nat) (v : Value) : (w.setCell ⟨g, o, none⟩ v).heap[g]? = some (.cells (cur.setIfInBounds o v) e fr) := by
  simp [World.setCell, Array.getElem?_modify, h]

/-- an extent stored into a slice of the call's own -/
theorem RExts.stored {w : World} {g : Nat} {cur : Array Value} {e : TypeId} {x : List ExtV} {cap : Nat} (hg : w.heap[g]? = some (.cells cur e (0, 0))) (ht : cur.toList.take (x.length * 4) = (x.map ExtV.cells).flatten)
    (hs : cur.size = cap * 4) (hle : x.length ≤ cap) (hm : cap ≤ maxLen) (hsm : x.length ≤ 17592186044416) (k : Nat) (hk : k < x.length) (y : ExtV) :
    RExts ((((w.setCell ⟨g, k * 4, none⟩ (.int .i64 y.type)).setCell ⟨g, k * 4 + 1, none⟩ (.string y.name)).setCell ⟨g, k * 4 + 2, none⟩ (.int .i64 y.w)).setCell ⟨g, k * 4 + 3, none⟩ (.int .i64 y.h)) (some ⟨g, 0, none⟩) cap (x.set k y) := by
  have h1 := setCell_block (setCell_block (setCell_block (setCell_block hg (k * 4) (.int .i64 y.type)) (k * 4 + 1) (.string y.name)) (k * 4 + 2) (.int .i64 y.w)) (k * 4 + 3) (.int .i64 y.h)
  refine ⟨by simpa using hle, by simpa [maxLen] using hm, by simpa using hsm, (fun h => by cases h), fun _ => ⟨g, 0, rfl, (Array.getElem?_eq_some_iff.1 h1).1, fun m hm' j u hu => ?_⟩⟩
  have hml : m < x.length := by simpa using hm'
  simp only [World.cell?, h1, Nat.zero_add]
  have hj : j < 4 := by
    rcases Nat.lt_or_ge j 4 with h' | h'
    · exact h'
    · rw [List.getElem?_eq_none (by simp [ExtV.cells]; omega)] at hu; cases hu
  simp only [Array.getElem?_setIfInBounds, Option.isSome_none, Bool.false_eq_true, if_false, Array.size_setIfInBounds]
  by_cases hmk : m = k
  · subst hmk
    simp only [List.getElem_set_self] at hu
    have hcap : m * 4 + 3 < cur.size := by rw [hs]; omega
    match j, hj with
    | 0, _ => simp [ExtV.cells] at hu; subst hu; simp; omega
    | 1, _ => simp [ExtV.cells] at hu; subst hu; simp; omega
    | 2, _ => simp [ExtV.cells] at hu; subst hu; simp; omega
    | 3, _ => simp [ExtV.cells] at hu; subst hu; simp; omega
  · rw [List.getElem_set_ne (by omega)] at hu
    have h2 := flat_get ExtV.cells 4 x (fun y _ => y.len) m hml j u hu
    rw [← ht, List.getElem?_take] at h2
    split at h2
    · rw [if_neg (by omega), if_neg (by omega), if_neg (by omega), if_neg (by omega)]
      simpa using h2
    · cases h2

/-- a new block -/
theorem Rows.fresh {α : Type} {cells : α → List Value} {s : Nat} (w : World) (e : TypeId) (xs : List α) (hs : ∀ x ∈ xs, (cells x).length = s) (h2 : xs.length ≤ 17592186044416) :
    Rows cells s (w.alloc (.cells (xs.map cells).flatten.toArray e)) (some ⟨w.heap.size, 0, none⟩) xs.length xs :=
  Rows.of_block (heap_alloc_new w _) hs (by simp) (Nat.le_refl _) h2
theorem Rows.later {α : Type} {cells : α → List Value} {s : Nat} {w : World} {a : Option Addr} {cap : Nat} {xs : List α} (h : Rows cells s w a cap xs) (o : Obj) : Rows cells s (w.alloc o) a cap xs :=
  h.grow ((Below.refl _ _).alloc (Nat.le_refl _) _)

theorem RInts.of_own {w : World} {base : Nat} {e : TypeId} {v : Value} {xs : List Int}
    (h : w.ownsRow base e 1 v xs.length (xs.map (.int .i64))) (hs : xs.length ≤ 17592186044416) :
    ∃ a cap, v = .slice a xs.length cap ∧ RInts w a cap xs :=
  Rows.of_own h (fun k hk j u hu => by
    match j, hu with
    | 0, hu => simp [cInt] at hu; subst hu; simp [hk]
    | j + 1, hu => simp [cInt] at hu) hs

end Go.Proofs.YtmlhipckgmbpfaaGreat
