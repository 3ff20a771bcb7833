/-
  Layer 13's laws, of arguments in memory.
-/
import Derived.Test.YtmlhipckgmbpfaaMtLaw3
import Derived.Test.YtmlhipckgmbpfaaOpenM
import Derived.Test.YtmlhipckgmbpfaaKnown13
namespace Go.Proofs.Ytmlhipckgmbpfaa
open Go Go.RowKit Sy
set_option linter.unusedVariables false
theorem psOk_of {W : World} {a : Option Addr} {cap : Nat} {l : List PRow} (h : Rows PRow.cells 6 W a cap l) (hq : ∀ q ∈ l, RowIn W q) : PsOk (l.map PRow.p) :=
  ⟨by rw [List.length_map]; exact h.sm, fun p hp => by
    obtain ⟨r, hr, rfl⟩ := List.mem_map.1 hp
    obtain ⟨r1, r2, r3⟩ := hq r hr
    exact ⟨r3, r1.sm, r2.sm⟩⟩
theorem fewer_walk {W : World} {a : Option Addr} {cap : Nat} {rs : List NRow} (hD : Doc W a cap rs) (i : Int) {pa : Option Addr} {pcap : Nat} {l : List PRow} (hR : Rows PRow.cells 6 W pa pcap l) (hQ : ∀ q ∈ l, RowIn W q ∧ q.p.cls.length * 16 ≤ reachBytes) {q : PRow} (hq : RowIn W q) {c : ByteArray} (hc : c.size ≤ maxLen) :
    Calls Try.prog 3 #[.slice a rs.length cap, .int .i64 i, .agg #[.slice pa l.length pcap], .agg q.cells.toArray, .string c] W fun e w' => e = .returned (.bool true) ∧ Below W.heap.size W w' :=
  law_trueS (Sy.fewer_t known13 (rs.map NRow.n) i (l.map PRow.p) q.p c hD.ok (psOk_of hR (fun q h => (hQ q h).1)) ⟨by simp, fun p hp => by
      simp at hp; subst hp
      exact ⟨hq.2.2, hq.1.sm, hq.2.1.sm⟩⟩ hc (fun p hp => by
      obtain ⟨r, hr, rfl⟩ := List.mem_map.1 hp
      have := (hQ r hr).2
      have e : reachBytes = 140737488351232 := by decide
      omega)) (us := [_, _, _, _, _])
    ⟨_, _, rfl, rel_nview hD, _, _, rfl, rfl, _, _, rfl, ⟨[.slice pa l.length pcap], rfl, _, _, rfl, pvL_rel (rel_pview hR (fun q h => (hQ q h).1)), rfl⟩, _, _, rfl, rel_part hq, _, _, rfl, rfl, rfl⟩
theorem wider_walk {W : World} {a : Option Addr} {cap : Nat} {rs : List NRow} (hD : Doc W a cap rs) (i : Int) {pa : Option Addr} {pcap : Nat} {l : List PRow} (hR : Rows PRow.cells 6 W pa pcap l) (hQ : ∀ q ∈ l, RowIn W q) (at_ : Int) :
    Calls Try.prog 4 #[.slice a rs.length cap, .int .i64 i, .agg #[.slice pa l.length pcap], .int .i64 at_] W fun e w' => e = .returned (.bool true) ∧ Below W.heap.size W w' :=
  law_trueS (Sy.wider_t known13 (rs.map NRow.n) i (l.map PRow.p) at_ hD.ok (psOk_of hR hQ)) (us := [_, _, _, _])
    ⟨_, _, rfl, rel_nview hD, _, _, rfl, rfl, _, _, rfl, ⟨[.slice pa l.length pcap], rfl, _, _, rfl, pvL_rel (rel_pview hR hQ), rfl⟩, _, _, rfl, rfl, rfl⟩
end Go.Proofs.Ytmlhipckgmbpfaa
