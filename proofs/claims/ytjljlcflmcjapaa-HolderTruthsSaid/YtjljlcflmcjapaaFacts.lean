/-
  Closed facts of the program's types: the fields of structs that are looked at by value.
-/
import Derived.Test.YtjljlcflmcjapaaProg
import Derived.Test.YtjljlcflmcjapaaBase
namespace Go.Proofs.Ytjljlcflmcjapaa
@[go_sem] theorem fExt0 (c0 c1 c2 c3 : Value) (w : World) : (Instr.field 31 (.agg #[c0, c1, c2, c3]) 0).run Try.prog w = .ok c0 w := by kernel_rfl
@[go_sem] theorem fExt1 (c0 c1 c2 c3 : Value) (w : World) : (Instr.field 31 (.agg #[c0, c1, c2, c3]) 1).run Try.prog w = .ok c1 w := by kernel_rfl
@[go_sem] theorem fExt2 (c0 c1 c2 c3 : Value) (w : World) : (Instr.field 31 (.agg #[c0, c1, c2, c3]) 2).run Try.prog w = .ok c2 w := by kernel_rfl
@[go_sem] theorem fExt3 (c0 c1 c2 c3 : Value) (w : World) : (Instr.field 31 (.agg #[c0, c1, c2, c3]) 3).run Try.prog w = .ok c3 w := by kernel_rfl
end Go.Proofs.Ytjljlcflmcjapaa
