/- Part of the proof: Fact36a. -/
import Derived.Test.YtjdjialgjmphjaaGreatRows
import Derived.JoinedOf
import Derived.KernelRfl
set_option linter.all false
namespace Go.Proofs.YtjdjialgjmphjaaGreat
open Go
theorem enterMixed_k9 : (Rows.enterMixedRow.inPlace == Tryz.prog.inPlace 4) = true := by kernel_rfl
theorem enterMixed_k10 : (Rows.enterMixedRow.unfollowed == Tryz.prog.unfollowed 4) = true := by kernel_rfl
theorem enterMixed_fn : Tryz.prog.funcNamed Rows.enterMixedRow.func = some 4 := by kernel_rfl
end Go.Proofs.YtjdjialgjmphjaaGreat
