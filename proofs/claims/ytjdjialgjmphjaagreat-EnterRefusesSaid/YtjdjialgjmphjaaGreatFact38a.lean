/- Part of the proof: Fact38a. -/
import Derived.Test.YtjdjialgjmphjaaGreatRows
import Derived.JoinedOf
import Derived.KernelRfl
set_option linter.all false
namespace Go.Proofs.YtjdjialgjmphjaaGreat
open Go
theorem enterRefuses_k9 : (Rows.enterRefusesRow.inPlace == Tryz.prog.inPlace 8) = true := by kernel_rfl
theorem enterRefuses_k10 : (Rows.enterRefusesRow.unfollowed == Tryz.prog.unfollowed 8) = true := by kernel_rfl
theorem enterRefuses_fn : Tryz.prog.funcNamed Rows.enterRefusesRow.func = some 8 := by kernel_rfl
end Go.Proofs.YtjdjialgjmphjaaGreat
