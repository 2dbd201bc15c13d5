/- Part of the proof: Fact37a. -/
import Derived.Test.YtjdjialgjmphjaaGreatRows
import Derived.JoinedOf
import Derived.KernelRfl
set_option linter.all false
namespace Go.Proofs.YtjdjialgjmphjaaGreat
open Go
theorem enterChains_k9 : (Rows.enterChainsRow.inPlace == Tryz.prog.inPlace 6) = true := by kernel_rfl
theorem enterChains_k10 : (Rows.enterChainsRow.unfollowed == Tryz.prog.unfollowed 6) = true := by kernel_rfl
theorem enterChains_fn : Tryz.prog.funcNamed Rows.enterChainsRow.func = some 6 := by kernel_rfl
end Go.Proofs.YtjdjialgjmphjaaGreat
