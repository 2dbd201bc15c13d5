/- Part of the proof: Fact35a. -/
import Derived.Test.YtjdjialgjmphjaaGreatRows
import Derived.JoinedOf
import Derived.KernelRfl
set_option linter.all false
namespace Go.Proofs.YtjdjialgjmphjaaGreat
open Go
theorem enterBudget_k9 : (Rows.enterBudgetRow.inPlace == Tryz.prog.inPlace 7) = true := by kernel_rfl
theorem enterBudget_k10 : (Rows.enterBudgetRow.unfollowed == Tryz.prog.unfollowed 7) = true := by kernel_rfl
theorem enterBudget_fn : Tryz.prog.funcNamed Rows.enterBudgetRow.func = some 7 := by kernel_rfl
end Go.Proofs.YtjdjialgjmphjaaGreat
