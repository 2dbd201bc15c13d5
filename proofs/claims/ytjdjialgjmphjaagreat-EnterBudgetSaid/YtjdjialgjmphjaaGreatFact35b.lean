/- Part of the proof: Fact35b. -/
import Derived.Test.YtjdjialgjmphjaaGreatRows
import Derived.JoinedOf
import Derived.KernelRfl
set_option linter.all false
namespace Go.Proofs.YtjdjialgjmphjaaGreat
open Go
theorem enterBudget_k11 : (Rows.enterBudgetRow.recurses == Tryz.prog.recurses 7) = true := by kernel_rfl
theorem enterBudget_k12 : (Rows.enterBudgetRow.named == Tryz.prog.varsNamed 7) = true := by kernel_rfl
end Go.Proofs.YtjdjialgjmphjaaGreat
