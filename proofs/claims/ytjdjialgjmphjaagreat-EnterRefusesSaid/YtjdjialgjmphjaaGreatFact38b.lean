/- Part of the proof: Fact38b. -/
import Derived.Test.YtjdjialgjmphjaaGreatRows
import Derived.JoinedOf
import Derived.KernelRfl
set_option linter.all false
namespace Go.Proofs.YtjdjialgjmphjaaGreat
open Go
theorem enterRefuses_k11 : (Rows.enterRefusesRow.recurses == Tryz.prog.recurses 8) = true := by kernel_rfl
theorem enterRefuses_k12 : (Rows.enterRefusesRow.named == Tryz.prog.varsNamed 8) = true := by kernel_rfl
end Go.Proofs.YtjdjialgjmphjaaGreat
