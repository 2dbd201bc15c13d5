/- Part of the proof: Fact36b. -/
import Derived.Test.YtjdjialgjmphjaaGreatRows
import Derived.JoinedOf
import Derived.KernelRfl
set_option linter.all false
namespace Go.Proofs.YtjdjialgjmphjaaGreat
open Go
theorem enterMixed_k11 : (Rows.enterMixedRow.recurses == Tryz.prog.recurses 4) = true := by kernel_rfl
theorem enterMixed_k12 : (Rows.enterMixedRow.named == Tryz.prog.varsNamed 4) = true := by kernel_rfl
end Go.Proofs.YtjdjialgjmphjaaGreat
