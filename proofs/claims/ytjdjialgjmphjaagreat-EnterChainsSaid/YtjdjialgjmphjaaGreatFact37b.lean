/- Part of the proof: Fact37b. -/
import Derived.Test.YtjdjialgjmphjaaGreatRows
import Derived.JoinedOf
import Derived.KernelRfl
set_option linter.all false
namespace Go.Proofs.YtjdjialgjmphjaaGreat
open Go
theorem enterChains_k11 : (Rows.enterChainsRow.recurses == Tryz.prog.recurses 6) = true := by kernel_rfl
theorem enterChains_k12 : (Rows.enterChainsRow.named == Tryz.prog.varsNamed 6) = true := by kernel_rfl
end Go.Proofs.YtjdjialgjmphjaaGreat
