/- The example of the statements' package answers true. No condition. -/
import Derived.Test.YtilljobnaoefiaaVmB
import Derived.Test.YtilljobnaoefiaaChecked
namespace Go.Proofs.Ytilljobnaoefiaa
open Go.RowKit
theorem mixed : Try.prog.follows .mixedOrders = true := by kernel_rfl
theorem fit_vm (w : World) : Calls Try.prog 6 #[] w fun e w' => e = .returned (.bool true) ∧ Below w.heap.size w w' :=
  vrun mixed 100000 60 6 [] (.bool true) rfl rfl (by kernel_rfl) w
end Go.Proofs.Ytilljobnaoefiaa
