/- The example of the statements' package answers true. No condition. -/
import Derived.Test.YtdaildpfkchbhaaDoorVmB
import Derived.Test.YtdaildpfkchbhaaDoorChecked
namespace Go.Proofs.YtdaildpfkchbhaaDoor
open Go.RowKit
theorem mixed : Tryd.prog.follows .mixedOrders = true := by kernel_rfl
theorem fit_vm (w : World) : Calls Tryd.prog 4 #[] w fun e w' => e = .returned (.bool true) ∧ Below w.heap.size w w' :=
  vrun mixed 100000 60 4 [] (.bool true) rfl rfl (by kernel_rfl) w
end Go.Proofs.YtdaildpfkchbhaaDoor
