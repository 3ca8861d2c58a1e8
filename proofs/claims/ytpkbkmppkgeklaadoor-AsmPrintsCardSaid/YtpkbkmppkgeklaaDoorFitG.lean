/- The example of the statements' package answers true. No condition. -/
import Derived.Test.YtpkbkmppkgeklaaDoorGl
import Derived.Test.YtpkbkmppkgeklaaDoorVmB
import Derived.Test.YtpkbkmppkgeklaaDoorRegA
namespace Go.Proofs.YtpkbkmppkgeklaaDoor
open Go.RowKit
theorem fit_vm (w : World) (hN : NeedOk gs w ∧ gn ≤ w.heap.size) : Calls Tryd.prog 8 #[] w fun e w' => e = .returned (.bool true) ∧ Below w.heap.size w w' :=
  vrunG (Sy.none Tryd.prog (fun _ => none) gn) mixed 100000 60 8 gn gs [] [] (.bool true) (fun g hg => Nat.blt_eq.mp hg) w hN.2 gs_ok hN.1 (fun _ => LR.of_pfs rfl) rfl (by kernel_rfl)
end Go.Proofs.YtpkbkmppkgeklaaDoor
