/- The document's table of registers, run; what stands in it. No condition. -/
import Derived.Test.YtpkbkmppkgeklaaDoorAsD
namespace Go.Proofs.YtpkbkmppkgeklaaDoor
open Go.RowKit
set_option linter.unusedVariables false
def regC : List Value := [.string ⟨⟨[114, 97, 120]⟩⟩, .string ⟨⟨[101, 97, 120]⟩⟩, .string ⟨⟨[97, 120]⟩⟩, .string ⟨⟨[97, 108]⟩⟩, .string ⟨⟨[114, 99, 120]⟩⟩, .string ⟨⟨[101, 99, 120]⟩⟩, .string ⟨⟨[99, 120]⟩⟩, .string ⟨⟨[99, 108]⟩⟩, .string ⟨⟨[114, 100, 120]⟩⟩, .string ⟨⟨[101, 100, 120]⟩⟩, .string ⟨⟨[100, 120]⟩⟩, .string ⟨⟨[100, 108]⟩⟩, .string ⟨⟨[114, 98, 120]⟩⟩, .string ⟨⟨[101, 98, 120]⟩⟩, .string ⟨⟨[98, 120]⟩⟩, .string ⟨⟨[98, 108]⟩⟩, .string ⟨⟨[114, 115, 112]⟩⟩, .string ⟨⟨[101, 115, 112]⟩⟩, .string ⟨⟨[115, 112]⟩⟩, .string ⟨⟨[115, 112, 108]⟩⟩, .string ⟨⟨[114, 98, 112]⟩⟩, .string ⟨⟨[101, 98, 112]⟩⟩, .string ⟨⟨[98, 112]⟩⟩, .string ⟨⟨[98, 112, 108]⟩⟩, .string ⟨⟨[114, 115, 105]⟩⟩, .string ⟨⟨[101, 115, 105]⟩⟩, .string ⟨⟨[115, 105]⟩⟩, .string ⟨⟨[115, 105, 108]⟩⟩, .string ⟨⟨[114, 100, 105]⟩⟩, .string ⟨⟨[101, 100, 105]⟩⟩, .string ⟨⟨[100, 105]⟩⟩, .string ⟨⟨[100, 105, 108]⟩⟩, .string ⟨⟨[114, 56]⟩⟩, .string ⟨⟨[114, 56, 100]⟩⟩, .string ⟨⟨[114, 56, 119]⟩⟩, .string ⟨⟨[114, 56, 98]⟩⟩, .string ⟨⟨[114, 57]⟩⟩, .string ⟨⟨[114, 57, 100]⟩⟩, .string ⟨⟨[114, 57, 119]⟩⟩, .string ⟨⟨[114, 57, 98]⟩⟩, .string ⟨⟨[114, 49, 48]⟩⟩, .string ⟨⟨[114, 49, 48, 100]⟩⟩, .string ⟨⟨[114, 49, 48, 119]⟩⟩, .string ⟨⟨[114, 49, 48, 98]⟩⟩, .string ⟨⟨[114, 49, 49]⟩⟩, .string ⟨⟨[114, 49, 49, 100]⟩⟩, .string ⟨⟨[114, 49, 49, 119]⟩⟩, .string ⟨⟨[114, 49, 49, 98]⟩⟩, .string ⟨⟨[114, 49, 50]⟩⟩, .string ⟨⟨[114, 49, 50, 100]⟩⟩, .string ⟨⟨[114, 49, 50, 119]⟩⟩, .string ⟨⟨[114, 49, 50, 98]⟩⟩, .string ⟨⟨[114, 49, 51]⟩⟩, .string ⟨⟨[114, 49, 51, 100]⟩⟩, .string ⟨⟨[114, 49, 51, 119]⟩⟩, .string ⟨⟨[114, 49, 51, 98]⟩⟩, .string ⟨⟨[114, 49, 52]⟩⟩, .string ⟨⟨[114, 49, 52, 100]⟩⟩, .string ⟨⟨[114, 49, 52, 119]⟩⟩, .string ⟨⟨[114, 49, 52, 98]⟩⟩, .string ⟨⟨[114, 49, 53]⟩⟩, .string ⟨⟨[114, 49, 53, 100]⟩⟩, .string ⟨⟨[114, 49, 53, 119]⟩⟩, .string ⟨⟨[114, 49, 53, 98]⟩⟩]
theorem regC_len : regC.length = 64 := by kernel_rfl
theorem regC_all : ((List.range 16).all fun r => (List.range 4).all fun k => match regC[r * 4 + k]? with | some (.string s) => s.data.toList == regN r (3 - k) | _ => false) = true := by kernel_rfl
theorem regC_at {r k : Nat} (hr : r < 16) (hk : k < 4) : regC[r * 4 + k]? = some (.string ⟨⟨regN r (3 - k)⟩⟩) := by
  have h := regC_all
  simp only [List.all_eq_true, List.mem_range] at h
  have h1 := h r hr k hk
  split at h1
  · rename_i s e
    rw [e]
    have h2 : s.data.toList = regN r (3 - k) := by simpa using h1
    rw [← h2]
  · cases h1
theorem regs_run (w : World) (hN : NeedOk gs w ∧ gn ≤ w.heap.size) : Calls Tryd.prog 13 #[] w fun e w' => e = .returned (.agg ⟨regC⟩) ∧ Below w.heap.size w w' :=
  vrunG (Sy.none Tryd.prog (fun _ => none) gn) mixed 100000 60 13 gn gs [] [] (.agg ⟨regC⟩) (fun g hg => Nat.blt_eq.mp hg) w hN.2 gs_ok hN.1 (fun _ => LR.of_pfs rfl) rfl (by kernel_rfl)
end Go.Proofs.YtpkbkmppkgeklaaDoor
