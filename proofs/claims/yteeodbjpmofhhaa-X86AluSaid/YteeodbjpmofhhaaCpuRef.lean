/- Walks: the reference's operations of two numbers answer as the program's. No condition. -/
import Derived.Test.YteeodbjpmofhhaaCpuRA
import Derived.Test.YteeodbjpmofhhaaCpuS
namespace Go.Proofs.Yteeodbjpmofhhaa
open Go.RowKit
set_option linter.unusedVariables false
set_option maxHeartbeats 1000000
theorem ref_any (op a b : Int) (f : Fl) (w : World) (ho : In64 op) (ha : InU64 a) (hb : InU64 b) :
    Calls Try.prog 11 #[.int .i64 op, .int .u64 a, .int .u64 b, f.v] w fun e w' => aluIs (alu op a b f) e ∧ Below w.heap.size w w' := by
  by_cases h1 : op = 7 ∨ op = 14
  · exact ref_add op a b f w ha hb h1
  by_cases h2 : op = 8 ∨ op = 15 ∨ op = 13 ∨ op = 20
  · exact ref_cmp op a b f w ha hb h2
  by_cases h3 : op = 9 ∨ op = 16 ∨ op = 10 ∨ op = 17 ∨ op = 11 ∨ op = 18 ∨ op = 12 ∨ op = 19
  · exact ref_logic op a b f w ha hb h3
  by_cases h4 : op = 21 ∨ op = 24 ∨ op = 22 ∨ op = 25 ∨ op = 23 ∨ op = 26
  · by_cases hk : b % 64 = 0
    · exact ref_keep op a b f w ha hb h4 hk
    · by_cases h5 : op = 21 ∨ op = 24
      · exact ref_shl op a b f w ha hb h5 hk
      · by_cases h6 : op = 22 ∨ op = 25
        · exact ref_sar op a b f w ha hb h6 hk
        · exact ref_shr op a b f w ha hb (by omega) hk
  · exact ref_none op a b f w (by omega) ho
theorem ref_is (op a b : Int) (f : Fl) (n : Int) (z s c o ok : Bool) (w : World) (ho : In64 op) (ha : InU64 a) (hb : InU64 b) (hr : alu op a b f = (n, ⟨z, s, c, o⟩, ok)) :
    Calls Try.prog 11 #[.int .i64 op, .int .u64 a, .int .u64 b, f.v] w fun e w' => e = .returned (.tuple #[.int .u64 n, .agg #[.bool z, .bool s, .bool c, .bool o], .bool ok]) ∧ Below w.heap.size w w' := by
  have := ref_any op a b f w ho ha hb
  rw [hr] at this
  exact this
theorem flags_walk (n : Int) (w : World) : Calls Try.prog 9 #[.int .i64 n] w fun e w' => (∃ f : Fl, e = .returned f.v) ∧ Below w.heap.size w w' := by
  go_enter Try.func9, Try.ntmps9
  go_wp2
  go_returns
  exact ⟨⟨⟨_, _, _, _⟩, rfl⟩, below_alloc _ (Below.refl _ _)⟩
end Go.Proofs.Yteeodbjpmofhhaa
