/- Walks: which instructions may be (every operation). No condition. -/
import Derived.Test.YtmmpkkpmlaiapaaGreatDoorCpuVfx
import Derived.Test.YtmmpkkpmlaiapaaGreatDoorQf
import Derived.Test.YtmmpkkpmlaiapaaGreatDoorCpuVx0
import Derived.Test.YtmmpkkpmlaiapaaGreatDoorCpuVx1
import Derived.Test.YtmmpkkpmlaiapaaGreatDoorCpuVx2
namespace Go.Proofs.YtmmpkkpmlaiapaaGreatDoor
open Go.RowKit
set_option linter.unusedVariables false
set_option maxHeartbeats 8000000
theorem right_x (op dst src imm size s cond e : Int) (to_ : ByteArray) (w : World) (ho : In64 op) (hd : In64 dst) (hsr : In64 src) (hi : In64 imm) (hs : s = 0 ∨ s = 1) (he : e = 0 ∨ e = 1) (hE : to_.toList.isEmpty = decide (e = 1)) (hz : In64 size) (hc : In64 cond) :
    Calls Tryz.prog 49 #[.agg #[.int .i64 op, .int .i64 dst, .int .i64 src, .int .i64 imm, .int .i64 size, .bool (decide (s = 1)), .int .i64 cond, .string to_]] w fun en w' => RightIs (RP op dst src imm size s cond e) en ∧ Below w.heap.size w w' := by
  by_cases h : op < 1 ∨ (1 ≤ op ∧ 41 < op) ∨ (1 ≤ op ∧ op ≤ 41 ∧ dst < 0) ∨ (1 ≤ op ∧ op ≤ 41 ∧ 0 ≤ dst ∧ 15 < dst) ∨ (1 ≤ op ∧ op ≤ 41 ∧ 0 ≤ dst ∧ dst ≤ 15 ∧ src < 0) ∨ (1 ≤ op ∧ op ≤ 41 ∧ 0 ≤ dst ∧ dst ≤ 15 ∧ 0 ≤ src ∧ 15 < src) ∨
      (1 ≤ op ∧ op ≤ 41 ∧ 0 ≤ dst ∧ dst ≤ 15 ∧ 0 ≤ src ∧ src ≤ 15 ∧ (op != 2) = true ∧ imm < -2147483648) ∨ (1 ≤ op ∧ op ≤ 41 ∧ 0 ≤ dst ∧ dst ≤ 15 ∧ 0 ≤ src ∧ src ≤ 15 ∧ (op != 2) = true ∧ 2147483647 < imm)
  · exact first_x op dst src imm size s cond e to_ w hi h
  simp only [bne_iff_ne, ne_eq] at h
  have d1 : 0 ≤ dst := by omega
  have d2 : dst ≤ 15 := by omega
  have s1 : 0 ≤ src := by omega
  have s2 : src ≤ 15 := by omega
  have im : ¬ op = 2 → -2147483648 ≤ imm ∧ imm ≤ 2147483647 := by omega
  have hop : op = 1 ∨ (7 ≤ op ∧ op ≤ 13) ∨ op = 2 ∨ (14 ≤ op ∧ op ≤ 20) ∨ (24 ≤ op ∧ op ≤ 26) ∨ op = 3 ∨ op = 4 ∨ op = 5 ∨ op = 6 ∨ (21 ≤ op ∧ op ≤ 23) ∨ op = 28 ∨ op = 29 ∨ op = 36 ∨ op = 37 ∨ op = 40 ∨ op = 30 ∨ op = 31 ∨ op = 32 ∨ op = 34 ∨ op = 33 ∨ op = 35 ∨ op = 27 ∨ op = 38 ∨ op = 39 ∨ op = 41 := by omega
  rcases hop with rfl | ⟨o1, o2⟩ | rfl | ⟨o1, o2⟩ | ⟨o1, o2⟩ | rfl | rfl | rfl | rfl | ⟨o1, o2⟩ | rfl | rfl | rfl | rfl | rfl | rfl | rfl | rfl | rfl | rfl | rfl | rfl | rfl | rfl | rfl
  · exact right_x1 dst src imm size s cond e to_ w d1 d2 s1 s2 hi (im (by decide)).1 (im (by decide)).2 hs he hE hz hc
  · exact right_xa op dst src imm size s cond e to_ w o1 o2 d1 d2 s1 s2 hi (im (by omega)).1 (im (by omega)).2 hs he hE hz hc
  · exact right_x2 dst src imm size s cond e to_ w d1 d2 s1 s2 hi hs he hE hz hc
  · exact right_xb op dst src imm size s cond e to_ w o1 o2 d1 d2 s1 s2 hi (im (by omega)).1 (im (by omega)).2 hs he hE hz hc
  · exact right_xc op dst src imm size s cond e to_ w o1 o2 d1 d2 s1 s2 hi (im (by omega)).1 (im (by omega)).2 hs he hE hz hc
  · exact right_x3 dst src imm size s cond e to_ w d1 d2 s1 s2 hi (im (by decide)).1 (im (by decide)).2 hs he hE hz hc
  · exact right_x4 dst src imm size s cond e to_ w d1 d2 s1 s2 hi (im (by decide)).1 (im (by decide)).2 hs he hE hz hc
  · exact right_x5 dst src imm size s cond e to_ w d1 d2 s1 s2 hi (im (by decide)).1 (im (by decide)).2 hs he hE hz hc
  · exact right_x6 dst src imm size s cond e to_ w d1 d2 s1 s2 hi (im (by decide)).1 (im (by decide)).2 hs he hE hz hc
  · exact right_xd op dst src imm size s cond e to_ w o1 o2 d1 d2 s1 s2 hi (im (by omega)).1 (im (by omega)).2 hs he hE hz hc
  · exact right_x28 dst src imm size s cond e to_ w d1 d2 s1 s2 hi (im (by decide)).1 (im (by decide)).2 hs he hE hz hc
  · exact right_x29 dst src imm size s cond e to_ w d1 d2 s1 s2 hi (im (by decide)).1 (im (by decide)).2 hs he hE hz hc
  · exact right_x36 dst src imm size s cond e to_ w d1 d2 s1 s2 hi (im (by decide)).1 (im (by decide)).2 hs he hE hz hc
  · exact right_x37 dst src imm size s cond e to_ w d1 d2 s1 s2 hi (im (by decide)).1 (im (by decide)).2 hs he hE hz hc
  · exact right_x40 dst src imm size s cond e to_ w d1 d2 s1 s2 hi (im (by decide)).1 (im (by decide)).2 hs he hE hz hc
  · exact right_x30 dst src imm size s cond e to_ w d1 d2 s1 s2 hi (im (by decide)).1 (im (by decide)).2 hs he hE hz hc
  · exact right_x31 dst src imm size s cond e to_ w d1 d2 s1 s2 hi (im (by decide)).1 (im (by decide)).2 hs he hE hz hc
  · exact right_x32 dst src imm size s cond e to_ w d1 d2 s1 s2 hi (im (by decide)).1 (im (by decide)).2 hs he hE hz hc
  · exact right_x34 dst src imm size s cond e to_ w d1 d2 s1 s2 hi (im (by decide)).1 (im (by decide)).2 hs he hE hz hc
  · exact right_x33 dst src imm size s cond e to_ w d1 d2 s1 s2 hi (im (by decide)).1 (im (by decide)).2 hs he hE hz hc
  · exact right_x35 dst src imm size s cond e to_ w d1 d2 s1 s2 hi (im (by decide)).1 (im (by decide)).2 hs he hE hz hc
  · exact right_x27 dst src imm size s cond e to_ w d1 d2 s1 s2 hi (im (by decide)).1 (im (by decide)).2 hs he hE hz hc
  · exact right_x38 dst src imm size s cond e to_ w d1 d2 s1 s2 hi (im (by decide)).1 (im (by decide)).2 hs he hE hz hc
  · exact right_x39 dst src imm size s cond e to_ w d1 d2 s1 s2 hi (im (by decide)).1 (im (by decide)).2 hs he hE hz hc
  · exact right_x41 dst src imm size s cond e to_ w d1 d2 s1 s2 hi (im (by decide)).1 (im (by decide)).2 hs he hE hz hc
end Go.Proofs.YtmmpkkpmlaiapaaGreatDoor
