/- asm.rest, by operations (part 0). No condition. -/
import Derived.Test.YtmmpkkpmlaiapaaGreatDoorQf
namespace Go.Proofs.YtmmpkkpmlaiapaaGreatDoor
open Go.RowKit
set_option maxRecDepth 100000
set_option linter.unusedVariables false
set_option maxHeartbeats 8000000
theorem rest_27 (w : World) (hN : GsOk w) (dst src imm size cond : Int) (g : Bool) (to_ : ByteArray) :
    Calls Tryz.prog 59 #[.agg #[.int .i64 27, .int .i64 dst, .int .i64 src, .int .i64 imm, .int .i64 size, .bool g, .int .i64 cond, .string to_]] w fun en w' => en = .returned (.string (⟨#[99, 113, 116, 111]⟩)) ∧ Below w.heap.size w w' := by
  have HG := Lib.hid hN
  obtain ⟨w0, hW0⟩ : ∃ W0, W0 = w.alloc (.cells #[.int .i64 27, .int .i64 dst, .int .i64 src, .int .i64 imm, .int .i64 size, .bool g, .int .i64 cond, .string to_] 23) := ⟨_, rfl⟩
  have kb0 : Below w.heap.size w w0 := by rw [hW0]; exact below_alloc _ (Below.refl _ _)
  have k0 : w0.heap[w.heap.size]? = some (.cells #[.int .i64 27, .int .i64 dst, .int .i64 src, .int .i64 imm, .int .i64 size, .bool g, .int .i64 cond, .string to_] 23 (0, 0)) := by rw [hW0]; exact blk_new _ _
  clear hN
  go_enter Tryz.func59, Tryz.ntmps59
  go_wp2_with fail
  go_returns
  exact ⟨rfl, by rw [hW0] at kb0; exact kb0⟩
theorem rest_28 (w : World) (hN : GsOk w) (dst src imm size cond : Int) (g : Bool) (to_ : ByteArray) :
    Calls Tryz.prog 59 #[.agg #[.int .i64 28, .int .i64 dst, .int .i64 src, .int .i64 imm, .int .i64 size, .bool g, .int .i64 cond, .string to_]] w fun en w' => en = .returned (.string (⟨#[105, 100, 105, 118, 113, 32]⟩ ++ pS dst 8)) ∧ Below w.heap.size w w' := by
  have z2 := pS_size dst 8
  have HG := Lib.hid hN
  obtain ⟨w0, hW0, HB0, HK0⟩ := ent w (.cells #[.int .i64 28, .int .i64 dst, .int .i64 src, .int .i64 imm, .int .i64 size, .bool g, .int .i64 cond, .string to_] 23)
  clear hN
  go_enter Tryz.func59, Tryz.ntmps59
  go_wp2_with fail
  rw [← hW0]
  clear hW0
  have c0 : w0.cell? ⟨w.heap.size, 0, none⟩ = some (.int .i64 28) := blk_cell HK0.out rfl
  have c1 : w0.cell? ⟨w.heap.size, 1, none⟩ = some (.int .i64 dst) := blk_cell HK0.out rfl
  have c2 : w0.cell? ⟨w.heap.size, 2, none⟩ = some (.int .i64 src) := blk_cell HK0.out rfl
  have c3 : w0.cell? ⟨w.heap.size, 3, none⟩ = some (.int .i64 imm) := blk_cell HK0.out rfl
  have c4 : w0.cell? ⟨w.heap.size, 4, none⟩ = some (.int .i64 size) := blk_cell HK0.out rfl
  have c5 : w0.cell? ⟨w.heap.size, 5, none⟩ = some (.bool g) := blk_cell HK0.out rfl
  have c6 : w0.cell? ⟨w.heap.size, 6, none⟩ = some (.int .i64 cond) := blk_cell HK0.out rfl
  have c7 : w0.cell? ⟨w.heap.size, 7, none⟩ = some (.string to_) := blk_cell HK0.out rfl
  have lw := blk_lt HK0.out
  refine (r_any w0 (HG.out.below HB0.out) dst).mono ?_
  rintro en w1 ⟨rfl, kb⟩
  obtain ⟨HB1, HK1⟩ := bk HB0 HK0 kb
  clear kb c0 c1 c2 c3 c4 c5 c6 c7 lw
  have c0 : w1.cell? ⟨w.heap.size, 0, none⟩ = some (.int .i64 28) := blk_cell HK1.out rfl
  have c1 : w1.cell? ⟨w.heap.size, 1, none⟩ = some (.int .i64 dst) := blk_cell HK1.out rfl
  have c2 : w1.cell? ⟨w.heap.size, 2, none⟩ = some (.int .i64 src) := blk_cell HK1.out rfl
  have c3 : w1.cell? ⟨w.heap.size, 3, none⟩ = some (.int .i64 imm) := blk_cell HK1.out rfl
  have c4 : w1.cell? ⟨w.heap.size, 4, none⟩ = some (.int .i64 size) := blk_cell HK1.out rfl
  have c5 : w1.cell? ⟨w.heap.size, 5, none⟩ = some (.bool g) := blk_cell HK1.out rfl
  have c6 : w1.cell? ⟨w.heap.size, 6, none⟩ = some (.int .i64 cond) := blk_cell HK1.out rfl
  have c7 : w1.cell? ⟨w.heap.size, 7, none⟩ = some (.string to_) := blk_cell HK1.out rfl
  have lw := blk_lt HK1.out
  go_wp2_with fail
  go_returns
  exact ⟨rfl, HB1.out⟩
theorem rest_29 (w : World) (hN : GsOk w) (dst src imm size cond : Int) (g : Bool) (to_ : ByteArray) :
    Calls Tryz.prog 59 #[.agg #[.int .i64 29, .int .i64 dst, .int .i64 src, .int .i64 imm, .int .i64 size, .bool g, .int .i64 cond, .string to_]] w fun en w' => en = .returned (.string (⟨#[100, 105, 118, 113, 32]⟩ ++ pS dst 8)) ∧ Below w.heap.size w w' := by
  have z2 := pS_size dst 8
  have HG := Lib.hid hN
  obtain ⟨w0, hW0, HB0, HK0⟩ := ent w (.cells #[.int .i64 29, .int .i64 dst, .int .i64 src, .int .i64 imm, .int .i64 size, .bool g, .int .i64 cond, .string to_] 23)
  clear hN
  go_enter Tryz.func59, Tryz.ntmps59
  go_wp2_with fail
  rw [← hW0]
  clear hW0
  have c0 : w0.cell? ⟨w.heap.size, 0, none⟩ = some (.int .i64 29) := blk_cell HK0.out rfl
  have c1 : w0.cell? ⟨w.heap.size, 1, none⟩ = some (.int .i64 dst) := blk_cell HK0.out rfl
  have c2 : w0.cell? ⟨w.heap.size, 2, none⟩ = some (.int .i64 src) := blk_cell HK0.out rfl
  have c3 : w0.cell? ⟨w.heap.size, 3, none⟩ = some (.int .i64 imm) := blk_cell HK0.out rfl
  have c4 : w0.cell? ⟨w.heap.size, 4, none⟩ = some (.int .i64 size) := blk_cell HK0.out rfl
  have c5 : w0.cell? ⟨w.heap.size, 5, none⟩ = some (.bool g) := blk_cell HK0.out rfl
  have c6 : w0.cell? ⟨w.heap.size, 6, none⟩ = some (.int .i64 cond) := blk_cell HK0.out rfl
  have c7 : w0.cell? ⟨w.heap.size, 7, none⟩ = some (.string to_) := blk_cell HK0.out rfl
  have lw := blk_lt HK0.out
  refine (r_any w0 (HG.out.below HB0.out) dst).mono ?_
  rintro en w1 ⟨rfl, kb⟩
  obtain ⟨HB1, HK1⟩ := bk HB0 HK0 kb
  clear kb c0 c1 c2 c3 c4 c5 c6 c7 lw
  have c0 : w1.cell? ⟨w.heap.size, 0, none⟩ = some (.int .i64 29) := blk_cell HK1.out rfl
  have c1 : w1.cell? ⟨w.heap.size, 1, none⟩ = some (.int .i64 dst) := blk_cell HK1.out rfl
  have c2 : w1.cell? ⟨w.heap.size, 2, none⟩ = some (.int .i64 src) := blk_cell HK1.out rfl
  have c3 : w1.cell? ⟨w.heap.size, 3, none⟩ = some (.int .i64 imm) := blk_cell HK1.out rfl
  have c4 : w1.cell? ⟨w.heap.size, 4, none⟩ = some (.int .i64 size) := blk_cell HK1.out rfl
  have c5 : w1.cell? ⟨w.heap.size, 5, none⟩ = some (.bool g) := blk_cell HK1.out rfl
  have c6 : w1.cell? ⟨w.heap.size, 6, none⟩ = some (.int .i64 cond) := blk_cell HK1.out rfl
  have c7 : w1.cell? ⟨w.heap.size, 7, none⟩ = some (.string to_) := blk_cell HK1.out rfl
  have lw := blk_lt HK1.out
  go_wp2_with fail
  go_returns
  exact ⟨rfl, HB1.out⟩
theorem rest_31 (w : World) (hN : GsOk w) (dst src imm size cond : Int) (g : Bool) (to_ : ByteArray) :
    Calls Tryz.prog 59 #[.agg #[.int .i64 31, .int .i64 dst, .int .i64 src, .int .i64 imm, .int .i64 size, .bool g, .int .i64 cond, .string to_]] w fun en w' => en = .returned (.string (⟨#[115, 101, 116]⟩ ++ cB cond ++ ⟨#[32, 37]⟩ ++ rB dst 1)) ∧ Below w.heap.size w w' := by
  have zB := rB_size dst 1
  have zD := cB_size cond
  have HG := Lib.hid hN
  obtain ⟨w0, hW0, HB0, HK0⟩ := ent w (.cells #[.int .i64 31, .int .i64 dst, .int .i64 src, .int .i64 imm, .int .i64 size, .bool g, .int .i64 cond, .string to_] 23)
  clear hN
  go_enter Tryz.func59, Tryz.ntmps59
  go_wp2_with fail
  rw [← hW0]
  clear hW0
  have c0 : w0.cell? ⟨w.heap.size, 0, none⟩ = some (.int .i64 31) := blk_cell HK0.out rfl
  have c1 : w0.cell? ⟨w.heap.size, 1, none⟩ = some (.int .i64 dst) := blk_cell HK0.out rfl
  have c2 : w0.cell? ⟨w.heap.size, 2, none⟩ = some (.int .i64 src) := blk_cell HK0.out rfl
  have c3 : w0.cell? ⟨w.heap.size, 3, none⟩ = some (.int .i64 imm) := blk_cell HK0.out rfl
  have c4 : w0.cell? ⟨w.heap.size, 4, none⟩ = some (.int .i64 size) := blk_cell HK0.out rfl
  have c5 : w0.cell? ⟨w.heap.size, 5, none⟩ = some (.bool g) := blk_cell HK0.out rfl
  have c6 : w0.cell? ⟨w.heap.size, 6, none⟩ = some (.int .i64 cond) := blk_cell HK0.out rfl
  have c7 : w0.cell? ⟨w.heap.size, 7, none⟩ = some (.string to_) := blk_cell HK0.out rfl
  have lw := blk_lt HK0.out
  refine wp_region_over (by kernel_rfl) (by kernel_rfl) ?_
  repeat (go_big_quiet_step (first | (go_at_call 55; exact calls_over (by exact Nat.le_refl _) (reg_b _ (gob HG HB0) _ _)) | (go_at_call 71; exact calls_over (by exact Nat.le_refl _) (cond_b _ (gob HG HB0) _))))
  refine wpQuiet_nil ?_
  intro w1 kb
  have HB1 := Lib.hid (HB0.out.bt kb)
  clear kb
  go_wp2_with fail
  go_returns
  exact ⟨rfl, HB1.out⟩
theorem rest_32 (w : World) (hN : GsOk w) (dst src imm size cond : Int) (g : Bool) (to_ : ByteArray) :
    Calls Tryz.prog 59 #[.agg #[.int .i64 32, .int .i64 dst, .int .i64 src, .int .i64 imm, .int .i64 size, .bool g, .int .i64 cond, .string to_]] w fun en w' => en = .returned (.string (⟨#[99, 109, 111, 118]⟩ ++ cB cond ++ ⟨#[113, 32]⟩ ++ pS src 8 ++ ⟨#[44, 32]⟩ ++ pS dst 8)) ∧ Below w.heap.size w w' := by
  have z1 := pS_size src 8
  have z2 := pS_size dst 8
  have zD := cB_size cond
  have HG := Lib.hid hN
  obtain ⟨w0, hW0, HB0, HK0⟩ := ent w (.cells #[.int .i64 32, .int .i64 dst, .int .i64 src, .int .i64 imm, .int .i64 size, .bool g, .int .i64 cond, .string to_] 23)
  clear hN
  go_enter Tryz.func59, Tryz.ntmps59
  go_wp2_with fail
  rw [← hW0]
  clear hW0
  have c0 : w0.cell? ⟨w.heap.size, 0, none⟩ = some (.int .i64 32) := blk_cell HK0.out rfl
  have c1 : w0.cell? ⟨w.heap.size, 1, none⟩ = some (.int .i64 dst) := blk_cell HK0.out rfl
  have c2 : w0.cell? ⟨w.heap.size, 2, none⟩ = some (.int .i64 src) := blk_cell HK0.out rfl
  have c3 : w0.cell? ⟨w.heap.size, 3, none⟩ = some (.int .i64 imm) := blk_cell HK0.out rfl
  have c4 : w0.cell? ⟨w.heap.size, 4, none⟩ = some (.int .i64 size) := blk_cell HK0.out rfl
  have c5 : w0.cell? ⟨w.heap.size, 5, none⟩ = some (.bool g) := blk_cell HK0.out rfl
  have c6 : w0.cell? ⟨w.heap.size, 6, none⟩ = some (.int .i64 cond) := blk_cell HK0.out rfl
  have c7 : w0.cell? ⟨w.heap.size, 7, none⟩ = some (.string to_) := blk_cell HK0.out rfl
  have lw := blk_lt HK0.out
  refine wp_region_over (by kernel_rfl) (by kernel_rfl) ?_
  repeat (go_big_quiet_step (first | (go_at_call 51; exact calls_over (by exact Nat.le_refl _) (r_any _ (gob HG HB0) _)) | (go_at_call 71; exact calls_over (by exact Nat.le_refl _) (cond_b _ (gob HG HB0) _))))
  refine wpQuiet_nil ?_
  intro w1 kb
  have HB1 := Lib.hid (HB0.out.bt kb)
  clear kb
  go_wp2_with fail
  go_returns
  exact ⟨rfl, HB1.out⟩
theorem rest_33 (w : World) (hN : GsOk w) (dst src imm size cond : Int) (g : Bool) (to_ : ByteArray) (ht : to_.size ≤ 300) :
    Calls Tryz.prog 59 #[.agg #[.int .i64 33, .int .i64 dst, .int .i64 src, .int .i64 imm, .int .i64 size, .bool g, .int .i64 cond, .string to_]] w fun en w' => en = .returned (.string (⟨#[106, 109, 112, 32]⟩ ++ to_)) ∧ Below w.heap.size w w' := by
  have HG := Lib.hid hN
  obtain ⟨w0, hW0⟩ : ∃ W0, W0 = w.alloc (.cells #[.int .i64 33, .int .i64 dst, .int .i64 src, .int .i64 imm, .int .i64 size, .bool g, .int .i64 cond, .string to_] 23) := ⟨_, rfl⟩
  have kb0 : Below w.heap.size w w0 := by rw [hW0]; exact below_alloc _ (Below.refl _ _)
  have k0 : w0.heap[w.heap.size]? = some (.cells #[.int .i64 33, .int .i64 dst, .int .i64 src, .int .i64 imm, .int .i64 size, .bool g, .int .i64 cond, .string to_] 23 (0, 0)) := by rw [hW0]; exact blk_new _ _
  clear hN
  go_enter Tryz.func59, Tryz.ntmps59
  go_wp2_with fail
  go_returns
  exact ⟨rfl, by rw [hW0] at kb0; exact kb0⟩
theorem rest_34 (w : World) (hN : GsOk w) (dst src imm size cond : Int) (g : Bool) (to_ : ByteArray) (ht : to_.size ≤ 300) :
    Calls Tryz.prog 59 #[.agg #[.int .i64 34, .int .i64 dst, .int .i64 src, .int .i64 imm, .int .i64 size, .bool g, .int .i64 cond, .string to_]] w fun en w' => en = .returned (.string (⟨#[106]⟩ ++ cB cond ++ ⟨#[32]⟩ ++ to_)) ∧ Below w.heap.size w w' := by
  have zD := cB_size cond
  have HG := Lib.hid hN
  obtain ⟨w0, hW0, HB0, HK0⟩ := ent w (.cells #[.int .i64 34, .int .i64 dst, .int .i64 src, .int .i64 imm, .int .i64 size, .bool g, .int .i64 cond, .string to_] 23)
  clear hN
  go_enter Tryz.func59, Tryz.ntmps59
  go_wp2_with fail
  rw [← hW0]
  clear hW0
  have c0 : w0.cell? ⟨w.heap.size, 0, none⟩ = some (.int .i64 34) := blk_cell HK0.out rfl
  have c1 : w0.cell? ⟨w.heap.size, 1, none⟩ = some (.int .i64 dst) := blk_cell HK0.out rfl
  have c2 : w0.cell? ⟨w.heap.size, 2, none⟩ = some (.int .i64 src) := blk_cell HK0.out rfl
  have c3 : w0.cell? ⟨w.heap.size, 3, none⟩ = some (.int .i64 imm) := blk_cell HK0.out rfl
  have c4 : w0.cell? ⟨w.heap.size, 4, none⟩ = some (.int .i64 size) := blk_cell HK0.out rfl
  have c5 : w0.cell? ⟨w.heap.size, 5, none⟩ = some (.bool g) := blk_cell HK0.out rfl
  have c6 : w0.cell? ⟨w.heap.size, 6, none⟩ = some (.int .i64 cond) := blk_cell HK0.out rfl
  have c7 : w0.cell? ⟨w.heap.size, 7, none⟩ = some (.string to_) := blk_cell HK0.out rfl
  have lw := blk_lt HK0.out
  refine wp_region_over (by kernel_rfl) (by kernel_rfl) ?_
  repeat (go_big_quiet_step ((go_at_call 71; exact calls_over (by exact Nat.le_refl _) (cond_b _ (gob HG HB0) _))))
  refine wpQuiet_nil ?_
  intro w1 kb
  have HB1 := Lib.hid (HB0.out.bt kb)
  clear kb
  go_wp2_with fail
  go_returns
  exact ⟨rfl, HB1.out⟩
theorem rest_35 (w : World) (hN : GsOk w) (dst src imm size cond : Int) (g : Bool) (to_ : ByteArray) (ht : to_.size ≤ 300) :
    Calls Tryz.prog 59 #[.agg #[.int .i64 35, .int .i64 dst, .int .i64 src, .int .i64 imm, .int .i64 size, .bool g, .int .i64 cond, .string to_]] w fun en w' => en = .returned (.string (⟨#[99, 97, 108, 108, 32]⟩ ++ to_)) ∧ Below w.heap.size w w' := by
  have HG := Lib.hid hN
  obtain ⟨w0, hW0⟩ : ∃ W0, W0 = w.alloc (.cells #[.int .i64 35, .int .i64 dst, .int .i64 src, .int .i64 imm, .int .i64 size, .bool g, .int .i64 cond, .string to_] 23) := ⟨_, rfl⟩
  have kb0 : Below w.heap.size w w0 := by rw [hW0]; exact below_alloc _ (Below.refl _ _)
  have k0 : w0.heap[w.heap.size]? = some (.cells #[.int .i64 35, .int .i64 dst, .int .i64 src, .int .i64 imm, .int .i64 size, .bool g, .int .i64 cond, .string to_] 23 (0, 0)) := by rw [hW0]; exact blk_new _ _
  clear hN
  go_enter Tryz.func59, Tryz.ntmps59
  go_wp2_with fail
  go_returns
  exact ⟨rfl, by rw [hW0] at kb0; exact kb0⟩
theorem rest_36 (w : World) (hN : GsOk w) (dst src imm size cond : Int) (g : Bool) (to_ : ByteArray) :
    Calls Tryz.prog 59 #[.agg #[.int .i64 36, .int .i64 dst, .int .i64 src, .int .i64 imm, .int .i64 size, .bool g, .int .i64 cond, .string to_]] w fun en w' => en = .returned (.string (⟨#[99, 97, 108, 108, 32, 42]⟩ ++ pS dst 8)) ∧ Below w.heap.size w w' := by
  have z2 := pS_size dst 8
  have HG := Lib.hid hN
  obtain ⟨w0, hW0, HB0, HK0⟩ := ent w (.cells #[.int .i64 36, .int .i64 dst, .int .i64 src, .int .i64 imm, .int .i64 size, .bool g, .int .i64 cond, .string to_] 23)
  clear hN
  go_enter Tryz.func59, Tryz.ntmps59
  go_wp2_with fail
  rw [← hW0]
  clear hW0
  have c0 : w0.cell? ⟨w.heap.size, 0, none⟩ = some (.int .i64 36) := blk_cell HK0.out rfl
  have c1 : w0.cell? ⟨w.heap.size, 1, none⟩ = some (.int .i64 dst) := blk_cell HK0.out rfl
  have c2 : w0.cell? ⟨w.heap.size, 2, none⟩ = some (.int .i64 src) := blk_cell HK0.out rfl
  have c3 : w0.cell? ⟨w.heap.size, 3, none⟩ = some (.int .i64 imm) := blk_cell HK0.out rfl
  have c4 : w0.cell? ⟨w.heap.size, 4, none⟩ = some (.int .i64 size) := blk_cell HK0.out rfl
  have c5 : w0.cell? ⟨w.heap.size, 5, none⟩ = some (.bool g) := blk_cell HK0.out rfl
  have c6 : w0.cell? ⟨w.heap.size, 6, none⟩ = some (.int .i64 cond) := blk_cell HK0.out rfl
  have c7 : w0.cell? ⟨w.heap.size, 7, none⟩ = some (.string to_) := blk_cell HK0.out rfl
  have lw := blk_lt HK0.out
  refine (r_any w0 (HG.out.below HB0.out) dst).mono ?_
  rintro en w1 ⟨rfl, kb⟩
  obtain ⟨HB1, HK1⟩ := bk HB0 HK0 kb
  clear kb c0 c1 c2 c3 c4 c5 c6 c7 lw
  have c0 : w1.cell? ⟨w.heap.size, 0, none⟩ = some (.int .i64 36) := blk_cell HK1.out rfl
  have c1 : w1.cell? ⟨w.heap.size, 1, none⟩ = some (.int .i64 dst) := blk_cell HK1.out rfl
  have c2 : w1.cell? ⟨w.heap.size, 2, none⟩ = some (.int .i64 src) := blk_cell HK1.out rfl
  have c3 : w1.cell? ⟨w.heap.size, 3, none⟩ = some (.int .i64 imm) := blk_cell HK1.out rfl
  have c4 : w1.cell? ⟨w.heap.size, 4, none⟩ = some (.int .i64 size) := blk_cell HK1.out rfl
  have c5 : w1.cell? ⟨w.heap.size, 5, none⟩ = some (.bool g) := blk_cell HK1.out rfl
  have c6 : w1.cell? ⟨w.heap.size, 6, none⟩ = some (.int .i64 cond) := blk_cell HK1.out rfl
  have c7 : w1.cell? ⟨w.heap.size, 7, none⟩ = some (.string to_) := blk_cell HK1.out rfl
  have lw := blk_lt HK1.out
  go_wp2_with fail
  go_returns
  exact ⟨rfl, HB1.out⟩
theorem rest_37 (w : World) (hN : GsOk w) (dst src imm size cond : Int) (g : Bool) (to_ : ByteArray) :
    Calls Tryz.prog 59 #[.agg #[.int .i64 37, .int .i64 dst, .int .i64 src, .int .i64 imm, .int .i64 size, .bool g, .int .i64 cond, .string to_]] w fun en w' => en = .returned (.string (⟨#[106, 109, 112, 32, 42]⟩ ++ pS dst 8)) ∧ Below w.heap.size w w' := by
  have z2 := pS_size dst 8
  have HG := Lib.hid hN
  obtain ⟨w0, hW0, HB0, HK0⟩ := ent w (.cells #[.int .i64 37, .int .i64 dst, .int .i64 src, .int .i64 imm, .int .i64 size, .bool g, .int .i64 cond, .string to_] 23)
  clear hN
  go_enter Tryz.func59, Tryz.ntmps59
  go_wp2_with fail
  rw [← hW0]
  clear hW0
  have c0 : w0.cell? ⟨w.heap.size, 0, none⟩ = some (.int .i64 37) := blk_cell HK0.out rfl
  have c1 : w0.cell? ⟨w.heap.size, 1, none⟩ = some (.int .i64 dst) := blk_cell HK0.out rfl
  have c2 : w0.cell? ⟨w.heap.size, 2, none⟩ = some (.int .i64 src) := blk_cell HK0.out rfl
  have c3 : w0.cell? ⟨w.heap.size, 3, none⟩ = some (.int .i64 imm) := blk_cell HK0.out rfl
  have c4 : w0.cell? ⟨w.heap.size, 4, none⟩ = some (.int .i64 size) := blk_cell HK0.out rfl
  have c5 : w0.cell? ⟨w.heap.size, 5, none⟩ = some (.bool g) := blk_cell HK0.out rfl
  have c6 : w0.cell? ⟨w.heap.size, 6, none⟩ = some (.int .i64 cond) := blk_cell HK0.out rfl
  have c7 : w0.cell? ⟨w.heap.size, 7, none⟩ = some (.string to_) := blk_cell HK0.out rfl
  have lw := blk_lt HK0.out
  refine (r_any w0 (HG.out.below HB0.out) dst).mono ?_
  rintro en w1 ⟨rfl, kb⟩
  obtain ⟨HB1, HK1⟩ := bk HB0 HK0 kb
  clear kb c0 c1 c2 c3 c4 c5 c6 c7 lw
  have c0 : w1.cell? ⟨w.heap.size, 0, none⟩ = some (.int .i64 37) := blk_cell HK1.out rfl
  have c1 : w1.cell? ⟨w.heap.size, 1, none⟩ = some (.int .i64 dst) := blk_cell HK1.out rfl
  have c2 : w1.cell? ⟨w.heap.size, 2, none⟩ = some (.int .i64 src) := blk_cell HK1.out rfl
  have c3 : w1.cell? ⟨w.heap.size, 3, none⟩ = some (.int .i64 imm) := blk_cell HK1.out rfl
  have c4 : w1.cell? ⟨w.heap.size, 4, none⟩ = some (.int .i64 size) := blk_cell HK1.out rfl
  have c5 : w1.cell? ⟨w.heap.size, 5, none⟩ = some (.bool g) := blk_cell HK1.out rfl
  have c6 : w1.cell? ⟨w.heap.size, 6, none⟩ = some (.int .i64 cond) := blk_cell HK1.out rfl
  have c7 : w1.cell? ⟨w.heap.size, 7, none⟩ = some (.string to_) := blk_cell HK1.out rfl
  have lw := blk_lt HK1.out
  go_wp2_with fail
  go_returns
  exact ⟨rfl, HB1.out⟩
theorem rest_38 (w : World) (hN : GsOk w) (dst src imm size cond : Int) (g : Bool) (to_ : ByteArray) :
    Calls Tryz.prog 59 #[.agg #[.int .i64 38, .int .i64 dst, .int .i64 src, .int .i64 imm, .int .i64 size, .bool g, .int .i64 cond, .string to_]] w fun en w' => en = .returned (.string (⟨#[114, 101, 116]⟩)) ∧ Below w.heap.size w w' := by
  have HG := Lib.hid hN
  obtain ⟨w0, hW0⟩ : ∃ W0, W0 = w.alloc (.cells #[.int .i64 38, .int .i64 dst, .int .i64 src, .int .i64 imm, .int .i64 size, .bool g, .int .i64 cond, .string to_] 23) := ⟨_, rfl⟩
  have kb0 : Below w.heap.size w w0 := by rw [hW0]; exact below_alloc _ (Below.refl _ _)
  have k0 : w0.heap[w.heap.size]? = some (.cells #[.int .i64 38, .int .i64 dst, .int .i64 src, .int .i64 imm, .int .i64 size, .bool g, .int .i64 cond, .string to_] 23 (0, 0)) := by rw [hW0]; exact blk_new _ _
  clear hN
  go_enter Tryz.func59, Tryz.ntmps59
  go_wp2_with fail
  go_returns
  exact ⟨rfl, by rw [hW0] at kb0; exact kb0⟩
theorem rest_39 (w : World) (hN : GsOk w) (dst src imm size cond : Int) (g : Bool) (to_ : ByteArray) :
    Calls Tryz.prog 59 #[.agg #[.int .i64 39, .int .i64 dst, .int .i64 src, .int .i64 imm, .int .i64 size, .bool g, .int .i64 cond, .string to_]] w fun en w' => en = .returned (.string (⟨#[108, 102, 101, 110, 99, 101]⟩)) ∧ Below w.heap.size w w' := by
  have HG := Lib.hid hN
  obtain ⟨w0, hW0⟩ : ∃ W0, W0 = w.alloc (.cells #[.int .i64 39, .int .i64 dst, .int .i64 src, .int .i64 imm, .int .i64 size, .bool g, .int .i64 cond, .string to_] 23) := ⟨_, rfl⟩
  have kb0 : Below w.heap.size w w0 := by rw [hW0]; exact below_alloc _ (Below.refl _ _)
  have k0 : w0.heap[w.heap.size]? = some (.cells #[.int .i64 39, .int .i64 dst, .int .i64 src, .int .i64 imm, .int .i64 size, .bool g, .int .i64 cond, .string to_] 23 (0, 0)) := by rw [hW0]; exact blk_new _ _
  clear hN
  go_enter Tryz.func59, Tryz.ntmps59
  go_wp2_with fail
  go_returns
  exact ⟨rfl, by rw [hW0] at kb0; exact kb0⟩
theorem rest_40 (w : World) (hN : GsOk w) (dst src imm size cond : Int) (g : Bool) (to_ : ByteArray) :
    Calls Tryz.prog 59 #[.agg #[.int .i64 40, .int .i64 dst, .int .i64 src, .int .i64 imm, .int .i64 size, .bool g, .int .i64 cond, .string to_]] w fun en w' => en = .returned (.string (⟨#[111, 117, 116, 113, 32]⟩ ++ pS dst 8)) ∧ Below w.heap.size w w' := by
  have z2 := pS_size dst 8
  have HG := Lib.hid hN
  obtain ⟨w0, hW0, HB0, HK0⟩ := ent w (.cells #[.int .i64 40, .int .i64 dst, .int .i64 src, .int .i64 imm, .int .i64 size, .bool g, .int .i64 cond, .string to_] 23)
  clear hN
  go_enter Tryz.func59, Tryz.ntmps59
  go_wp2_with fail
  rw [← hW0]
  clear hW0
  have c0 : w0.cell? ⟨w.heap.size, 0, none⟩ = some (.int .i64 40) := blk_cell HK0.out rfl
  have c1 : w0.cell? ⟨w.heap.size, 1, none⟩ = some (.int .i64 dst) := blk_cell HK0.out rfl
  have c2 : w0.cell? ⟨w.heap.size, 2, none⟩ = some (.int .i64 src) := blk_cell HK0.out rfl
  have c3 : w0.cell? ⟨w.heap.size, 3, none⟩ = some (.int .i64 imm) := blk_cell HK0.out rfl
  have c4 : w0.cell? ⟨w.heap.size, 4, none⟩ = some (.int .i64 size) := blk_cell HK0.out rfl
  have c5 : w0.cell? ⟨w.heap.size, 5, none⟩ = some (.bool g) := blk_cell HK0.out rfl
  have c6 : w0.cell? ⟨w.heap.size, 6, none⟩ = some (.int .i64 cond) := blk_cell HK0.out rfl
  have c7 : w0.cell? ⟨w.heap.size, 7, none⟩ = some (.string to_) := blk_cell HK0.out rfl
  have lw := blk_lt HK0.out
  refine (r_any w0 (HG.out.below HB0.out) dst).mono ?_
  rintro en w1 ⟨rfl, kb⟩
  obtain ⟨HB1, HK1⟩ := bk HB0 HK0 kb
  clear kb c0 c1 c2 c3 c4 c5 c6 c7 lw
  have c0 : w1.cell? ⟨w.heap.size, 0, none⟩ = some (.int .i64 40) := blk_cell HK1.out rfl
  have c1 : w1.cell? ⟨w.heap.size, 1, none⟩ = some (.int .i64 dst) := blk_cell HK1.out rfl
  have c2 : w1.cell? ⟨w.heap.size, 2, none⟩ = some (.int .i64 src) := blk_cell HK1.out rfl
  have c3 : w1.cell? ⟨w.heap.size, 3, none⟩ = some (.int .i64 imm) := blk_cell HK1.out rfl
  have c4 : w1.cell? ⟨w.heap.size, 4, none⟩ = some (.int .i64 size) := blk_cell HK1.out rfl
  have c5 : w1.cell? ⟨w.heap.size, 5, none⟩ = some (.bool g) := blk_cell HK1.out rfl
  have c6 : w1.cell? ⟨w.heap.size, 6, none⟩ = some (.int .i64 cond) := blk_cell HK1.out rfl
  have c7 : w1.cell? ⟨w.heap.size, 7, none⟩ = some (.string to_) := blk_cell HK1.out rfl
  have lw := blk_lt HK1.out
  go_wp2_with fail
  go_returns
  exact ⟨rfl, HB1.out⟩
theorem rest_41 (w : World) (hN : GsOk w) (dst src imm size cond : Int) (g : Bool) (to_ : ByteArray) :
    Calls Tryz.prog 59 #[.agg #[.int .i64 41, .int .i64 dst, .int .i64 src, .int .i64 imm, .int .i64 size, .bool g, .int .i64 cond, .string to_]] w fun en w' => en = .returned (.string (⟨#[104, 108, 116]⟩)) ∧ Below w.heap.size w w' := by
  have HG := Lib.hid hN
  obtain ⟨w0, hW0⟩ : ∃ W0, W0 = w.alloc (.cells #[.int .i64 41, .int .i64 dst, .int .i64 src, .int .i64 imm, .int .i64 size, .bool g, .int .i64 cond, .string to_] 23) := ⟨_, rfl⟩
  have kb0 : Below w.heap.size w w0 := by rw [hW0]; exact below_alloc _ (Below.refl _ _)
  have k0 : w0.heap[w.heap.size]? = some (.cells #[.int .i64 41, .int .i64 dst, .int .i64 src, .int .i64 imm, .int .i64 size, .bool g, .int .i64 cond, .string to_] 23 (0, 0)) := by rw [hW0]; exact blk_new _ _
  clear hN
  go_enter Tryz.func59, Tryz.ntmps59
  go_wp2_with fail
  go_returns
  exact ⟨rfl, by rw [hW0] at kb0; exact kb0⟩
end Go.Proofs.YtmmpkkpmlaiapaaGreatDoor
