/- asm.Show, by operations (part 0). asm.Show, by operations (part 1). No condition. -/
import Derived.Test.YtmmpkkpmlaiapaaGreatDoorShR
namespace Go.Proofs.YtmmpkkpmlaiapaaGreatDoor
open Go.RowKit
set_option maxRecDepth 100000
set_option linter.unusedVariables false
set_option maxHeartbeats 8000000
theorem show_1 (w : World) (hN : GsOk w) (hP : PowOk w) (dst src imm size cond : Int) (g : Bool) (to_ : ByteArray) (hi : In64 imm) (hR : RX 1 dst src imm size g cond to_) :
    Calls Tryz.prog 27 #[.agg #[.int .i64 1, .int .i64 dst, .int .i64 src, .int .i64 imm, .int .i64 size, .bool g, .int .i64 cond, .string to_]] w fun en w' => en = .returned (.string (⟨#[109, 111, 118, 113, 32]⟩ ++ pS src 8 ++ ⟨#[44, 32]⟩ ++ pS dst 8)) ∧ Below w.heap.size w w' := by
  have z1 := pS_size src 8
  have z2 := pS_size dst 8
  have HR := Lib.hid hR
  clear hR
  have HG := Lib.hid hN
  have HPW := Lib.hid hP
  have HI := Lib.hid hi
  obtain ⟨w0, hW0, HB0, HK0⟩ := ent w (.cells #[.int .i64 1, .int .i64 dst, .int .i64 src, .int .i64 imm, .int .i64 size, .bool g, .int .i64 cond, .string to_] 23)
  clear hN hP hi
  go_enter Tryz.func27, Tryz.ntmps27
  go_wp2_with fail
  rw [← hW0]
  clear hW0
  have c0 : w0.cell? ⟨w.heap.size, 0, none⟩ = some (.int .i64 1) := blk_cell HK0.out rfl
  have lw := blk_lt HK0.out
  refine (HR.out w0).mono ?_
  rintro en w1 ⟨rfl, kb⟩
  obtain ⟨HB1, HK1⟩ := bk HB0 HK0 kb
  clear kb c0 lw
  have c0 : w1.cell? ⟨w.heap.size, 0, none⟩ = some (.int .i64 1) := blk_cell HK1.out rfl
  have lw := blk_lt HK1.out
  go_wp2_with fail
  refine (jumps_1 w1 (HG.out.below HB1.out)).mono ?_
  rintro en w2 ⟨rfl, kb⟩
  obtain ⟨HB2, HK2⟩ := bk HB1 HK1 kb
  clear kb c0 lw
  obtain ⟨c0, c1, c2, c3, c4, c5, c6, c7, lw⟩ := cl HK2
  go_wp2_with fail
  refine wp_region_over (by kernel_rfl) (by kernel_rfl) ?_
  repeat (go_big_quiet_step ((go_at_call 51; exact calls_over (by exact Nat.le_refl _) (r_any _ (gob HG HB2) _))))
  refine wpQuiet_nil ?_
  intro w3 kb
  obtain ⟨HB3, HK3⟩ := bk HB2 HK2 kb
  clear kb c0 c1 c2 c3 c4 c5 c6 c7 lw
  obtain ⟨c0, c1, c2, c3, c4, c5, c6, c7, lw⟩ := cl HK3
  go_wp2_with fail
  go_returns
  exact ⟨rfl, HB3.out⟩
theorem show_4 (w : World) (hN : GsOk w) (hP : PowOk w) (dst src imm size cond : Int) (g : Bool) (to_ : ByteArray) (hi : In64 imm) (k : Nat) (hk : k < 4) (hsz : size = ((2 ^ k : Nat) : Int)) (hR : RX 4 dst src imm size g cond to_) :
    Calls Tryz.prog 27 #[.agg #[.int .i64 4, .int .i64 dst, .int .i64 src, .int .i64 imm, .int .i64 size, .bool g, .int .i64 cond, .string to_]] w fun en w' => en = .returned (.string (⟨#[109, 111, 118]⟩ ++ leB k ++ ⟨#[32, 37]⟩ ++ rB src size ++ ⟨#[44, 32]⟩ ++ atB dst imm)) ∧ Below w.heap.size w w' := by
  have z6 := atB_size dst hi
  have z9 := rB_size src size
  have zF := leB_size k
  have HR := Lib.hid hR
  clear hR
  have HLE := Lib.hid (fun W (h : GsOk W) => (show Calls Tryz.prog 56 #[.int .i64 size] W fun e w' => e = .returned (.string (leB k)) ∧ Below W.heap.size W w' by rw [hsz]; exact letter_b W h k hk))
  clear hsz
  have HG := Lib.hid hN
  have HPW := Lib.hid hP
  have HI := Lib.hid hi
  obtain ⟨w0, hW0, HB0, HK0⟩ := ent w (.cells #[.int .i64 4, .int .i64 dst, .int .i64 src, .int .i64 imm, .int .i64 size, .bool g, .int .i64 cond, .string to_] 23)
  clear hN hP hi
  go_enter Tryz.func27, Tryz.ntmps27
  go_wp2_with fail
  rw [← hW0]
  clear hW0
  have c0 : w0.cell? ⟨w.heap.size, 0, none⟩ = some (.int .i64 4) := blk_cell HK0.out rfl
  have lw := blk_lt HK0.out
  refine (HR.out w0).mono ?_
  rintro en w1 ⟨rfl, kb⟩
  obtain ⟨HB1, HK1⟩ := bk HB0 HK0 kb
  clear kb c0 lw
  have c0 : w1.cell? ⟨w.heap.size, 0, none⟩ = some (.int .i64 4) := blk_cell HK1.out rfl
  have lw := blk_lt HK1.out
  go_wp2_with fail
  refine (jumps_4 w1 (HG.out.below HB1.out)).mono ?_
  rintro en w2 ⟨rfl, kb⟩
  obtain ⟨HB2, HK2⟩ := bk HB1 HK1 kb
  clear kb c0 lw
  obtain ⟨c0, c1, c2, c3, c4, c5, c6, c7, lw⟩ := cl HK2
  go_wp2_with fail
  refine wp_region_over (by kernel_rfl) (by kernel_rfl) ?_
  repeat (go_big_quiet_step (first | (go_at_call 54; exact calls_over (by exact Nat.le_refl _) (at_any _ (gob HG HB2) ((HPW.out.below HB2.out).below (over_below _ _ _)) _ _ HI.out)) | (go_at_call 55; exact calls_over (by exact Nat.le_refl _) (reg_b _ (gob HG HB2) _ _)) | (go_at_call 56; exact calls_over (by exact Nat.le_refl _) (HLE.out _ (gob HG HB2)))))
  refine wpQuiet_nil ?_
  intro w3 kb
  obtain ⟨HB3, HK3⟩ := bk HB2 HK2 kb
  clear kb c0 c1 c2 c3 c4 c5 c6 c7 lw
  obtain ⟨c0, c1, c2, c3, c4, c5, c6, c7, lw⟩ := cl HK3
  go_wp2_with fail
  go_returns
  exact ⟨rfl, HB3.out⟩
theorem show_8 (w : World) (hN : GsOk w) (hP : PowOk w) (dst src imm size cond : Int) (g : Bool) (to_ : ByteArray) (hi : In64 imm) (hR : RX 8 dst src imm size g cond to_) :
    Calls Tryz.prog 27 #[.agg #[.int .i64 8, .int .i64 dst, .int .i64 src, .int .i64 imm, .int .i64 size, .bool g, .int .i64 cond, .string to_]] w fun en w' => en = .returned (.string (⟨#[115, 117, 98, 113]⟩ ++ ⟨#[32]⟩ ++ pS src 8 ++ ⟨#[44, 32]⟩ ++ pS dst 8)) ∧ Below w.heap.size w w' := by
  have z1 := pS_size src 8
  have z2 := pS_size dst 8
  have HR := Lib.hid hR
  clear hR
  have HOP := Lib.hid (fun W (h : GsOk W) => alu_8 W h)
  have HG := Lib.hid hN
  have HPW := Lib.hid hP
  have HI := Lib.hid hi
  obtain ⟨w0, hW0, HB0, HK0⟩ := ent w (.cells #[.int .i64 8, .int .i64 dst, .int .i64 src, .int .i64 imm, .int .i64 size, .bool g, .int .i64 cond, .string to_] 23)
  clear hN hP hi
  go_enter Tryz.func27, Tryz.ntmps27
  go_wp2_with fail
  rw [← hW0]
  clear hW0
  have c0 : w0.cell? ⟨w.heap.size, 0, none⟩ = some (.int .i64 8) := blk_cell HK0.out rfl
  have lw := blk_lt HK0.out
  refine (HR.out w0).mono ?_
  rintro en w1 ⟨rfl, kb⟩
  obtain ⟨HB1, HK1⟩ := bk HB0 HK0 kb
  clear kb c0 lw
  have c0 : w1.cell? ⟨w.heap.size, 0, none⟩ = some (.int .i64 8) := blk_cell HK1.out rfl
  have lw := blk_lt HK1.out
  go_wp2_with fail
  refine (jumps_8 w1 (HG.out.below HB1.out)).mono ?_
  rintro en w2 ⟨rfl, kb⟩
  obtain ⟨HB2, HK2⟩ := bk HB1 HK1 kb
  clear kb c0 lw
  obtain ⟨c0, c1, c2, c3, c4, c5, c6, c7, lw⟩ := cl HK2
  go_wp2_with fail
  refine wp_region_over (by kernel_rfl) (by kernel_rfl) ?_
  repeat (go_big_quiet_step (first | (go_at_call 51; exact calls_over (by exact Nat.le_refl _) (r_any _ (gob HG HB2) _)) | (go_at_call 57; exact calls_over (by exact Nat.le_refl _) (HOP.out _ (gob HG HB2)))))
  refine wpQuiet_nil ?_
  intro w3 kb
  obtain ⟨HB3, HK3⟩ := bk HB2 HK2 kb
  clear kb c0 c1 c2 c3 c4 c5 c6 c7 lw
  obtain ⟨c0, c1, c2, c3, c4, c5, c6, c7, lw⟩ := cl HK3
  go_wp2_with fail
  go_returns
  exact ⟨rfl, HB3.out⟩
theorem show_12 (w : World) (hN : GsOk w) (hP : PowOk w) (dst src imm size cond : Int) (g : Bool) (to_ : ByteArray) (hi : In64 imm) (hR : RX 12 dst src imm size g cond to_) :
    Calls Tryz.prog 27 #[.agg #[.int .i64 12, .int .i64 dst, .int .i64 src, .int .i64 imm, .int .i64 size, .bool g, .int .i64 cond, .string to_]] w fun en w' => en = .returned (.string (⟨#[105, 109, 117, 108, 113]⟩ ++ ⟨#[32]⟩ ++ pS src 8 ++ ⟨#[44, 32]⟩ ++ pS dst 8)) ∧ Below w.heap.size w w' := by
  have z1 := pS_size src 8
  have z2 := pS_size dst 8
  have HR := Lib.hid hR
  clear hR
  have HOP := Lib.hid (fun W (h : GsOk W) => alu_12 W h)
  have HG := Lib.hid hN
  have HPW := Lib.hid hP
  have HI := Lib.hid hi
  obtain ⟨w0, hW0, HB0, HK0⟩ := ent w (.cells #[.int .i64 12, .int .i64 dst, .int .i64 src, .int .i64 imm, .int .i64 size, .bool g, .int .i64 cond, .string to_] 23)
  clear hN hP hi
  go_enter Tryz.func27, Tryz.ntmps27
  go_wp2_with fail
  rw [← hW0]
  clear hW0
  have c0 : w0.cell? ⟨w.heap.size, 0, none⟩ = some (.int .i64 12) := blk_cell HK0.out rfl
  have lw := blk_lt HK0.out
  refine (HR.out w0).mono ?_
  rintro en w1 ⟨rfl, kb⟩
  obtain ⟨HB1, HK1⟩ := bk HB0 HK0 kb
  clear kb c0 lw
  have c0 : w1.cell? ⟨w.heap.size, 0, none⟩ = some (.int .i64 12) := blk_cell HK1.out rfl
  have lw := blk_lt HK1.out
  go_wp2_with fail
  refine (jumps_12 w1 (HG.out.below HB1.out)).mono ?_
  rintro en w2 ⟨rfl, kb⟩
  obtain ⟨HB2, HK2⟩ := bk HB1 HK1 kb
  clear kb c0 lw
  obtain ⟨c0, c1, c2, c3, c4, c5, c6, c7, lw⟩ := cl HK2
  go_wp2_with fail
  refine wp_region_over (by kernel_rfl) (by kernel_rfl) ?_
  repeat (go_big_quiet_step (first | (go_at_call 51; exact calls_over (by exact Nat.le_refl _) (r_any _ (gob HG HB2) _)) | (go_at_call 57; exact calls_over (by exact Nat.le_refl _) (HOP.out _ (gob HG HB2)))))
  refine wpQuiet_nil ?_
  intro w3 kb
  obtain ⟨HB3, HK3⟩ := bk HB2 HK2 kb
  clear kb c0 c1 c2 c3 c4 c5 c6 c7 lw
  obtain ⟨c0, c1, c2, c3, c4, c5, c6, c7, lw⟩ := cl HK3
  go_wp2_with fail
  go_returns
  exact ⟨rfl, HB3.out⟩
theorem show_16 (w : World) (hN : GsOk w) (hP : PowOk w) (dst src imm size cond : Int) (g : Bool) (to_ : ByteArray) (hi : In64 imm) (hR : RX 16 dst src imm size g cond to_) :
    Calls Tryz.prog 27 #[.agg #[.int .i64 16, .int .i64 dst, .int .i64 src, .int .i64 imm, .int .i64 size, .bool g, .int .i64 cond, .string to_]] w fun en w' => en = .returned (.string (⟨#[97, 110, 100, 113]⟩ ++ ⟨#[32]⟩ ++ immB imm ++ ⟨#[44, 32]⟩ ++ pS dst 8)) ∧ Below w.heap.size w w' := by
  have z2 := pS_size dst 8
  have z3 := immB_size hi
  have HR := Lib.hid hR
  clear hR
  have HOP := Lib.hid (fun W (h : GsOk W) => alu_16 W h)
  have HG := Lib.hid hN
  have HPW := Lib.hid hP
  have HI := Lib.hid hi
  obtain ⟨w0, hW0, HB0, HK0⟩ := ent w (.cells #[.int .i64 16, .int .i64 dst, .int .i64 src, .int .i64 imm, .int .i64 size, .bool g, .int .i64 cond, .string to_] 23)
  clear hN hP hi
  go_enter Tryz.func27, Tryz.ntmps27
  go_wp2_with fail
  rw [← hW0]
  clear hW0
  have c0 : w0.cell? ⟨w.heap.size, 0, none⟩ = some (.int .i64 16) := blk_cell HK0.out rfl
  have lw := blk_lt HK0.out
  refine (HR.out w0).mono ?_
  rintro en w1 ⟨rfl, kb⟩
  obtain ⟨HB1, HK1⟩ := bk HB0 HK0 kb
  clear kb c0 lw
  have c0 : w1.cell? ⟨w.heap.size, 0, none⟩ = some (.int .i64 16) := blk_cell HK1.out rfl
  have lw := blk_lt HK1.out
  go_wp2_with fail
  refine (jumps_16 w1 (HG.out.below HB1.out)).mono ?_
  rintro en w2 ⟨rfl, kb⟩
  obtain ⟨HB2, HK2⟩ := bk HB1 HK1 kb
  clear kb c0 lw
  obtain ⟨c0, c1, c2, c3, c4, c5, c6, c7, lw⟩ := cl HK2
  go_wp2_with fail
  refine wp_region_over (by kernel_rfl) (by kernel_rfl) ?_
  repeat (go_big_quiet_step (first | (go_at_call 51; exact calls_over (by exact Nat.le_refl _) (r_any _ (gob HG HB2) _)) | (go_at_call 52; exact calls_over (by exact Nat.le_refl _) (imm_any _ ((HPW.out.below HB2.out).below (over_below _ _ _)) _ HI.out)) | (go_at_call 57; exact calls_over (by exact Nat.le_refl _) (HOP.out _ (gob HG HB2)))))
  refine wpQuiet_nil ?_
  intro w3 kb
  obtain ⟨HB3, HK3⟩ := bk HB2 HK2 kb
  clear kb c0 c1 c2 c3 c4 c5 c6 c7 lw
  obtain ⟨c0, c1, c2, c3, c4, c5, c6, c7, lw⟩ := cl HK3
  go_wp2_with fail
  go_returns
  exact ⟨rfl, HB3.out⟩
theorem show_20 (w : World) (hN : GsOk w) (hP : PowOk w) (dst src imm size cond : Int) (g : Bool) (to_ : ByteArray) (hi : In64 imm) (hR : RX 20 dst src imm size g cond to_) :
    Calls Tryz.prog 27 #[.agg #[.int .i64 20, .int .i64 dst, .int .i64 src, .int .i64 imm, .int .i64 size, .bool g, .int .i64 cond, .string to_]] w fun en w' => en = .returned (.string (⟨#[99, 109, 112, 113]⟩ ++ ⟨#[32]⟩ ++ immB imm ++ ⟨#[44, 32]⟩ ++ pS dst 8)) ∧ Below w.heap.size w w' := by
  have z2 := pS_size dst 8
  have z3 := immB_size hi
  have HR := Lib.hid hR
  clear hR
  have HOP := Lib.hid (fun W (h : GsOk W) => alu_20 W h)
  have HG := Lib.hid hN
  have HPW := Lib.hid hP
  have HI := Lib.hid hi
  obtain ⟨w0, hW0, HB0, HK0⟩ := ent w (.cells #[.int .i64 20, .int .i64 dst, .int .i64 src, .int .i64 imm, .int .i64 size, .bool g, .int .i64 cond, .string to_] 23)
  clear hN hP hi
  go_enter Tryz.func27, Tryz.ntmps27
  go_wp2_with fail
  rw [← hW0]
  clear hW0
  have c0 : w0.cell? ⟨w.heap.size, 0, none⟩ = some (.int .i64 20) := blk_cell HK0.out rfl
  have lw := blk_lt HK0.out
  refine (HR.out w0).mono ?_
  rintro en w1 ⟨rfl, kb⟩
  obtain ⟨HB1, HK1⟩ := bk HB0 HK0 kb
  clear kb c0 lw
  have c0 : w1.cell? ⟨w.heap.size, 0, none⟩ = some (.int .i64 20) := blk_cell HK1.out rfl
  have lw := blk_lt HK1.out
  go_wp2_with fail
  refine (jumps_20 w1 (HG.out.below HB1.out)).mono ?_
  rintro en w2 ⟨rfl, kb⟩
  obtain ⟨HB2, HK2⟩ := bk HB1 HK1 kb
  clear kb c0 lw
  obtain ⟨c0, c1, c2, c3, c4, c5, c6, c7, lw⟩ := cl HK2
  go_wp2_with fail
  refine wp_region_over (by kernel_rfl) (by kernel_rfl) ?_
  repeat (go_big_quiet_step (first | (go_at_call 51; exact calls_over (by exact Nat.le_refl _) (r_any _ (gob HG HB2) _)) | (go_at_call 52; exact calls_over (by exact Nat.le_refl _) (imm_any _ ((HPW.out.below HB2.out).below (over_below _ _ _)) _ HI.out)) | (go_at_call 57; exact calls_over (by exact Nat.le_refl _) (HOP.out _ (gob HG HB2)))))
  refine wpQuiet_nil ?_
  intro w3 kb
  obtain ⟨HB3, HK3⟩ := bk HB2 HK2 kb
  clear kb c0 c1 c2 c3 c4 c5 c6 c7 lw
  obtain ⟨c0, c1, c2, c3, c4, c5, c6, c7, lw⟩ := cl HK3
  go_wp2_with fail
  go_returns
  exact ⟨rfl, HB3.out⟩
theorem show_24 (w : World) (hN : GsOk w) (hP : PowOk w) (dst src imm size cond : Int) (g : Bool) (to_ : ByteArray) (hi : In64 imm) (hR : RX 24 dst src imm size g cond to_) :
    Calls Tryz.prog 27 #[.agg #[.int .i64 24, .int .i64 dst, .int .i64 src, .int .i64 imm, .int .i64 size, .bool g, .int .i64 cond, .string to_]] w fun en w' => en = .returned (.string (⟨#[115, 104, 108, 113]⟩ ++ ⟨#[32]⟩ ++ immB imm ++ ⟨#[44, 32]⟩ ++ pS dst 8)) ∧ Below w.heap.size w w' := by
  have z2 := pS_size dst 8
  have z3 := immB_size hi
  have HR := Lib.hid hR
  clear hR
  have HOP := Lib.hid (fun W (h : GsOk W) => shift_24 W h)
  have HG := Lib.hid hN
  have HPW := Lib.hid hP
  have HI := Lib.hid hi
  obtain ⟨w0, hW0, HB0, HK0⟩ := ent w (.cells #[.int .i64 24, .int .i64 dst, .int .i64 src, .int .i64 imm, .int .i64 size, .bool g, .int .i64 cond, .string to_] 23)
  clear hN hP hi
  go_enter Tryz.func27, Tryz.ntmps27
  go_wp2_with fail
  rw [← hW0]
  clear hW0
  have c0 : w0.cell? ⟨w.heap.size, 0, none⟩ = some (.int .i64 24) := blk_cell HK0.out rfl
  have lw := blk_lt HK0.out
  refine (HR.out w0).mono ?_
  rintro en w1 ⟨rfl, kb⟩
  obtain ⟨HB1, HK1⟩ := bk HB0 HK0 kb
  clear kb c0 lw
  have c0 : w1.cell? ⟨w.heap.size, 0, none⟩ = some (.int .i64 24) := blk_cell HK1.out rfl
  have lw := blk_lt HK1.out
  go_wp2_with fail
  refine (jumps_24 w1 (HG.out.below HB1.out)).mono ?_
  rintro en w2 ⟨rfl, kb⟩
  obtain ⟨HB2, HK2⟩ := bk HB1 HK1 kb
  clear kb c0 lw
  obtain ⟨c0, c1, c2, c3, c4, c5, c6, c7, lw⟩ := cl HK2
  go_wp2_with fail
  refine wp_region_over (by kernel_rfl) (by kernel_rfl) ?_
  repeat (go_big_quiet_step (first | (go_at_call 51; exact calls_over (by exact Nat.le_refl _) (r_any _ (gob HG HB2) _)) | (go_at_call 52; exact calls_over (by exact Nat.le_refl _) (imm_any _ ((HPW.out.below HB2.out).below (over_below _ _ _)) _ HI.out)) | (go_at_call 58; exact calls_over (by exact Nat.le_refl _) (HOP.out _ (gob HG HB2)))))
  refine wpQuiet_nil ?_
  intro w3 kb
  obtain ⟨HB3, HK3⟩ := bk HB2 HK2 kb
  clear kb c0 c1 c2 c3 c4 c5 c6 c7 lw
  obtain ⟨c0, c1, c2, c3, c4, c5, c6, c7, lw⟩ := cl HK3
  go_wp2_with fail
  go_returns
  exact ⟨rfl, HB3.out⟩
theorem show_28 (w : World) (hN : GsOk w) (hP : PowOk w) (dst src imm size cond : Int) (g : Bool) (to_ : ByteArray) (hi : In64 imm) (hR : RX 28 dst src imm size g cond to_) :
    Calls Tryz.prog 27 #[.agg #[.int .i64 28, .int .i64 dst, .int .i64 src, .int .i64 imm, .int .i64 size, .bool g, .int .i64 cond, .string to_]] w fun en w' => en = .returned (.string (⟨#[105, 100, 105, 118, 113, 32]⟩ ++ pS dst 8)) ∧ Below w.heap.size w w' := by
  have z2 := pS_size dst 8
  have HR := Lib.hid hR
  clear hR
  have HRE := Lib.hid (fun W (h : GsOk W) => rest_28 W h dst src imm size cond g to_)
  have HG := Lib.hid hN
  have HPW := Lib.hid hP
  have HI := Lib.hid hi
  obtain ⟨w0, hW0, HB0, HK0⟩ := ent w (.cells #[.int .i64 28, .int .i64 dst, .int .i64 src, .int .i64 imm, .int .i64 size, .bool g, .int .i64 cond, .string to_] 23)
  clear hN hP hi
  go_enter Tryz.func27, Tryz.ntmps27
  go_wp2_with fail
  rw [← hW0]
  clear hW0
  have c0 : w0.cell? ⟨w.heap.size, 0, none⟩ = some (.int .i64 28) := blk_cell HK0.out rfl
  have lw := blk_lt HK0.out
  refine (HR.out w0).mono ?_
  rintro en w1 ⟨rfl, kb⟩
  obtain ⟨HB1, HK1⟩ := bk HB0 HK0 kb
  clear kb c0 lw
  have c0 : w1.cell? ⟨w.heap.size, 0, none⟩ = some (.int .i64 28) := blk_cell HK1.out rfl
  have lw := blk_lt HK1.out
  go_wp2_with fail
  refine (jumps_28 w1 (HG.out.below HB1.out)).mono ?_
  rintro en w2 ⟨rfl, kb⟩
  obtain ⟨HB2, HK2⟩ := bk HB1 HK1 kb
  clear kb c0 lw
  obtain ⟨c0, c1, c2, c3, c4, c5, c6, c7, lw⟩ := cl HK2
  go_wp2_with fail
  refine (HRE.out w2 (HG.out.below HB2.out)).mono ?_
  rintro en w3 ⟨rfl, kb⟩
  obtain ⟨HB3, HK3⟩ := bk HB2 HK2 kb
  clear kb c0 c1 c2 c3 c4 c5 c6 c7 lw
  obtain ⟨c0, c1, c2, c3, c4, c5, c6, c7, lw⟩ := cl HK3
  go_wp2_with fail
  go_returns
  exact ⟨rfl, HB3.out⟩
theorem show_32 (w : World) (hN : GsOk w) (hP : PowOk w) (dst src imm size cond : Int) (g : Bool) (to_ : ByteArray) (hi : In64 imm) (hR : RX 32 dst src imm size g cond to_) :
    Calls Tryz.prog 27 #[.agg #[.int .i64 32, .int .i64 dst, .int .i64 src, .int .i64 imm, .int .i64 size, .bool g, .int .i64 cond, .string to_]] w fun en w' => en = .returned (.string (⟨#[99, 109, 111, 118]⟩ ++ cB cond ++ ⟨#[113, 32]⟩ ++ pS src 8 ++ ⟨#[44, 32]⟩ ++ pS dst 8)) ∧ Below w.heap.size w w' := by
  have z1 := pS_size src 8
  have z2 := pS_size dst 8
  have zD := cB_size cond
  have HR := Lib.hid hR
  clear hR
  have HRE := Lib.hid (fun W (h : GsOk W) => rest_32 W h dst src imm size cond g to_)
  have HG := Lib.hid hN
  have HPW := Lib.hid hP
  have HI := Lib.hid hi
  obtain ⟨w0, hW0, HB0, HK0⟩ := ent w (.cells #[.int .i64 32, .int .i64 dst, .int .i64 src, .int .i64 imm, .int .i64 size, .bool g, .int .i64 cond, .string to_] 23)
  clear hN hP hi
  go_enter Tryz.func27, Tryz.ntmps27
  go_wp2_with fail
  rw [← hW0]
  clear hW0
  have c0 : w0.cell? ⟨w.heap.size, 0, none⟩ = some (.int .i64 32) := blk_cell HK0.out rfl
  have lw := blk_lt HK0.out
  refine (HR.out w0).mono ?_
  rintro en w1 ⟨rfl, kb⟩
  obtain ⟨HB1, HK1⟩ := bk HB0 HK0 kb
  clear kb c0 lw
  have c0 : w1.cell? ⟨w.heap.size, 0, none⟩ = some (.int .i64 32) := blk_cell HK1.out rfl
  have lw := blk_lt HK1.out
  go_wp2_with fail
  refine (jumps_32 w1 (HG.out.below HB1.out)).mono ?_
  rintro en w2 ⟨rfl, kb⟩
  obtain ⟨HB2, HK2⟩ := bk HB1 HK1 kb
  clear kb c0 lw
  obtain ⟨c0, c1, c2, c3, c4, c5, c6, c7, lw⟩ := cl HK2
  go_wp2_with fail
  refine (HRE.out w2 (HG.out.below HB2.out)).mono ?_
  rintro en w3 ⟨rfl, kb⟩
  obtain ⟨HB3, HK3⟩ := bk HB2 HK2 kb
  clear kb c0 c1 c2 c3 c4 c5 c6 c7 lw
  obtain ⟨c0, c1, c2, c3, c4, c5, c6, c7, lw⟩ := cl HK3
  go_wp2_with fail
  go_returns
  exact ⟨rfl, HB3.out⟩
theorem show_36 (w : World) (hN : GsOk w) (hP : PowOk w) (dst src imm size cond : Int) (g : Bool) (to_ : ByteArray) (hi : In64 imm) (hR : RX 36 dst src imm size g cond to_) :
    Calls Tryz.prog 27 #[.agg #[.int .i64 36, .int .i64 dst, .int .i64 src, .int .i64 imm, .int .i64 size, .bool g, .int .i64 cond, .string to_]] w fun en w' => en = .returned (.string (⟨#[99, 97, 108, 108, 32, 42]⟩ ++ pS dst 8)) ∧ Below w.heap.size w w' := by
  have z2 := pS_size dst 8
  have HR := Lib.hid hR
  clear hR
  have HRE := Lib.hid (fun W (h : GsOk W) => rest_36 W h dst src imm size cond g to_)
  have HG := Lib.hid hN
  have HPW := Lib.hid hP
  have HI := Lib.hid hi
  obtain ⟨w0, hW0, HB0, HK0⟩ := ent w (.cells #[.int .i64 36, .int .i64 dst, .int .i64 src, .int .i64 imm, .int .i64 size, .bool g, .int .i64 cond, .string to_] 23)
  clear hN hP hi
  go_enter Tryz.func27, Tryz.ntmps27
  go_wp2_with fail
  rw [← hW0]
  clear hW0
  have c0 : w0.cell? ⟨w.heap.size, 0, none⟩ = some (.int .i64 36) := blk_cell HK0.out rfl
  have lw := blk_lt HK0.out
  refine (HR.out w0).mono ?_
  rintro en w1 ⟨rfl, kb⟩
  obtain ⟨HB1, HK1⟩ := bk HB0 HK0 kb
  clear kb c0 lw
  have c0 : w1.cell? ⟨w.heap.size, 0, none⟩ = some (.int .i64 36) := blk_cell HK1.out rfl
  have lw := blk_lt HK1.out
  go_wp2_with fail
  refine (jumps_36 w1 (HG.out.below HB1.out)).mono ?_
  rintro en w2 ⟨rfl, kb⟩
  obtain ⟨HB2, HK2⟩ := bk HB1 HK1 kb
  clear kb c0 lw
  obtain ⟨c0, c1, c2, c3, c4, c5, c6, c7, lw⟩ := cl HK2
  go_wp2_with fail
  refine (HRE.out w2 (HG.out.below HB2.out)).mono ?_
  rintro en w3 ⟨rfl, kb⟩
  obtain ⟨HB3, HK3⟩ := bk HB2 HK2 kb
  clear kb c0 c1 c2 c3 c4 c5 c6 c7 lw
  obtain ⟨c0, c1, c2, c3, c4, c5, c6, c7, lw⟩ := cl HK3
  go_wp2_with fail
  go_returns
  exact ⟨rfl, HB3.out⟩
theorem show_40 (w : World) (hN : GsOk w) (hP : PowOk w) (dst src imm size cond : Int) (g : Bool) (to_ : ByteArray) (hi : In64 imm) (hR : RX 40 dst src imm size g cond to_) :
    Calls Tryz.prog 27 #[.agg #[.int .i64 40, .int .i64 dst, .int .i64 src, .int .i64 imm, .int .i64 size, .bool g, .int .i64 cond, .string to_]] w fun en w' => en = .returned (.string (⟨#[111, 117, 116, 113, 32]⟩ ++ pS dst 8)) ∧ Below w.heap.size w w' := by
  have z2 := pS_size dst 8
  have HR := Lib.hid hR
  clear hR
  have HRE := Lib.hid (fun W (h : GsOk W) => rest_40 W h dst src imm size cond g to_)
  have HG := Lib.hid hN
  have HPW := Lib.hid hP
  have HI := Lib.hid hi
  obtain ⟨w0, hW0, HB0, HK0⟩ := ent w (.cells #[.int .i64 40, .int .i64 dst, .int .i64 src, .int .i64 imm, .int .i64 size, .bool g, .int .i64 cond, .string to_] 23)
  clear hN hP hi
  go_enter Tryz.func27, Tryz.ntmps27
  go_wp2_with fail
  rw [← hW0]
  clear hW0
  have c0 : w0.cell? ⟨w.heap.size, 0, none⟩ = some (.int .i64 40) := blk_cell HK0.out rfl
  have lw := blk_lt HK0.out
  refine (HR.out w0).mono ?_
  rintro en w1 ⟨rfl, kb⟩
  obtain ⟨HB1, HK1⟩ := bk HB0 HK0 kb
  clear kb c0 lw
  have c0 : w1.cell? ⟨w.heap.size, 0, none⟩ = some (.int .i64 40) := blk_cell HK1.out rfl
  have lw := blk_lt HK1.out
  go_wp2_with fail
  refine (jumps_40 w1 (HG.out.below HB1.out)).mono ?_
  rintro en w2 ⟨rfl, kb⟩
  obtain ⟨HB2, HK2⟩ := bk HB1 HK1 kb
  clear kb c0 lw
  obtain ⟨c0, c1, c2, c3, c4, c5, c6, c7, lw⟩ := cl HK2
  go_wp2_with fail
  refine (HRE.out w2 (HG.out.below HB2.out)).mono ?_
  rintro en w3 ⟨rfl, kb⟩
  obtain ⟨HB3, HK3⟩ := bk HB2 HK2 kb
  clear kb c0 c1 c2 c3 c4 c5 c6 c7 lw
  obtain ⟨c0, c1, c2, c3, c4, c5, c6, c7, lw⟩ := cl HK3
  go_wp2_with fail
  go_returns
  exact ⟨rfl, HB3.out⟩
end Go.Proofs.YtmmpkkpmlaiapaaGreatDoor
namespace Go.Proofs.YtmmpkkpmlaiapaaGreatDoor
open Go.RowKit
set_option maxRecDepth 100000
set_option linter.unusedVariables false
set_option maxHeartbeats 8000000
theorem show_2s (w : World) (hN : GsOk w) (hP : PowOk w) (dst src imm size cond : Int) (g : Bool) (to_ : ByteArray) (hi : In64 imm) (hsm : -2147483648 ≤ imm ∧ imm ≤ 2147483647) (hR : RX 2 dst src imm size g cond to_) :
    Calls Tryz.prog 27 #[.agg #[.int .i64 2, .int .i64 dst, .int .i64 src, .int .i64 imm, .int .i64 size, .bool g, .int .i64 cond, .string to_]] w fun en w' => en = .returned (.string (⟨#[109, 111, 118, 113, 32]⟩ ++ immB imm ++ ⟨#[44, 32]⟩ ++ pS dst 8)) ∧ Below w.heap.size w w' := by
  have z2 := pS_size dst 8
  have z3 := immB_size hi
  have HR := Lib.hid hR
  clear hR
  have HG := Lib.hid hN
  have HPW := Lib.hid hP
  have HI := Lib.hid hi
  obtain ⟨w0, hW0, HB0, HK0⟩ := ent w (.cells #[.int .i64 2, .int .i64 dst, .int .i64 src, .int .i64 imm, .int .i64 size, .bool g, .int .i64 cond, .string to_] 23)
  clear hN hP hi
  go_enter Tryz.func27, Tryz.ntmps27
  go_wp2_with fail
  rw [← hW0]
  clear hW0
  have c0 : w0.cell? ⟨w.heap.size, 0, none⟩ = some (.int .i64 2) := blk_cell HK0.out rfl
  have lw := blk_lt HK0.out
  refine (HR.out w0).mono ?_
  rintro en w1 ⟨rfl, kb⟩
  obtain ⟨HB1, HK1⟩ := bk HB0 HK0 kb
  clear kb c0 lw
  have c0 : w1.cell? ⟨w.heap.size, 0, none⟩ = some (.int .i64 2) := blk_cell HK1.out rfl
  have lw := blk_lt HK1.out
  go_wp2_with fail
  refine (jumps_2 w1 (HG.out.below HB1.out)).mono ?_
  rintro en w2 ⟨rfl, kb⟩
  obtain ⟨HB2, HK2⟩ := bk HB1 HK1 kb
  clear kb c0 lw
  obtain ⟨c0, c1, c2, c3, c4, c5, c6, c7, lw⟩ := cl HK2
  have hcv : wrap64 (IntKind.i32.wrap imm) = imm := by rw [IntKind.wrap_i32]; unfold wrap64; omega
  have hcv2 : IntKind.i64.wrap (IntKind.i32.wrap imm) = imm := by rw [IntKind.wrap_i32, IntKind.wrap_i64]; omega
  have hcv3 : IntKind.i32.wrap imm = imm := by rw [IntKind.wrap_i32]; omega
  have hcv4 : (imm == imm) = true := by simp
  go_wp2_with fail
  refine wp_region_over (by kernel_rfl) (by kernel_rfl) ?_
  repeat (go_big_quiet_step (first | (go_at_call 51; exact calls_over (by exact Nat.le_refl _) (r_any _ (gob HG HB2) _)) | (go_at_call 52; exact calls_over (by exact Nat.le_refl _) (imm_any _ ((HPW.out.below HB2.out).below (over_below _ _ _)) _ HI.out))))
  refine wpQuiet_nil ?_
  intro w3 kb
  obtain ⟨HB3, HK3⟩ := bk HB2 HK2 kb
  clear kb c0 c1 c2 c3 c4 c5 c6 c7 lw
  obtain ⟨c0, c1, c2, c3, c4, c5, c6, c7, lw⟩ := cl HK3
  go_wp2_with fail
  go_returns
  exact ⟨rfl, HB3.out⟩
theorem show_5 (w : World) (hN : GsOk w) (hP : PowOk w) (dst src imm size cond : Int) (g : Bool) (to_ : ByteArray) (hi : In64 imm) (hR : RX 5 dst src imm size g cond to_) :
    Calls Tryz.prog 27 #[.agg #[.int .i64 5, .int .i64 dst, .int .i64 src, .int .i64 imm, .int .i64 size, .bool g, .int .i64 cond, .string to_]] w fun en w' => en = .returned (.string (⟨#[108, 101, 97, 113, 32]⟩ ++ atB src imm ++ ⟨#[44, 32]⟩ ++ pS dst 8)) ∧ Below w.heap.size w w' := by
  have z2 := pS_size dst 8
  have z5 := atB_size src hi
  have HR := Lib.hid hR
  clear hR
  have HG := Lib.hid hN
  have HPW := Lib.hid hP
  have HI := Lib.hid hi
  obtain ⟨w0, hW0, HB0, HK0⟩ := ent w (.cells #[.int .i64 5, .int .i64 dst, .int .i64 src, .int .i64 imm, .int .i64 size, .bool g, .int .i64 cond, .string to_] 23)
  clear hN hP hi
  go_enter Tryz.func27, Tryz.ntmps27
  go_wp2_with fail
  rw [← hW0]
  clear hW0
  have c0 : w0.cell? ⟨w.heap.size, 0, none⟩ = some (.int .i64 5) := blk_cell HK0.out rfl
  have lw := blk_lt HK0.out
  refine (HR.out w0).mono ?_
  rintro en w1 ⟨rfl, kb⟩
  obtain ⟨HB1, HK1⟩ := bk HB0 HK0 kb
  clear kb c0 lw
  have c0 : w1.cell? ⟨w.heap.size, 0, none⟩ = some (.int .i64 5) := blk_cell HK1.out rfl
  have lw := blk_lt HK1.out
  go_wp2_with fail
  refine (jumps_5 w1 (HG.out.below HB1.out)).mono ?_
  rintro en w2 ⟨rfl, kb⟩
  obtain ⟨HB2, HK2⟩ := bk HB1 HK1 kb
  clear kb c0 lw
  obtain ⟨c0, c1, c2, c3, c4, c5, c6, c7, lw⟩ := cl HK2
  go_wp2_with fail
  refine wp_region_over (by kernel_rfl) (by kernel_rfl) ?_
  repeat (go_big_quiet_step (first | (go_at_call 51; exact calls_over (by exact Nat.le_refl _) (r_any _ (gob HG HB2) _)) | (go_at_call 54; exact calls_over (by exact Nat.le_refl _) (at_any _ (gob HG HB2) ((HPW.out.below HB2.out).below (over_below _ _ _)) _ _ HI.out))))
  refine wpQuiet_nil ?_
  intro w3 kb
  obtain ⟨HB3, HK3⟩ := bk HB2 HK2 kb
  clear kb c0 c1 c2 c3 c4 c5 c6 c7 lw
  obtain ⟨c0, c1, c2, c3, c4, c5, c6, c7, lw⟩ := cl HK3
  go_wp2_with fail
  go_returns
  exact ⟨rfl, HB3.out⟩
theorem show_9 (w : World) (hN : GsOk w) (hP : PowOk w) (dst src imm size cond : Int) (g : Bool) (to_ : ByteArray) (hi : In64 imm) (hR : RX 9 dst src imm size g cond to_) :
    Calls Tryz.prog 27 #[.agg #[.int .i64 9, .int .i64 dst, .int .i64 src, .int .i64 imm, .int .i64 size, .bool g, .int .i64 cond, .string to_]] w fun en w' => en = .returned (.string (⟨#[97, 110, 100, 113]⟩ ++ ⟨#[32]⟩ ++ pS src 8 ++ ⟨#[44, 32]⟩ ++ pS dst 8)) ∧ Below w.heap.size w w' := by
  have z1 := pS_size src 8
  have z2 := pS_size dst 8
  have HR := Lib.hid hR
  clear hR
  have HOP := Lib.hid (fun W (h : GsOk W) => alu_9 W h)
  have HG := Lib.hid hN
  have HPW := Lib.hid hP
  have HI := Lib.hid hi
  obtain ⟨w0, hW0, HB0, HK0⟩ := ent w (.cells #[.int .i64 9, .int .i64 dst, .int .i64 src, .int .i64 imm, .int .i64 size, .bool g, .int .i64 cond, .string to_] 23)
  clear hN hP hi
  go_enter Tryz.func27, Tryz.ntmps27
  go_wp2_with fail
  rw [← hW0]
  clear hW0
  have c0 : w0.cell? ⟨w.heap.size, 0, none⟩ = some (.int .i64 9) := blk_cell HK0.out rfl
  have lw := blk_lt HK0.out
  refine (HR.out w0).mono ?_
  rintro en w1 ⟨rfl, kb⟩
  obtain ⟨HB1, HK1⟩ := bk HB0 HK0 kb
  clear kb c0 lw
  have c0 : w1.cell? ⟨w.heap.size, 0, none⟩ = some (.int .i64 9) := blk_cell HK1.out rfl
  have lw := blk_lt HK1.out
  go_wp2_with fail
  refine (jumps_9 w1 (HG.out.below HB1.out)).mono ?_
  rintro en w2 ⟨rfl, kb⟩
  obtain ⟨HB2, HK2⟩ := bk HB1 HK1 kb
  clear kb c0 lw
  obtain ⟨c0, c1, c2, c3, c4, c5, c6, c7, lw⟩ := cl HK2
  go_wp2_with fail
  refine wp_region_over (by kernel_rfl) (by kernel_rfl) ?_
  repeat (go_big_quiet_step (first | (go_at_call 51; exact calls_over (by exact Nat.le_refl _) (r_any _ (gob HG HB2) _)) | (go_at_call 57; exact calls_over (by exact Nat.le_refl _) (HOP.out _ (gob HG HB2)))))
  refine wpQuiet_nil ?_
  intro w3 kb
  obtain ⟨HB3, HK3⟩ := bk HB2 HK2 kb
  clear kb c0 c1 c2 c3 c4 c5 c6 c7 lw
  obtain ⟨c0, c1, c2, c3, c4, c5, c6, c7, lw⟩ := cl HK3
  go_wp2_with fail
  go_returns
  exact ⟨rfl, HB3.out⟩
theorem show_13 (w : World) (hN : GsOk w) (hP : PowOk w) (dst src imm size cond : Int) (g : Bool) (to_ : ByteArray) (hi : In64 imm) (hR : RX 13 dst src imm size g cond to_) :
    Calls Tryz.prog 27 #[.agg #[.int .i64 13, .int .i64 dst, .int .i64 src, .int .i64 imm, .int .i64 size, .bool g, .int .i64 cond, .string to_]] w fun en w' => en = .returned (.string (⟨#[99, 109, 112, 113]⟩ ++ ⟨#[32]⟩ ++ pS src 8 ++ ⟨#[44, 32]⟩ ++ pS dst 8)) ∧ Below w.heap.size w w' := by
  have z1 := pS_size src 8
  have z2 := pS_size dst 8
  have HR := Lib.hid hR
  clear hR
  have HOP := Lib.hid (fun W (h : GsOk W) => alu_13 W h)
  have HG := Lib.hid hN
  have HPW := Lib.hid hP
  have HI := Lib.hid hi
  obtain ⟨w0, hW0, HB0, HK0⟩ := ent w (.cells #[.int .i64 13, .int .i64 dst, .int .i64 src, .int .i64 imm, .int .i64 size, .bool g, .int .i64 cond, .string to_] 23)
  clear hN hP hi
  go_enter Tryz.func27, Tryz.ntmps27
  go_wp2_with fail
  rw [← hW0]
  clear hW0
  have c0 : w0.cell? ⟨w.heap.size, 0, none⟩ = some (.int .i64 13) := blk_cell HK0.out rfl
  have lw := blk_lt HK0.out
  refine (HR.out w0).mono ?_
  rintro en w1 ⟨rfl, kb⟩
  obtain ⟨HB1, HK1⟩ := bk HB0 HK0 kb
  clear kb c0 lw
  have c0 : w1.cell? ⟨w.heap.size, 0, none⟩ = some (.int .i64 13) := blk_cell HK1.out rfl
  have lw := blk_lt HK1.out
  go_wp2_with fail
  refine (jumps_13 w1 (HG.out.below HB1.out)).mono ?_
  rintro en w2 ⟨rfl, kb⟩
  obtain ⟨HB2, HK2⟩ := bk HB1 HK1 kb
  clear kb c0 lw
  obtain ⟨c0, c1, c2, c3, c4, c5, c6, c7, lw⟩ := cl HK2
  go_wp2_with fail
  refine wp_region_over (by kernel_rfl) (by kernel_rfl) ?_
  repeat (go_big_quiet_step (first | (go_at_call 51; exact calls_over (by exact Nat.le_refl _) (r_any _ (gob HG HB2) _)) | (go_at_call 57; exact calls_over (by exact Nat.le_refl _) (HOP.out _ (gob HG HB2)))))
  refine wpQuiet_nil ?_
  intro w3 kb
  obtain ⟨HB3, HK3⟩ := bk HB2 HK2 kb
  clear kb c0 c1 c2 c3 c4 c5 c6 c7 lw
  obtain ⟨c0, c1, c2, c3, c4, c5, c6, c7, lw⟩ := cl HK3
  go_wp2_with fail
  go_returns
  exact ⟨rfl, HB3.out⟩
theorem show_17 (w : World) (hN : GsOk w) (hP : PowOk w) (dst src imm size cond : Int) (g : Bool) (to_ : ByteArray) (hi : In64 imm) (hR : RX 17 dst src imm size g cond to_) :
    Calls Tryz.prog 27 #[.agg #[.int .i64 17, .int .i64 dst, .int .i64 src, .int .i64 imm, .int .i64 size, .bool g, .int .i64 cond, .string to_]] w fun en w' => en = .returned (.string (⟨#[111, 114, 113]⟩ ++ ⟨#[32]⟩ ++ immB imm ++ ⟨#[44, 32]⟩ ++ pS dst 8)) ∧ Below w.heap.size w w' := by
  have z2 := pS_size dst 8
  have z3 := immB_size hi
  have HR := Lib.hid hR
  clear hR
  have HOP := Lib.hid (fun W (h : GsOk W) => alu_17 W h)
  have HG := Lib.hid hN
  have HPW := Lib.hid hP
  have HI := Lib.hid hi
  obtain ⟨w0, hW0, HB0, HK0⟩ := ent w (.cells #[.int .i64 17, .int .i64 dst, .int .i64 src, .int .i64 imm, .int .i64 size, .bool g, .int .i64 cond, .string to_] 23)
  clear hN hP hi
  go_enter Tryz.func27, Tryz.ntmps27
  go_wp2_with fail
  rw [← hW0]
  clear hW0
  have c0 : w0.cell? ⟨w.heap.size, 0, none⟩ = some (.int .i64 17) := blk_cell HK0.out rfl
  have lw := blk_lt HK0.out
  refine (HR.out w0).mono ?_
  rintro en w1 ⟨rfl, kb⟩
  obtain ⟨HB1, HK1⟩ := bk HB0 HK0 kb
  clear kb c0 lw
  have c0 : w1.cell? ⟨w.heap.size, 0, none⟩ = some (.int .i64 17) := blk_cell HK1.out rfl
  have lw := blk_lt HK1.out
  go_wp2_with fail
  refine (jumps_17 w1 (HG.out.below HB1.out)).mono ?_
  rintro en w2 ⟨rfl, kb⟩
  obtain ⟨HB2, HK2⟩ := bk HB1 HK1 kb
  clear kb c0 lw
  obtain ⟨c0, c1, c2, c3, c4, c5, c6, c7, lw⟩ := cl HK2
  go_wp2_with fail
  refine wp_region_over (by kernel_rfl) (by kernel_rfl) ?_
  repeat (go_big_quiet_step (first | (go_at_call 51; exact calls_over (by exact Nat.le_refl _) (r_any _ (gob HG HB2) _)) | (go_at_call 52; exact calls_over (by exact Nat.le_refl _) (imm_any _ ((HPW.out.below HB2.out).below (over_below _ _ _)) _ HI.out)) | (go_at_call 57; exact calls_over (by exact Nat.le_refl _) (HOP.out _ (gob HG HB2)))))
  refine wpQuiet_nil ?_
  intro w3 kb
  obtain ⟨HB3, HK3⟩ := bk HB2 HK2 kb
  clear kb c0 c1 c2 c3 c4 c5 c6 c7 lw
  obtain ⟨c0, c1, c2, c3, c4, c5, c6, c7, lw⟩ := cl HK3
  go_wp2_with fail
  go_returns
  exact ⟨rfl, HB3.out⟩
theorem show_21 (w : World) (hN : GsOk w) (hP : PowOk w) (dst src imm size cond : Int) (g : Bool) (to_ : ByteArray) (hi : In64 imm) (hR : RX 21 dst src imm size g cond to_) :
    Calls Tryz.prog 27 #[.agg #[.int .i64 21, .int .i64 dst, .int .i64 src, .int .i64 imm, .int .i64 size, .bool g, .int .i64 cond, .string to_]] w fun en w' => en = .returned (.string (⟨#[115, 104, 108, 113]⟩ ++ ⟨#[32, 37, 99, 108, 44, 32]⟩ ++ pS dst 8)) ∧ Below w.heap.size w w' := by
  have z2 := pS_size dst 8
  have HR := Lib.hid hR
  clear hR
  have HOP := Lib.hid (fun W (h : GsOk W) => shift_21 W h)
  have HG := Lib.hid hN
  have HPW := Lib.hid hP
  have HI := Lib.hid hi
  obtain ⟨w0, hW0, HB0, HK0⟩ := ent w (.cells #[.int .i64 21, .int .i64 dst, .int .i64 src, .int .i64 imm, .int .i64 size, .bool g, .int .i64 cond, .string to_] 23)
  clear hN hP hi
  go_enter Tryz.func27, Tryz.ntmps27
  go_wp2_with fail
  rw [← hW0]
  clear hW0
  have c0 : w0.cell? ⟨w.heap.size, 0, none⟩ = some (.int .i64 21) := blk_cell HK0.out rfl
  have lw := blk_lt HK0.out
  refine (HR.out w0).mono ?_
  rintro en w1 ⟨rfl, kb⟩
  obtain ⟨HB1, HK1⟩ := bk HB0 HK0 kb
  clear kb c0 lw
  have c0 : w1.cell? ⟨w.heap.size, 0, none⟩ = some (.int .i64 21) := blk_cell HK1.out rfl
  have lw := blk_lt HK1.out
  go_wp2_with fail
  refine (jumps_21 w1 (HG.out.below HB1.out)).mono ?_
  rintro en w2 ⟨rfl, kb⟩
  obtain ⟨HB2, HK2⟩ := bk HB1 HK1 kb
  clear kb c0 lw
  obtain ⟨c0, c1, c2, c3, c4, c5, c6, c7, lw⟩ := cl HK2
  go_wp2_with fail
  refine wp_region_over (by kernel_rfl) (by kernel_rfl) ?_
  repeat (go_big_quiet_step (first | (go_at_call 51; exact calls_over (by exact Nat.le_refl _) (r_any _ (gob HG HB2) _)) | (go_at_call 58; exact calls_over (by exact Nat.le_refl _) (HOP.out _ (gob HG HB2)))))
  refine wpQuiet_nil ?_
  intro w3 kb
  obtain ⟨HB3, HK3⟩ := bk HB2 HK2 kb
  clear kb c0 c1 c2 c3 c4 c5 c6 c7 lw
  obtain ⟨c0, c1, c2, c3, c4, c5, c6, c7, lw⟩ := cl HK3
  go_wp2_with fail
  go_returns
  exact ⟨rfl, HB3.out⟩
theorem show_25 (w : World) (hN : GsOk w) (hP : PowOk w) (dst src imm size cond : Int) (g : Bool) (to_ : ByteArray) (hi : In64 imm) (hR : RX 25 dst src imm size g cond to_) :
    Calls Tryz.prog 27 #[.agg #[.int .i64 25, .int .i64 dst, .int .i64 src, .int .i64 imm, .int .i64 size, .bool g, .int .i64 cond, .string to_]] w fun en w' => en = .returned (.string (⟨#[115, 97, 114, 113]⟩ ++ ⟨#[32]⟩ ++ immB imm ++ ⟨#[44, 32]⟩ ++ pS dst 8)) ∧ Below w.heap.size w w' := by
  have z2 := pS_size dst 8
  have z3 := immB_size hi
  have HR := Lib.hid hR
  clear hR
  have HOP := Lib.hid (fun W (h : GsOk W) => shift_25 W h)
  have HG := Lib.hid hN
  have HPW := Lib.hid hP
  have HI := Lib.hid hi
  obtain ⟨w0, hW0, HB0, HK0⟩ := ent w (.cells #[.int .i64 25, .int .i64 dst, .int .i64 src, .int .i64 imm, .int .i64 size, .bool g, .int .i64 cond, .string to_] 23)
  clear hN hP hi
  go_enter Tryz.func27, Tryz.ntmps27
  go_wp2_with fail
  rw [← hW0]
  clear hW0
  have c0 : w0.cell? ⟨w.heap.size, 0, none⟩ = some (.int .i64 25) := blk_cell HK0.out rfl
  have lw := blk_lt HK0.out
  refine (HR.out w0).mono ?_
  rintro en w1 ⟨rfl, kb⟩
  obtain ⟨HB1, HK1⟩ := bk HB0 HK0 kb
  clear kb c0 lw
  have c0 : w1.cell? ⟨w.heap.size, 0, none⟩ = some (.int .i64 25) := blk_cell HK1.out rfl
  have lw := blk_lt HK1.out
  go_wp2_with fail
  refine (jumps_25 w1 (HG.out.below HB1.out)).mono ?_
  rintro en w2 ⟨rfl, kb⟩
  obtain ⟨HB2, HK2⟩ := bk HB1 HK1 kb
  clear kb c0 lw
  obtain ⟨c0, c1, c2, c3, c4, c5, c6, c7, lw⟩ := cl HK2
  go_wp2_with fail
  refine wp_region_over (by kernel_rfl) (by kernel_rfl) ?_
  repeat (go_big_quiet_step (first | (go_at_call 51; exact calls_over (by exact Nat.le_refl _) (r_any _ (gob HG HB2) _)) | (go_at_call 52; exact calls_over (by exact Nat.le_refl _) (imm_any _ ((HPW.out.below HB2.out).below (over_below _ _ _)) _ HI.out)) | (go_at_call 58; exact calls_over (by exact Nat.le_refl _) (HOP.out _ (gob HG HB2)))))
  refine wpQuiet_nil ?_
  intro w3 kb
  obtain ⟨HB3, HK3⟩ := bk HB2 HK2 kb
  clear kb c0 c1 c2 c3 c4 c5 c6 c7 lw
  obtain ⟨c0, c1, c2, c3, c4, c5, c6, c7, lw⟩ := cl HK3
  go_wp2_with fail
  go_returns
  exact ⟨rfl, HB3.out⟩
theorem show_29 (w : World) (hN : GsOk w) (hP : PowOk w) (dst src imm size cond : Int) (g : Bool) (to_ : ByteArray) (hi : In64 imm) (hR : RX 29 dst src imm size g cond to_) :
    Calls Tryz.prog 27 #[.agg #[.int .i64 29, .int .i64 dst, .int .i64 src, .int .i64 imm, .int .i64 size, .bool g, .int .i64 cond, .string to_]] w fun en w' => en = .returned (.string (⟨#[100, 105, 118, 113, 32]⟩ ++ pS dst 8)) ∧ Below w.heap.size w w' := by
  have z2 := pS_size dst 8
  have HR := Lib.hid hR
  clear hR
  have HRE := Lib.hid (fun W (h : GsOk W) => rest_29 W h dst src imm size cond g to_)
  have HG := Lib.hid hN
  have HPW := Lib.hid hP
  have HI := Lib.hid hi
  obtain ⟨w0, hW0, HB0, HK0⟩ := ent w (.cells #[.int .i64 29, .int .i64 dst, .int .i64 src, .int .i64 imm, .int .i64 size, .bool g, .int .i64 cond, .string to_] 23)
  clear hN hP hi
  go_enter Tryz.func27, Tryz.ntmps27
  go_wp2_with fail
  rw [← hW0]
  clear hW0
  have c0 : w0.cell? ⟨w.heap.size, 0, none⟩ = some (.int .i64 29) := blk_cell HK0.out rfl
  have lw := blk_lt HK0.out
  refine (HR.out w0).mono ?_
  rintro en w1 ⟨rfl, kb⟩
  obtain ⟨HB1, HK1⟩ := bk HB0 HK0 kb
  clear kb c0 lw
  have c0 : w1.cell? ⟨w.heap.size, 0, none⟩ = some (.int .i64 29) := blk_cell HK1.out rfl
  have lw := blk_lt HK1.out
  go_wp2_with fail
  refine (jumps_29 w1 (HG.out.below HB1.out)).mono ?_
  rintro en w2 ⟨rfl, kb⟩
  obtain ⟨HB2, HK2⟩ := bk HB1 HK1 kb
  clear kb c0 lw
  obtain ⟨c0, c1, c2, c3, c4, c5, c6, c7, lw⟩ := cl HK2
  go_wp2_with fail
  refine (HRE.out w2 (HG.out.below HB2.out)).mono ?_
  rintro en w3 ⟨rfl, kb⟩
  obtain ⟨HB3, HK3⟩ := bk HB2 HK2 kb
  clear kb c0 c1 c2 c3 c4 c5 c6 c7 lw
  obtain ⟨c0, c1, c2, c3, c4, c5, c6, c7, lw⟩ := cl HK3
  go_wp2_with fail
  go_returns
  exact ⟨rfl, HB3.out⟩
theorem show_33 (w : World) (hN : GsOk w) (hP : PowOk w) (dst src imm size cond : Int) (g : Bool) (to_ : ByteArray) (hi : In64 imm) (ht : to_.size ≤ 300) (hm : namedB to_ = true) (hR : RX 33 dst src imm size g cond to_) :
    Calls Tryz.prog 27 #[.agg #[.int .i64 33, .int .i64 dst, .int .i64 src, .int .i64 imm, .int .i64 size, .bool g, .int .i64 cond, .string to_]] w fun en w' => en = .returned (.string (⟨#[106, 109, 112, 32]⟩ ++ to_)) ∧ Below w.heap.size w w' := by
  have HR := Lib.hid hR
  clear hR
  have HRE := Lib.hid (fun W (h : GsOk W) => rest_33 W h dst src imm size cond g to_ ht)
  have HT := Lib.hid (fun W => named_any W to_ (by unfold maxLen; omega))
  rw [hm] at HT
  have HG := Lib.hid hN
  have HPW := Lib.hid hP
  have HI := Lib.hid hi
  obtain ⟨w0, hW0, HB0, HK0⟩ := ent w (.cells #[.int .i64 33, .int .i64 dst, .int .i64 src, .int .i64 imm, .int .i64 size, .bool g, .int .i64 cond, .string to_] 23)
  clear hN hP hi
  go_enter Tryz.func27, Tryz.ntmps27
  go_wp2_with fail
  rw [← hW0]
  clear hW0
  have c0 : w0.cell? ⟨w.heap.size, 0, none⟩ = some (.int .i64 33) := blk_cell HK0.out rfl
  have c7 : w0.cell? ⟨w.heap.size, 7, none⟩ = some (.string to_) := blk_cell HK0.out rfl
  have lw := blk_lt HK0.out
  refine (HR.out w0).mono ?_
  rintro en w1 ⟨rfl, kb⟩
  obtain ⟨HB1, HK1⟩ := bk HB0 HK0 kb
  clear kb c0 c7 lw
  have c0 : w1.cell? ⟨w.heap.size, 0, none⟩ = some (.int .i64 33) := blk_cell HK1.out rfl
  have c7 : w1.cell? ⟨w.heap.size, 7, none⟩ = some (.string to_) := blk_cell HK1.out rfl
  have lw := blk_lt HK1.out
  go_wp2_with fail
  refine (jumps_33 w1 (HG.out.below HB1.out)).mono ?_
  rintro en w2 ⟨rfl, kb⟩
  obtain ⟨HB2, HK2⟩ := bk HB1 HK1 kb
  clear kb c0 c7 lw
  have c0 : w2.cell? ⟨w.heap.size, 0, none⟩ = some (.int .i64 33) := blk_cell HK2.out rfl
  have c7 : w2.cell? ⟨w.heap.size, 7, none⟩ = some (.string to_) := blk_cell HK2.out rfl
  have lw := blk_lt HK2.out
  go_wp2_with fail
  refine (HT.out w2).mono ?_
  rintro en w3 ⟨rfl, kb⟩
  obtain ⟨HB3, HK3⟩ := bk HB2 HK2 kb
  clear kb c0 c7 lw
  obtain ⟨c0, c1, c2, c3, c4, c5, c6, c7, lw⟩ := cl HK3
  go_wp2_with fail
  refine (HRE.out w3 (HG.out.below HB3.out)).mono ?_
  rintro en w4 ⟨rfl, kb⟩
  obtain ⟨HB4, HK4⟩ := bk HB3 HK3 kb
  clear kb c0 c1 c2 c3 c4 c5 c6 c7 lw
  obtain ⟨c0, c1, c2, c3, c4, c5, c6, c7, lw⟩ := cl HK4
  go_wp2_with fail
  go_returns
  exact ⟨rfl, HB4.out⟩
theorem show_37 (w : World) (hN : GsOk w) (hP : PowOk w) (dst src imm size cond : Int) (g : Bool) (to_ : ByteArray) (hi : In64 imm) (hR : RX 37 dst src imm size g cond to_) :
    Calls Tryz.prog 27 #[.agg #[.int .i64 37, .int .i64 dst, .int .i64 src, .int .i64 imm, .int .i64 size, .bool g, .int .i64 cond, .string to_]] w fun en w' => en = .returned (.string (⟨#[106, 109, 112, 32, 42]⟩ ++ pS dst 8)) ∧ Below w.heap.size w w' := by
  have z2 := pS_size dst 8
  have HR := Lib.hid hR
  clear hR
  have HRE := Lib.hid (fun W (h : GsOk W) => rest_37 W h dst src imm size cond g to_)
  have HG := Lib.hid hN
  have HPW := Lib.hid hP
  have HI := Lib.hid hi
  obtain ⟨w0, hW0, HB0, HK0⟩ := ent w (.cells #[.int .i64 37, .int .i64 dst, .int .i64 src, .int .i64 imm, .int .i64 size, .bool g, .int .i64 cond, .string to_] 23)
  clear hN hP hi
  go_enter Tryz.func27, Tryz.ntmps27
  go_wp2_with fail
  rw [← hW0]
  clear hW0
  have c0 : w0.cell? ⟨w.heap.size, 0, none⟩ = some (.int .i64 37) := blk_cell HK0.out rfl
  have lw := blk_lt HK0.out
  refine (HR.out w0).mono ?_
  rintro en w1 ⟨rfl, kb⟩
  obtain ⟨HB1, HK1⟩ := bk HB0 HK0 kb
  clear kb c0 lw
  have c0 : w1.cell? ⟨w.heap.size, 0, none⟩ = some (.int .i64 37) := blk_cell HK1.out rfl
  have lw := blk_lt HK1.out
  go_wp2_with fail
  refine (jumps_37 w1 (HG.out.below HB1.out)).mono ?_
  rintro en w2 ⟨rfl, kb⟩
  obtain ⟨HB2, HK2⟩ := bk HB1 HK1 kb
  clear kb c0 lw
  obtain ⟨c0, c1, c2, c3, c4, c5, c6, c7, lw⟩ := cl HK2
  go_wp2_with fail
  refine (HRE.out w2 (HG.out.below HB2.out)).mono ?_
  rintro en w3 ⟨rfl, kb⟩
  obtain ⟨HB3, HK3⟩ := bk HB2 HK2 kb
  clear kb c0 c1 c2 c3 c4 c5 c6 c7 lw
  obtain ⟨c0, c1, c2, c3, c4, c5, c6, c7, lw⟩ := cl HK3
  go_wp2_with fail
  go_returns
  exact ⟨rfl, HB3.out⟩
theorem show_41 (w : World) (hN : GsOk w) (hP : PowOk w) (dst src imm size cond : Int) (g : Bool) (to_ : ByteArray) (hi : In64 imm) (hR : RX 41 dst src imm size g cond to_) :
    Calls Tryz.prog 27 #[.agg #[.int .i64 41, .int .i64 dst, .int .i64 src, .int .i64 imm, .int .i64 size, .bool g, .int .i64 cond, .string to_]] w fun en w' => en = .returned (.string (⟨#[104, 108, 116]⟩)) ∧ Below w.heap.size w w' := by
  have HR := Lib.hid hR
  clear hR
  have HRE := Lib.hid (fun W (h : GsOk W) => rest_41 W h dst src imm size cond g to_)
  have HG := Lib.hid hN
  have HPW := Lib.hid hP
  have HI := Lib.hid hi
  obtain ⟨w0, hW0, HB0, HK0⟩ := ent w (.cells #[.int .i64 41, .int .i64 dst, .int .i64 src, .int .i64 imm, .int .i64 size, .bool g, .int .i64 cond, .string to_] 23)
  clear hN hP hi
  go_enter Tryz.func27, Tryz.ntmps27
  go_wp2_with fail
  rw [← hW0]
  clear hW0
  have c0 : w0.cell? ⟨w.heap.size, 0, none⟩ = some (.int .i64 41) := blk_cell HK0.out rfl
  have lw := blk_lt HK0.out
  refine (HR.out w0).mono ?_
  rintro en w1 ⟨rfl, kb⟩
  obtain ⟨HB1, HK1⟩ := bk HB0 HK0 kb
  clear kb c0 lw
  have c0 : w1.cell? ⟨w.heap.size, 0, none⟩ = some (.int .i64 41) := blk_cell HK1.out rfl
  have lw := blk_lt HK1.out
  go_wp2_with fail
  refine (jumps_41 w1 (HG.out.below HB1.out)).mono ?_
  rintro en w2 ⟨rfl, kb⟩
  obtain ⟨HB2, HK2⟩ := bk HB1 HK1 kb
  clear kb c0 lw
  obtain ⟨c0, c1, c2, c3, c4, c5, c6, c7, lw⟩ := cl HK2
  go_wp2_with fail
  refine (HRE.out w2 (HG.out.below HB2.out)).mono ?_
  rintro en w3 ⟨rfl, kb⟩
  obtain ⟨HB3, HK3⟩ := bk HB2 HK2 kb
  clear kb c0 c1 c2 c3 c4 c5 c6 c7 lw
  obtain ⟨c0, c1, c2, c3, c4, c5, c6, c7, lw⟩ := cl HK3
  go_wp2_with fail
  go_returns
  exact ⟨rfl, HB3.out⟩
end Go.Proofs.YtmmpkkpmlaiapaaGreatDoor
