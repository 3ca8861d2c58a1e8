/- asm.Show, by operations (part 2). asm.Show, by operations (part 3). No condition. -/
import Derived.Test.YtmmpkkpmlaiapaaGreatDoorShR
namespace Go.Proofs.YtmmpkkpmlaiapaaGreatDoor
open Go.RowKit
set_option maxRecDepth 100000
set_option linter.unusedVariables false
set_option maxHeartbeats 8000000
theorem show_2l (w : World) (hN : GsOk w) (hP : PowOk w) (dst src imm size cond : Int) (g : Bool) (to_ : ByteArray) (hi : In64 imm) (hsm : imm < -2147483648 ∨ 2147483647 < imm) (hR : RX 2 dst src imm size g cond to_) :
    Calls Tryz.prog 27 #[.agg #[.int .i64 2, .int .i64 dst, .int .i64 src, .int .i64 imm, .int .i64 size, .bool g, .int .i64 cond, .string to_]] w fun en w' => en = .returned (.string (⟨#[109, 111, 118, 97, 98, 115, 113, 32]⟩ ++ immB imm ++ ⟨#[44, 32]⟩ ++ pS dst 8)) ∧ Below w.heap.size w w' := by
  have z2 := pS_size dst 8
  have z3 := immB_size hi
  have HR := Lib.hid hR
  clear hR
  have HG := Lib.hid hN
  have HPW := Lib.hid hP
  have HI := Lib.hid hi
  obtain ⟨w0, hW0, HB0, HK0⟩ := ent w (.cells #[.int .i64 2, .int .i64 dst, .int .i64 src, .int .i64 imm, .int .i64 size, .bool g, .int .i64 cond, .string to_] 23)
  clear hN hP hi
  go_enter Tryz.func27, Tryz.ntmps27
  go_wp2_with fail
  rw [← hW0]
  clear hW0
  have c0 : w0.cell? ⟨w.heap.size, 0, none⟩ = some (.int .i64 2) := blk_cell HK0.out rfl
  have lw := blk_lt HK0.out
  refine (HR.out w0).mono ?_
  rintro en w1 ⟨rfl, kb⟩
  obtain ⟨HB1, HK1⟩ := bk HB0 HK0 kb
  clear kb c0 lw
  have c0 : w1.cell? ⟨w.heap.size, 0, none⟩ = some (.int .i64 2) := blk_cell HK1.out rfl
  have lw := blk_lt HK1.out
  go_wp2_with fail
  refine (jumps_2 w1 (HG.out.below HB1.out)).mono ?_
  rintro en w2 ⟨rfl, kb⟩
  obtain ⟨HB2, HK2⟩ := bk HB1 HK1 kb
  clear kb c0 lw
  obtain ⟨c0, c1, c2, c3, c4, c5, c6, c7, lw⟩ := cl HK2
  have hcv : (imm == wrap64 (wrap32 imm)) = false := by rw [beq_eq_false_iff_ne]; intro e; unfold wrap64 wrap32 at e; omega
  go_wp2_with fail
  refine wp_region_over (by kernel_rfl) (by kernel_rfl) ?_
  repeat (go_big_quiet_step (first | (go_at_call 51; exact calls_over (by exact Nat.le_refl _) (r_any _ (gob HG HB2) _)) | (go_at_call 52; exact calls_over (by exact Nat.le_refl _) (imm_any _ ((HPW.out.below HB2.out).below (over_below _ _ _)) _ HI.out))))
  refine wpQuiet_nil ?_
  intro w3 kb
  obtain ⟨HB3, HK3⟩ := bk HB2 HK2 kb
  clear kb c0 c1 c2 c3 c4 c5 c6 c7 lw
  obtain ⟨c0, c1, c2, c3, c4, c5, c6, c7, lw⟩ := cl HK3
  go_wp2_with fail
  go_returns
  exact ⟨rfl, HB3.out⟩
theorem show_6 (w : World) (hN : GsOk w) (hP : PowOk w) (dst src imm size cond : Int) (g : Bool) (to_ : ByteArray) (hi : In64 imm) (ht : to_.size ≤ 300) (hm : namedB to_ = true) (hR : RX 6 dst src imm size g cond to_) :
    Calls Tryz.prog 27 #[.agg #[.int .i64 6, .int .i64 dst, .int .i64 src, .int .i64 imm, .int .i64 size, .bool g, .int .i64 cond, .string to_]] w fun en w' => en = .returned (.string (⟨#[108, 101, 97, 113, 32]⟩ ++ to_ ++ ⟨#[40, 37, 114, 105, 112, 41, 44, 32]⟩ ++ pS dst 8)) ∧ Below w.heap.size w w' := by
  have z2 := pS_size dst 8
  have HR := Lib.hid hR
  clear hR
  have HT := Lib.hid (fun W => named_any W to_ (by unfold maxLen; omega))
  rw [hm] at HT
  have HG := Lib.hid hN
  have HPW := Lib.hid hP
  have HI := Lib.hid hi
  obtain ⟨w0, hW0, HB0, HK0⟩ := ent w (.cells #[.int .i64 6, .int .i64 dst, .int .i64 src, .int .i64 imm, .int .i64 size, .bool g, .int .i64 cond, .string to_] 23)
  clear hN hP hi
  go_enter Tryz.func27, Tryz.ntmps27
  go_wp2_with fail
  rw [← hW0]
  clear hW0
  have c0 : w0.cell? ⟨w.heap.size, 0, none⟩ = some (.int .i64 6) := blk_cell HK0.out rfl
  have c7 : w0.cell? ⟨w.heap.size, 7, none⟩ = some (.string to_) := blk_cell HK0.out rfl
  have lw := blk_lt HK0.out
  refine (HR.out w0).mono ?_
  rintro en w1 ⟨rfl, kb⟩
  obtain ⟨HB1, HK1⟩ := bk HB0 HK0 kb
  clear kb c0 c7 lw
  have c0 : w1.cell? ⟨w.heap.size, 0, none⟩ = some (.int .i64 6) := blk_cell HK1.out rfl
  have c7 : w1.cell? ⟨w.heap.size, 7, none⟩ = some (.string to_) := blk_cell HK1.out rfl
  have lw := blk_lt HK1.out
  go_wp2_with fail
  refine (jumps_6 w1 (HG.out.below HB1.out)).mono ?_
  rintro en w2 ⟨rfl, kb⟩
  obtain ⟨HB2, HK2⟩ := bk HB1 HK1 kb
  clear kb c0 c7 lw
  have c0 : w2.cell? ⟨w.heap.size, 0, none⟩ = some (.int .i64 6) := blk_cell HK2.out rfl
  have c7 : w2.cell? ⟨w.heap.size, 7, none⟩ = some (.string to_) := blk_cell HK2.out rfl
  have lw := blk_lt HK2.out
  go_wp2_with fail
  refine (HT.out w2).mono ?_
  rintro en w3 ⟨rfl, kb⟩
  obtain ⟨HB3, HK3⟩ := bk HB2 HK2 kb
  clear kb c0 c7 lw
  obtain ⟨c0, c1, c2, c3, c4, c5, c6, c7, lw⟩ := cl HK3
  go_wp2_with fail
  refine wp_region_over (by kernel_rfl) (by kernel_rfl) ?_
  repeat (go_big_quiet_step ((go_at_call 51; exact calls_over (by exact Nat.le_refl _) (r_any _ (gob HG HB3) _))))
  refine wpQuiet_nil ?_
  intro w4 kb
  obtain ⟨HB4, HK4⟩ := bk HB3 HK3 kb
  clear kb c0 c1 c2 c3 c4 c5 c6 c7 lw
  obtain ⟨c0, c1, c2, c3, c4, c5, c6, c7, lw⟩ := cl HK4
  go_wp2_with fail
  go_returns
  exact ⟨rfl, HB4.out⟩
theorem show_10 (w : World) (hN : GsOk w) (hP : PowOk w) (dst src imm size cond : Int) (g : Bool) (to_ : ByteArray) (hi : In64 imm) (hR : RX 10 dst src imm size g cond to_) :
    Calls Tryz.prog 27 #[.agg #[.int .i64 10, .int .i64 dst, .int .i64 src, .int .i64 imm, .int .i64 size, .bool g, .int .i64 cond, .string to_]] w fun en w' => en = .returned (.string (⟨#[111, 114, 113]⟩ ++ ⟨#[32]⟩ ++ pS src 8 ++ ⟨#[44, 32]⟩ ++ pS dst 8)) ∧ Below w.heap.size w w' := by
  have z1 := pS_size src 8
  have z2 := pS_size dst 8
  have HR := Lib.hid hR
  clear hR
  have HOP := Lib.hid (fun W (h : GsOk W) => alu_10 W h)
  have HG := Lib.hid hN
  have HPW := Lib.hid hP
  have HI := Lib.hid hi
  obtain ⟨w0, hW0, HB0, HK0⟩ := ent w (.cells #[.int .i64 10, .int .i64 dst, .int .i64 src, .int .i64 imm, .int .i64 size, .bool g, .int .i64 cond, .string to_] 23)
  clear hN hP hi
  go_enter Tryz.func27, Tryz.ntmps27
  go_wp2_with fail
  rw [← hW0]
  clear hW0
  have c0 : w0.cell? ⟨w.heap.size, 0, none⟩ = some (.int .i64 10) := blk_cell HK0.out rfl
  have lw := blk_lt HK0.out
  refine (HR.out w0).mono ?_
  rintro en w1 ⟨rfl, kb⟩
  obtain ⟨HB1, HK1⟩ := bk HB0 HK0 kb
  clear kb c0 lw
  have c0 : w1.cell? ⟨w.heap.size, 0, none⟩ = some (.int .i64 10) := blk_cell HK1.out rfl
  have lw := blk_lt HK1.out
  go_wp2_with fail
  refine (jumps_10 w1 (HG.out.below HB1.out)).mono ?_
  rintro en w2 ⟨rfl, kb⟩
  obtain ⟨HB2, HK2⟩ := bk HB1 HK1 kb
  clear kb c0 lw
  obtain ⟨c0, c1, c2, c3, c4, c5, c6, c7, lw⟩ := cl HK2
  go_wp2_with fail
  refine wp_region_over (by kernel_rfl) (by kernel_rfl) ?_
  repeat (go_big_quiet_step (first | (go_at_call 51; exact calls_over (by exact Nat.le_refl _) (r_any _ (gob HG HB2) _)) | (go_at_call 57; exact calls_over (by exact Nat.le_refl _) (HOP.out _ (gob HG HB2)))))
  refine wpQuiet_nil ?_
  intro w3 kb
  obtain ⟨HB3, HK3⟩ := bk HB2 HK2 kb
  clear kb c0 c1 c2 c3 c4 c5 c6 c7 lw
  obtain ⟨c0, c1, c2, c3, c4, c5, c6, c7, lw⟩ := cl HK3
  go_wp2_with fail
  go_returns
  exact ⟨rfl, HB3.out⟩
theorem show_14 (w : World) (hN : GsOk w) (hP : PowOk w) (dst src imm size cond : Int) (g : Bool) (to_ : ByteArray) (hi : In64 imm) (hR : RX 14 dst src imm size g cond to_) :
    Calls Tryz.prog 27 #[.agg #[.int .i64 14, .int .i64 dst, .int .i64 src, .int .i64 imm, .int .i64 size, .bool g, .int .i64 cond, .string to_]] w fun en w' => en = .returned (.string (⟨#[97, 100, 100, 113]⟩ ++ ⟨#[32]⟩ ++ immB imm ++ ⟨#[44, 32]⟩ ++ pS dst 8)) ∧ Below w.heap.size w w' := by
  have z2 := pS_size dst 8
  have z3 := immB_size hi
  have HR := Lib.hid hR
  clear hR
  have HOP := Lib.hid (fun W (h : GsOk W) => alu_14 W h)
  have HG := Lib.hid hN
  have HPW := Lib.hid hP
  have HI := Lib.hid hi
  obtain ⟨w0, hW0, HB0, HK0⟩ := ent w (.cells #[.int .i64 14, .int .i64 dst, .int .i64 src, .int .i64 imm, .int .i64 size, .bool g, .int .i64 cond, .string to_] 23)
  clear hN hP hi
  go_enter Tryz.func27, Tryz.ntmps27
  go_wp2_with fail
  rw [← hW0]
  clear hW0
  have c0 : w0.cell? ⟨w.heap.size, 0, none⟩ = some (.int .i64 14) := blk_cell HK0.out rfl
  have lw := blk_lt HK0.out
  refine (HR.out w0).mono ?_
  rintro en w1 ⟨rfl, kb⟩
  obtain ⟨HB1, HK1⟩ := bk HB0 HK0 kb
  clear kb c0 lw
  have c0 : w1.cell? ⟨w.heap.size, 0, none⟩ = some (.int .i64 14) := blk_cell HK1.out rfl
  have lw := blk_lt HK1.out
  go_wp2_with fail
  refine (jumps_14 w1 (HG.out.below HB1.out)).mono ?_
  rintro en w2 ⟨rfl, kb⟩
  obtain ⟨HB2, HK2⟩ := bk HB1 HK1 kb
  clear kb c0 lw
  obtain ⟨c0, c1, c2, c3, c4, c5, c6, c7, lw⟩ := cl HK2
  go_wp2_with fail
  refine wp_region_over (by kernel_rfl) (by kernel_rfl) ?_
  repeat (go_big_quiet_step (first | (go_at_call 51; exact calls_over (by exact Nat.le_refl _) (r_any _ (gob HG HB2) _)) | (go_at_call 52; exact calls_over (by exact Nat.le_refl _) (imm_any _ ((HPW.out.below HB2.out).below (over_below _ _ _)) _ HI.out)) | (go_at_call 57; exact calls_over (by exact Nat.le_refl _) (HOP.out _ (gob HG HB2)))))
  refine wpQuiet_nil ?_
  intro w3 kb
  obtain ⟨HB3, HK3⟩ := bk HB2 HK2 kb
  clear kb c0 c1 c2 c3 c4 c5 c6 c7 lw
  obtain ⟨c0, c1, c2, c3, c4, c5, c6, c7, lw⟩ := cl HK3
  go_wp2_with fail
  go_returns
  exact ⟨rfl, HB3.out⟩
theorem show_18 (w : World) (hN : GsOk w) (hP : PowOk w) (dst src imm size cond : Int) (g : Bool) (to_ : ByteArray) (hi : In64 imm) (hR : RX 18 dst src imm size g cond to_) :
    Calls Tryz.prog 27 #[.agg #[.int .i64 18, .int .i64 dst, .int .i64 src, .int .i64 imm, .int .i64 size, .bool g, .int .i64 cond, .string to_]] w fun en w' => en = .returned (.string (⟨#[120, 111, 114, 113]⟩ ++ ⟨#[32]⟩ ++ immB imm ++ ⟨#[44, 32]⟩ ++ pS dst 8)) ∧ Below w.heap.size w w' := by
  have z2 := pS_size dst 8
  have z3 := immB_size hi
  have HR := Lib.hid hR
  clear hR
  have HOP := Lib.hid (fun W (h : GsOk W) => alu_18 W h)
  have HG := Lib.hid hN
  have HPW := Lib.hid hP
  have HI := Lib.hid hi
  obtain ⟨w0, hW0, HB0, HK0⟩ := ent w (.cells #[.int .i64 18, .int .i64 dst, .int .i64 src, .int .i64 imm, .int .i64 size, .bool g, .int .i64 cond, .string to_] 23)
  clear hN hP hi
  go_enter Tryz.func27, Tryz.ntmps27
  go_wp2_with fail
  rw [← hW0]
  clear hW0
  have c0 : w0.cell? ⟨w.heap.size, 0, none⟩ = some (.int .i64 18) := blk_cell HK0.out rfl
  have lw := blk_lt HK0.out
  refine (HR.out w0).mono ?_
  rintro en w1 ⟨rfl, kb⟩
  obtain ⟨HB1, HK1⟩ := bk HB0 HK0 kb
  clear kb c0 lw
  have c0 : w1.cell? ⟨w.heap.size, 0, none⟩ = some (.int .i64 18) := blk_cell HK1.out rfl
  have lw := blk_lt HK1.out
  go_wp2_with fail
  refine (jumps_18 w1 (HG.out.below HB1.out)).mono ?_
  rintro en w2 ⟨rfl, kb⟩
  obtain ⟨HB2, HK2⟩ := bk HB1 HK1 kb
  clear kb c0 lw
  obtain ⟨c0, c1, c2, c3, c4, c5, c6, c7, lw⟩ := cl HK2
  go_wp2_with fail
  refine wp_region_over (by kernel_rfl) (by kernel_rfl) ?_
  repeat (go_big_quiet_step (first | (go_at_call 51; exact calls_over (by exact Nat.le_refl _) (r_any _ (gob HG HB2) _)) | (go_at_call 52; exact calls_over (by exact Nat.le_refl _) (imm_any _ ((HPW.out.below HB2.out).below (over_below _ _ _)) _ HI.out)) | (go_at_call 57; exact calls_over (by exact Nat.le_refl _) (HOP.out _ (gob HG HB2)))))
  refine wpQuiet_nil ?_
  intro w3 kb
  obtain ⟨HB3, HK3⟩ := bk HB2 HK2 kb
  clear kb c0 c1 c2 c3 c4 c5 c6 c7 lw
  obtain ⟨c0, c1, c2, c3, c4, c5, c6, c7, lw⟩ := cl HK3
  go_wp2_with fail
  go_returns
  exact ⟨rfl, HB3.out⟩
theorem show_22 (w : World) (hN : GsOk w) (hP : PowOk w) (dst src imm size cond : Int) (g : Bool) (to_ : ByteArray) (hi : In64 imm) (hR : RX 22 dst src imm size g cond to_) :
    Calls Tryz.prog 27 #[.agg #[.int .i64 22, .int .i64 dst, .int .i64 src, .int .i64 imm, .int .i64 size, .bool g, .int .i64 cond, .string to_]] w fun en w' => en = .returned (.string (⟨#[115, 97, 114, 113]⟩ ++ ⟨#[32, 37, 99, 108, 44, 32]⟩ ++ pS dst 8)) ∧ Below w.heap.size w w' := by
  have z2 := pS_size dst 8
  have HR := Lib.hid hR
  clear hR
  have HOP := Lib.hid (fun W (h : GsOk W) => shift_22 W h)
  have HG := Lib.hid hN
  have HPW := Lib.hid hP
  have HI := Lib.hid hi
  obtain ⟨w0, hW0, HB0, HK0⟩ := ent w (.cells #[.int .i64 22, .int .i64 dst, .int .i64 src, .int .i64 imm, .int .i64 size, .bool g, .int .i64 cond, .string to_] 23)
  clear hN hP hi
  go_enter Tryz.func27, Tryz.ntmps27
  go_wp2_with fail
  rw [← hW0]
  clear hW0
  have c0 : w0.cell? ⟨w.heap.size, 0, none⟩ = some (.int .i64 22) := blk_cell HK0.out rfl
  have lw := blk_lt HK0.out
  refine (HR.out w0).mono ?_
  rintro en w1 ⟨rfl, kb⟩
  obtain ⟨HB1, HK1⟩ := bk HB0 HK0 kb
  clear kb c0 lw
  have c0 : w1.cell? ⟨w.heap.size, 0, none⟩ = some (.int .i64 22) := blk_cell HK1.out rfl
  have lw := blk_lt HK1.out
  go_wp2_with fail
  refine (jumps_22 w1 (HG.out.below HB1.out)).mono ?_
  rintro en w2 ⟨rfl, kb⟩
  obtain ⟨HB2, HK2⟩ := bk HB1 HK1 kb
  clear kb c0 lw
  obtain ⟨c0, c1, c2, c3, c4, c5, c6, c7, lw⟩ := cl HK2
  go_wp2_with fail
  refine wp_region_over (by kernel_rfl) (by kernel_rfl) ?_
  repeat (go_big_quiet_step (first | (go_at_call 51; exact calls_over (by exact Nat.le_refl _) (r_any _ (gob HG HB2) _)) | (go_at_call 58; exact calls_over (by exact Nat.le_refl _) (HOP.out _ (gob HG HB2)))))
  refine wpQuiet_nil ?_
  intro w3 kb
  obtain ⟨HB3, HK3⟩ := bk HB2 HK2 kb
  clear kb c0 c1 c2 c3 c4 c5 c6 c7 lw
  obtain ⟨c0, c1, c2, c3, c4, c5, c6, c7, lw⟩ := cl HK3
  go_wp2_with fail
  go_returns
  exact ⟨rfl, HB3.out⟩
theorem show_26 (w : World) (hN : GsOk w) (hP : PowOk w) (dst src imm size cond : Int) (g : Bool) (to_ : ByteArray) (hi : In64 imm) (hR : RX 26 dst src imm size g cond to_) :
    Calls Tryz.prog 27 #[.agg #[.int .i64 26, .int .i64 dst, .int .i64 src, .int .i64 imm, .int .i64 size, .bool g, .int .i64 cond, .string to_]] w fun en w' => en = .returned (.string (⟨#[115, 104, 114, 113]⟩ ++ ⟨#[32]⟩ ++ immB imm ++ ⟨#[44, 32]⟩ ++ pS dst 8)) ∧ Below w.heap.size w w' := by
  have z2 := pS_size dst 8
  have z3 := immB_size hi
  have HR := Lib.hid hR
  clear hR
  have HOP := Lib.hid (fun W (h : GsOk W) => shift_26 W h)
  have HG := Lib.hid hN
  have HPW := Lib.hid hP
  have HI := Lib.hid hi
  obtain ⟨w0, hW0, HB0, HK0⟩ := ent w (.cells #[.int .i64 26, .int .i64 dst, .int .i64 src, .int .i64 imm, .int .i64 size, .bool g, .int .i64 cond, .string to_] 23)
  clear hN hP hi
  go_enter Tryz.func27, Tryz.ntmps27
  go_wp2_with fail
  rw [← hW0]
  clear hW0
  have c0 : w0.cell? ⟨w.heap.size, 0, none⟩ = some (.int .i64 26) := blk_cell HK0.out rfl
  have lw := blk_lt HK0.out
  refine (HR.out w0).mono ?_
  rintro en w1 ⟨rfl, kb⟩
  obtain ⟨HB1, HK1⟩ := bk HB0 HK0 kb
  clear kb c0 lw
  have c0 : w1.cell? ⟨w.heap.size, 0, none⟩ = some (.int .i64 26) := blk_cell HK1.out rfl
  have lw := blk_lt HK1.out
  go_wp2_with fail
  refine (jumps_26 w1 (HG.out.below HB1.out)).mono ?_
  rintro en w2 ⟨rfl, kb⟩
  obtain ⟨HB2, HK2⟩ := bk HB1 HK1 kb
  clear kb c0 lw
  obtain ⟨c0, c1, c2, c3, c4, c5, c6, c7, lw⟩ := cl HK2
  go_wp2_with fail
  refine wp_region_over (by kernel_rfl) (by kernel_rfl) ?_
  repeat (go_big_quiet_step (first | (go_at_call 51; exact calls_over (by exact Nat.le_refl _) (r_any _ (gob HG HB2) _)) | (go_at_call 52; exact calls_over (by exact Nat.le_refl _) (imm_any _ ((HPW.out.below HB2.out).below (over_below _ _ _)) _ HI.out)) | (go_at_call 58; exact calls_over (by exact Nat.le_refl _) (HOP.out _ (gob HG HB2)))))
  refine wpQuiet_nil ?_
  intro w3 kb
  obtain ⟨HB3, HK3⟩ := bk HB2 HK2 kb
  clear kb c0 c1 c2 c3 c4 c5 c6 c7 lw
  obtain ⟨c0, c1, c2, c3, c4, c5, c6, c7, lw⟩ := cl HK3
  go_wp2_with fail
  go_returns
  exact ⟨rfl, HB3.out⟩
theorem show_30 (w : World) (hN : GsOk w) (hP : PowOk w) (dst src imm size cond : Int) (g : Bool) (to_ : ByteArray) (hi : In64 imm) (k : Nat) (hk : k < 4) (hsz : size = ((2 ^ k : Nat) : Int)) (hR : RX 30 dst src imm size g cond to_) :
    Calls Tryz.prog 27 #[.agg #[.int .i64 30, .int .i64 dst, .int .i64 src, .int .i64 imm, .int .i64 size, .bool g, .int .i64 cond, .string to_]] w fun en w' => en = .returned (.string (mvB k g ++ ⟨#[32, 37]⟩ ++ rB src size ++ ⟨#[44, 32, 37]⟩ ++ rB dst (mvN k g))) ∧ Below w.heap.size w w' := by
  have z7 := rB_size dst (mvN k g)
  have z9 := rB_size src size
  have zE := mvB_size k g
  have HR := Lib.hid hR
  clear hR
  have HMV := Lib.hid (fun W (h : GsOk W) => (show Calls Tryz.prog 53 #[.int .i64 size, .bool g] W fun e w' => e = .returned (.tuple #[.string (mvB k g), .int .i64 (mvN k g)]) ∧ Below W.heap.size W w' by rw [hsz]; exact move_b W h k g hk))
  clear hsz
  have HG := Lib.hid hN
  have HPW := Lib.hid hP
  have HI := Lib.hid hi
  obtain ⟨w0, hW0, HB0, HK0⟩ := ent w (.cells #[.int .i64 30, .int .i64 dst, .int .i64 src, .int .i64 imm, .int .i64 size, .bool g, .int .i64 cond, .string to_] 23)
  clear hN hP hi
  go_enter Tryz.func27, Tryz.ntmps27
  go_wp2_with fail
  rw [← hW0]
  clear hW0
  have c0 : w0.cell? ⟨w.heap.size, 0, none⟩ = some (.int .i64 30) := blk_cell HK0.out rfl
  have lw := blk_lt HK0.out
  refine (HR.out w0).mono ?_
  rintro en w1 ⟨rfl, kb⟩
  obtain ⟨HB1, HK1⟩ := bk HB0 HK0 kb
  clear kb c0 lw
  have c0 : w1.cell? ⟨w.heap.size, 0, none⟩ = some (.int .i64 30) := blk_cell HK1.out rfl
  have lw := blk_lt HK1.out
  go_wp2_with fail
  refine (jumps_30 w1 (HG.out.below HB1.out)).mono ?_
  rintro en w2 ⟨rfl, kb⟩
  obtain ⟨HB2, HK2⟩ := bk HB1 HK1 kb
  clear kb c0 lw
  obtain ⟨c0, c1, c2, c3, c4, c5, c6, c7, lw⟩ := cl HK2
  go_wp2_with fail
  refine (HMV.out w2 (HG.out.below HB2.out)).mono ?_
  rintro en w3 ⟨rfl, kb⟩
  obtain ⟨HB3, HK3⟩ := bk HB2 HK2 kb
  clear kb c0 c1 c2 c3 c4 c5 c6 c7 lw
  obtain ⟨c0, c1, c2, c3, c4, c5, c6, c7, lw⟩ := cl HK3
  go_wp2_with fail
  refine wp_region_over (by kernel_rfl) (by kernel_rfl) ?_
  repeat (go_big_quiet_step ((go_at_call 55; exact calls_over (by exact Nat.le_refl _) (reg_b _ (gob HG HB3) _ _))))
  refine wpQuiet_nil ?_
  intro w4 kb
  obtain ⟨HB4, HK4⟩ := bk HB3 HK3 kb
  clear kb c0 c1 c2 c3 c4 c5 c6 c7 lw
  obtain ⟨c0, c1, c2, c3, c4, c5, c6, c7, lw⟩ := cl HK4
  go_wp2_with fail
  go_returns
  exact ⟨rfl, HB4.out⟩
theorem show_34 (w : World) (hN : GsOk w) (hP : PowOk w) (dst src imm size cond : Int) (g : Bool) (to_ : ByteArray) (hi : In64 imm) (ht : to_.size ≤ 300) (hm : namedB to_ = true) (hR : RX 34 dst src imm size g cond to_) :
    Calls Tryz.prog 27 #[.agg #[.int .i64 34, .int .i64 dst, .int .i64 src, .int .i64 imm, .int .i64 size, .bool g, .int .i64 cond, .string to_]] w fun en w' => en = .returned (.string (⟨#[106]⟩ ++ cB cond ++ ⟨#[32]⟩ ++ to_)) ∧ Below w.heap.size w w' := by
  have zD := cB_size cond
  have HR := Lib.hid hR
  clear hR
  have HRE := Lib.hid (fun W (h : GsOk W) => rest_34 W h dst src imm size cond g to_ ht)
  have HT := Lib.hid (fun W => named_any W to_ (by unfold maxLen; omega))
  rw [hm] at HT
  have HG := Lib.hid hN
  have HPW := Lib.hid hP
  have HI := Lib.hid hi
  obtain ⟨w0, hW0, HB0, HK0⟩ := ent w (.cells #[.int .i64 34, .int .i64 dst, .int .i64 src, .int .i64 imm, .int .i64 size, .bool g, .int .i64 cond, .string to_] 23)
  clear hN hP hi
  go_enter Tryz.func27, Tryz.ntmps27
  go_wp2_with fail
  rw [← hW0]
  clear hW0
  have c0 : w0.cell? ⟨w.heap.size, 0, none⟩ = some (.int .i64 34) := blk_cell HK0.out rfl
  have c7 : w0.cell? ⟨w.heap.size, 7, none⟩ = some (.string to_) := blk_cell HK0.out rfl
  have lw := blk_lt HK0.out
  refine (HR.out w0).mono ?_
  rintro en w1 ⟨rfl, kb⟩
  obtain ⟨HB1, HK1⟩ := bk HB0 HK0 kb
  clear kb c0 c7 lw
  have c0 : w1.cell? ⟨w.heap.size, 0, none⟩ = some (.int .i64 34) := blk_cell HK1.out rfl
  have c7 : w1.cell? ⟨w.heap.size, 7, none⟩ = some (.string to_) := blk_cell HK1.out rfl
  have lw := blk_lt HK1.out
  go_wp2_with fail
  refine (jumps_34 w1 (HG.out.below HB1.out)).mono ?_
  rintro en w2 ⟨rfl, kb⟩
  obtain ⟨HB2, HK2⟩ := bk HB1 HK1 kb
  clear kb c0 c7 lw
  have c0 : w2.cell? ⟨w.heap.size, 0, none⟩ = some (.int .i64 34) := blk_cell HK2.out rfl
  have c7 : w2.cell? ⟨w.heap.size, 7, none⟩ = some (.string to_) := blk_cell HK2.out rfl
  have lw := blk_lt HK2.out
  go_wp2_with fail
  refine (HT.out w2).mono ?_
  rintro en w3 ⟨rfl, kb⟩
  obtain ⟨HB3, HK3⟩ := bk HB2 HK2 kb
  clear kb c0 c7 lw
  obtain ⟨c0, c1, c2, c3, c4, c5, c6, c7, lw⟩ := cl HK3
  go_wp2_with fail
  refine (HRE.out w3 (HG.out.below HB3.out)).mono ?_
  rintro en w4 ⟨rfl, kb⟩
  obtain ⟨HB4, HK4⟩ := bk HB3 HK3 kb
  clear kb c0 c1 c2 c3 c4 c5 c6 c7 lw
  obtain ⟨c0, c1, c2, c3, c4, c5, c6, c7, lw⟩ := cl HK4
  go_wp2_with fail
  go_returns
  exact ⟨rfl, HB4.out⟩
theorem show_38 (w : World) (hN : GsOk w) (hP : PowOk w) (dst src imm size cond : Int) (g : Bool) (to_ : ByteArray) (hi : In64 imm) (hR : RX 38 dst src imm size g cond to_) :
    Calls Tryz.prog 27 #[.agg #[.int .i64 38, .int .i64 dst, .int .i64 src, .int .i64 imm, .int .i64 size, .bool g, .int .i64 cond, .string to_]] w fun en w' => en = .returned (.string (⟨#[114, 101, 116]⟩)) ∧ Below w.heap.size w w' := by
  have HR := Lib.hid hR
  clear hR
  have HRE := Lib.hid (fun W (h : GsOk W) => rest_38 W h dst src imm size cond g to_)
  have HG := Lib.hid hN
  have HPW := Lib.hid hP
  have HI := Lib.hid hi
  obtain ⟨w0, hW0, HB0, HK0⟩ := ent w (.cells #[.int .i64 38, .int .i64 dst, .int .i64 src, .int .i64 imm, .int .i64 size, .bool g, .int .i64 cond, .string to_] 23)
  clear hN hP hi
  go_enter Tryz.func27, Tryz.ntmps27
  go_wp2_with fail
  rw [← hW0]
  clear hW0
  have c0 : w0.cell? ⟨w.heap.size, 0, none⟩ = some (.int .i64 38) := blk_cell HK0.out rfl
  have lw := blk_lt HK0.out
  refine (HR.out w0).mono ?_
  rintro en w1 ⟨rfl, kb⟩
  obtain ⟨HB1, HK1⟩ := bk HB0 HK0 kb
  clear kb c0 lw
  have c0 : w1.cell? ⟨w.heap.size, 0, none⟩ = some (.int .i64 38) := blk_cell HK1.out rfl
  have lw := blk_lt HK1.out
  go_wp2_with fail
  refine (jumps_38 w1 (HG.out.below HB1.out)).mono ?_
  rintro en w2 ⟨rfl, kb⟩
  obtain ⟨HB2, HK2⟩ := bk HB1 HK1 kb
  clear kb c0 lw
  obtain ⟨c0, c1, c2, c3, c4, c5, c6, c7, lw⟩ := cl HK2
  go_wp2_with fail
  refine (HRE.out w2 (HG.out.below HB2.out)).mono ?_
  rintro en w3 ⟨rfl, kb⟩
  obtain ⟨HB3, HK3⟩ := bk HB2 HK2 kb
  clear kb c0 c1 c2 c3 c4 c5 c6 c7 lw
  obtain ⟨c0, c1, c2, c3, c4, c5, c6, c7, lw⟩ := cl HK3
  go_wp2_with fail
  go_returns
  exact ⟨rfl, HB3.out⟩
end Go.Proofs.YtmmpkkpmlaiapaaGreatDoor
namespace Go.Proofs.YtmmpkkpmlaiapaaGreatDoor
open Go.RowKit
set_option maxRecDepth 100000
set_option linter.unusedVariables false
set_option maxHeartbeats 8000000
theorem show_3 (w : World) (hN : GsOk w) (hP : PowOk w) (dst src imm size cond : Int) (g : Bool) (to_ : ByteArray) (hi : In64 imm) (k : Nat) (hk : k < 4) (hsz : size = ((2 ^ k : Nat) : Int)) (hR : RX 3 dst src imm size g cond to_) :
    Calls Tryz.prog 27 #[.agg #[.int .i64 3, .int .i64 dst, .int .i64 src, .int .i64 imm, .int .i64 size, .bool g, .int .i64 cond, .string to_]] w fun en w' => en = .returned (.string (mvB k g ++ ⟨#[32]⟩ ++ atB src imm ++ ⟨#[44, 32, 37]⟩ ++ rB dst (mvN k g))) ∧ Below w.heap.size w w' := by
  have z5 := atB_size src hi
  have z7 := rB_size dst (mvN k g)
  have zE := mvB_size k g
  have HR := Lib.hid hR
  clear hR
  have HMV := Lib.hid (fun W (h : GsOk W) => (show Calls Tryz.prog 53 #[.int .i64 size, .bool g] W fun e w' => e = .returned (.tuple #[.string (mvB k g), .int .i64 (mvN k g)]) ∧ Below W.heap.size W w' by rw [hsz]; exact move_b W h k g hk))
  clear hsz
  have HG := Lib.hid hN
  have HPW := Lib.hid hP
  have HI := Lib.hid hi
  obtain ⟨w0, hW0, HB0, HK0⟩ := ent w (.cells #[.int .i64 3, .int .i64 dst, .int .i64 src, .int .i64 imm, .int .i64 size, .bool g, .int .i64 cond, .string to_] 23)
  clear hN hP hi
  go_enter Tryz.func27, Tryz.ntmps27
  go_wp2_with fail
  rw [← hW0]
  clear hW0
  have c0 : w0.cell? ⟨w.heap.size, 0, none⟩ = some (.int .i64 3) := blk_cell HK0.out rfl
  have lw := blk_lt HK0.out
  refine (HR.out w0).mono ?_
  rintro en w1 ⟨rfl, kb⟩
  obtain ⟨HB1, HK1⟩ := bk HB0 HK0 kb
  clear kb c0 lw
  have c0 : w1.cell? ⟨w.heap.size, 0, none⟩ = some (.int .i64 3) := blk_cell HK1.out rfl
  have lw := blk_lt HK1.out
  go_wp2_with fail
  refine (jumps_3 w1 (HG.out.below HB1.out)).mono ?_
  rintro en w2 ⟨rfl, kb⟩
  obtain ⟨HB2, HK2⟩ := bk HB1 HK1 kb
  clear kb c0 lw
  obtain ⟨c0, c1, c2, c3, c4, c5, c6, c7, lw⟩ := cl HK2
  go_wp2_with fail
  refine (HMV.out w2 (HG.out.below HB2.out)).mono ?_
  rintro en w3 ⟨rfl, kb⟩
  obtain ⟨HB3, HK3⟩ := bk HB2 HK2 kb
  clear kb c0 c1 c2 c3 c4 c5 c6 c7 lw
  obtain ⟨c0, c1, c2, c3, c4, c5, c6, c7, lw⟩ := cl HK3
  go_wp2_with fail
  refine wp_region_over (by kernel_rfl) (by kernel_rfl) ?_
  repeat (go_big_quiet_step (first | (go_at_call 54; exact calls_over (by exact Nat.le_refl _) (at_any _ (gob HG HB3) ((HPW.out.below HB3.out).below (over_below _ _ _)) _ _ HI.out)) | (go_at_call 55; exact calls_over (by exact Nat.le_refl _) (reg_b _ (gob HG HB3) _ _))))
  refine wpQuiet_nil ?_
  intro w4 kb
  obtain ⟨HB4, HK4⟩ := bk HB3 HK3 kb
  clear kb c0 c1 c2 c3 c4 c5 c6 c7 lw
  obtain ⟨c0, c1, c2, c3, c4, c5, c6, c7, lw⟩ := cl HK4
  go_wp2_with fail
  go_returns
  exact ⟨rfl, HB4.out⟩
theorem show_7 (w : World) (hN : GsOk w) (hP : PowOk w) (dst src imm size cond : Int) (g : Bool) (to_ : ByteArray) (hi : In64 imm) (hR : RX 7 dst src imm size g cond to_) :
    Calls Tryz.prog 27 #[.agg #[.int .i64 7, .int .i64 dst, .int .i64 src, .int .i64 imm, .int .i64 size, .bool g, .int .i64 cond, .string to_]] w fun en w' => en = .returned (.string (⟨#[97, 100, 100, 113]⟩ ++ ⟨#[32]⟩ ++ pS src 8 ++ ⟨#[44, 32]⟩ ++ pS dst 8)) ∧ Below w.heap.size w w' := by
  have z1 := pS_size src 8
  have z2 := pS_size dst 8
  have HR := Lib.hid hR
  clear hR
  have HOP := Lib.hid (fun W (h : GsOk W) => alu_7 W h)
  have HG := Lib.hid hN
  have HPW := Lib.hid hP
  have HI := Lib.hid hi
  obtain ⟨w0, hW0, HB0, HK0⟩ := ent w (.cells #[.int .i64 7, .int .i64 dst, .int .i64 src, .int .i64 imm, .int .i64 size, .bool g, .int .i64 cond, .string to_] 23)
  clear hN hP hi
  go_enter Tryz.func27, Tryz.ntmps27
  go_wp2_with fail
  rw [← hW0]
  clear hW0
  have c0 : w0.cell? ⟨w.heap.size, 0, none⟩ = some (.int .i64 7) := blk_cell HK0.out rfl
  have lw := blk_lt HK0.out
  refine (HR.out w0).mono ?_
  rintro en w1 ⟨rfl, kb⟩
  obtain ⟨HB1, HK1⟩ := bk HB0 HK0 kb
  clear kb c0 lw
  have c0 : w1.cell? ⟨w.heap.size, 0, none⟩ = some (.int .i64 7) := blk_cell HK1.out rfl
  have lw := blk_lt HK1.out
  go_wp2_with fail
  refine (jumps_7 w1 (HG.out.below HB1.out)).mono ?_
  rintro en w2 ⟨rfl, kb⟩
  obtain ⟨HB2, HK2⟩ := bk HB1 HK1 kb
  clear kb c0 lw
  obtain ⟨c0, c1, c2, c3, c4, c5, c6, c7, lw⟩ := cl HK2
  go_wp2_with fail
  refine wp_region_over (by kernel_rfl) (by kernel_rfl) ?_
  repeat (go_big_quiet_step (first | (go_at_call 51; exact calls_over (by exact Nat.le_refl _) (r_any _ (gob HG HB2) _)) | (go_at_call 57; exact calls_over (by exact Nat.le_refl _) (HOP.out _ (gob HG HB2)))))
  refine wpQuiet_nil ?_
  intro w3 kb
  obtain ⟨HB3, HK3⟩ := bk HB2 HK2 kb
  clear kb c0 c1 c2 c3 c4 c5 c6 c7 lw
  obtain ⟨c0, c1, c2, c3, c4, c5, c6, c7, lw⟩ := cl HK3
  go_wp2_with fail
  go_returns
  exact ⟨rfl, HB3.out⟩
theorem show_11 (w : World) (hN : GsOk w) (hP : PowOk w) (dst src imm size cond : Int) (g : Bool) (to_ : ByteArray) (hi : In64 imm) (hR : RX 11 dst src imm size g cond to_) :
    Calls Tryz.prog 27 #[.agg #[.int .i64 11, .int .i64 dst, .int .i64 src, .int .i64 imm, .int .i64 size, .bool g, .int .i64 cond, .string to_]] w fun en w' => en = .returned (.string (⟨#[120, 111, 114, 113]⟩ ++ ⟨#[32]⟩ ++ pS src 8 ++ ⟨#[44, 32]⟩ ++ pS dst 8)) ∧ Below w.heap.size w w' := by
  have z1 := pS_size src 8
  have z2 := pS_size dst 8
  have HR := Lib.hid hR
  clear hR
  have HOP := Lib.hid (fun W (h : GsOk W) => alu_11 W h)
  have HG := Lib.hid hN
  have HPW := Lib.hid hP
  have HI := Lib.hid hi
  obtain ⟨w0, hW0, HB0, HK0⟩ := ent w (.cells #[.int .i64 11, .int .i64 dst, .int .i64 src, .int .i64 imm, .int .i64 size, .bool g, .int .i64 cond, .string to_] 23)
  clear hN hP hi
  go_enter Tryz.func27, Tryz.ntmps27
  go_wp2_with fail
  rw [← hW0]
  clear hW0
  have c0 : w0.cell? ⟨w.heap.size, 0, none⟩ = some (.int .i64 11) := blk_cell HK0.out rfl
  have lw := blk_lt HK0.out
  refine (HR.out w0).mono ?_
  rintro en w1 ⟨rfl, kb⟩
  obtain ⟨HB1, HK1⟩ := bk HB0 HK0 kb
  clear kb c0 lw
  have c0 : w1.cell? ⟨w.heap.size, 0, none⟩ = some (.int .i64 11) := blk_cell HK1.out rfl
  have lw := blk_lt HK1.out
  go_wp2_with fail
  refine (jumps_11 w1 (HG.out.below HB1.out)).mono ?_
  rintro en w2 ⟨rfl, kb⟩
  obtain ⟨HB2, HK2⟩ := bk HB1 HK1 kb
  clear kb c0 lw
  obtain ⟨c0, c1, c2, c3, c4, c5, c6, c7, lw⟩ := cl HK2
  go_wp2_with fail
  refine wp_region_over (by kernel_rfl) (by kernel_rfl) ?_
  repeat (go_big_quiet_step (first | (go_at_call 51; exact calls_over (by exact Nat.le_refl _) (r_any _ (gob HG HB2) _)) | (go_at_call 57; exact calls_over (by exact Nat.le_refl _) (HOP.out _ (gob HG HB2)))))
  refine wpQuiet_nil ?_
  intro w3 kb
  obtain ⟨HB3, HK3⟩ := bk HB2 HK2 kb
  clear kb c0 c1 c2 c3 c4 c5 c6 c7 lw
  obtain ⟨c0, c1, c2, c3, c4, c5, c6, c7, lw⟩ := cl HK3
  go_wp2_with fail
  go_returns
  exact ⟨rfl, HB3.out⟩
theorem show_15 (w : World) (hN : GsOk w) (hP : PowOk w) (dst src imm size cond : Int) (g : Bool) (to_ : ByteArray) (hi : In64 imm) (hR : RX 15 dst src imm size g cond to_) :
    Calls Tryz.prog 27 #[.agg #[.int .i64 15, .int .i64 dst, .int .i64 src, .int .i64 imm, .int .i64 size, .bool g, .int .i64 cond, .string to_]] w fun en w' => en = .returned (.string (⟨#[115, 117, 98, 113]⟩ ++ ⟨#[32]⟩ ++ immB imm ++ ⟨#[44, 32]⟩ ++ pS dst 8)) ∧ Below w.heap.size w w' := by
  have z2 := pS_size dst 8
  have z3 := immB_size hi
  have HR := Lib.hid hR
  clear hR
  have HOP := Lib.hid (fun W (h : GsOk W) => alu_15 W h)
  have HG := Lib.hid hN
  have HPW := Lib.hid hP
  have HI := Lib.hid hi
  obtain ⟨w0, hW0, HB0, HK0⟩ := ent w (.cells #[.int .i64 15, .int .i64 dst, .int .i64 src, .int .i64 imm, .int .i64 size, .bool g, .int .i64 cond, .string to_] 23)
  clear hN hP hi
  go_enter Tryz.func27, Tryz.ntmps27
  go_wp2_with fail
  rw [← hW0]
  clear hW0
  have c0 : w0.cell? ⟨w.heap.size, 0, none⟩ = some (.int .i64 15) := blk_cell HK0.out rfl
  have lw := blk_lt HK0.out
  refine (HR.out w0).mono ?_
  rintro en w1 ⟨rfl, kb⟩
  obtain ⟨HB1, HK1⟩ := bk HB0 HK0 kb
  clear kb c0 lw
  have c0 : w1.cell? ⟨w.heap.size, 0, none⟩ = some (.int .i64 15) := blk_cell HK1.out rfl
  have lw := blk_lt HK1.out
  go_wp2_with fail
  refine (jumps_15 w1 (HG.out.below HB1.out)).mono ?_
  rintro en w2 ⟨rfl, kb⟩
  obtain ⟨HB2, HK2⟩ := bk HB1 HK1 kb
  clear kb c0 lw
  obtain ⟨c0, c1, c2, c3, c4, c5, c6, c7, lw⟩ := cl HK2
  go_wp2_with fail
  refine wp_region_over (by kernel_rfl) (by kernel_rfl) ?_
  repeat (go_big_quiet_step (first | (go_at_call 51; exact calls_over (by exact Nat.le_refl _) (r_any _ (gob HG HB2) _)) | (go_at_call 52; exact calls_over (by exact Nat.le_refl _) (imm_any _ ((HPW.out.below HB2.out).below (over_below _ _ _)) _ HI.out)) | (go_at_call 57; exact calls_over (by exact Nat.le_refl _) (HOP.out _ (gob HG HB2)))))
  refine wpQuiet_nil ?_
  intro w3 kb
  obtain ⟨HB3, HK3⟩ := bk HB2 HK2 kb
  clear kb c0 c1 c2 c3 c4 c5 c6 c7 lw
  obtain ⟨c0, c1, c2, c3, c4, c5, c6, c7, lw⟩ := cl HK3
  go_wp2_with fail
  go_returns
  exact ⟨rfl, HB3.out⟩
theorem show_19 (w : World) (hN : GsOk w) (hP : PowOk w) (dst src imm size cond : Int) (g : Bool) (to_ : ByteArray) (hi : In64 imm) (hR : RX 19 dst src imm size g cond to_) :
    Calls Tryz.prog 27 #[.agg #[.int .i64 19, .int .i64 dst, .int .i64 src, .int .i64 imm, .int .i64 size, .bool g, .int .i64 cond, .string to_]] w fun en w' => en = .returned (.string (⟨#[105, 109, 117, 108, 113]⟩ ++ ⟨#[32]⟩ ++ immB imm ++ ⟨#[44, 32]⟩ ++ pS dst 8)) ∧ Below w.heap.size w w' := by
  have z2 := pS_size dst 8
  have z3 := immB_size hi
  have HR := Lib.hid hR
  clear hR
  have HOP := Lib.hid (fun W (h : GsOk W) => alu_19 W h)
  have HG := Lib.hid hN
  have HPW := Lib.hid hP
  have HI := Lib.hid hi
  obtain ⟨w0, hW0, HB0, HK0⟩ := ent w (.cells #[.int .i64 19, .int .i64 dst, .int .i64 src, .int .i64 imm, .int .i64 size, .bool g, .int .i64 cond, .string to_] 23)
  clear hN hP hi
  go_enter Tryz.func27, Tryz.ntmps27
  go_wp2_with fail
  rw [← hW0]
  clear hW0
  have c0 : w0.cell? ⟨w.heap.size, 0, none⟩ = some (.int .i64 19) := blk_cell HK0.out rfl
  have lw := blk_lt HK0.out
  refine (HR.out w0).mono ?_
  rintro en w1 ⟨rfl, kb⟩
  obtain ⟨HB1, HK1⟩ := bk HB0 HK0 kb
  clear kb c0 lw
  have c0 : w1.cell? ⟨w.heap.size, 0, none⟩ = some (.int .i64 19) := blk_cell HK1.out rfl
  have lw := blk_lt HK1.out
  go_wp2_with fail
  refine (jumps_19 w1 (HG.out.below HB1.out)).mono ?_
  rintro en w2 ⟨rfl, kb⟩
  obtain ⟨HB2, HK2⟩ := bk HB1 HK1 kb
  clear kb c0 lw
  obtain ⟨c0, c1, c2, c3, c4, c5, c6, c7, lw⟩ := cl HK2
  go_wp2_with fail
  refine wp_region_over (by kernel_rfl) (by kernel_rfl) ?_
  repeat (go_big_quiet_step (first | (go_at_call 51; exact calls_over (by exact Nat.le_refl _) (r_any _ (gob HG HB2) _)) | (go_at_call 52; exact calls_over (by exact Nat.le_refl _) (imm_any _ ((HPW.out.below HB2.out).below (over_below _ _ _)) _ HI.out)) | (go_at_call 57; exact calls_over (by exact Nat.le_refl _) (HOP.out _ (gob HG HB2)))))
  refine wpQuiet_nil ?_
  intro w3 kb
  obtain ⟨HB3, HK3⟩ := bk HB2 HK2 kb
  clear kb c0 c1 c2 c3 c4 c5 c6 c7 lw
  obtain ⟨c0, c1, c2, c3, c4, c5, c6, c7, lw⟩ := cl HK3
  go_wp2_with fail
  go_returns
  exact ⟨rfl, HB3.out⟩
theorem show_23 (w : World) (hN : GsOk w) (hP : PowOk w) (dst src imm size cond : Int) (g : Bool) (to_ : ByteArray) (hi : In64 imm) (hR : RX 23 dst src imm size g cond to_) :
    Calls Tryz.prog 27 #[.agg #[.int .i64 23, .int .i64 dst, .int .i64 src, .int .i64 imm, .int .i64 size, .bool g, .int .i64 cond, .string to_]] w fun en w' => en = .returned (.string (⟨#[115, 104, 114, 113]⟩ ++ ⟨#[32, 37, 99, 108, 44, 32]⟩ ++ pS dst 8)) ∧ Below w.heap.size w w' := by
  have z2 := pS_size dst 8
  have HR := Lib.hid hR
  clear hR
  have HOP := Lib.hid (fun W (h : GsOk W) => shift_23 W h)
  have HG := Lib.hid hN
  have HPW := Lib.hid hP
  have HI := Lib.hid hi
  obtain ⟨w0, hW0, HB0, HK0⟩ := ent w (.cells #[.int .i64 23, .int .i64 dst, .int .i64 src, .int .i64 imm, .int .i64 size, .bool g, .int .i64 cond, .string to_] 23)
  clear hN hP hi
  go_enter Tryz.func27, Tryz.ntmps27
  go_wp2_with fail
  rw [← hW0]
  clear hW0
  have c0 : w0.cell? ⟨w.heap.size, 0, none⟩ = some (.int .i64 23) := blk_cell HK0.out rfl
  have lw := blk_lt HK0.out
  refine (HR.out w0).mono ?_
  rintro en w1 ⟨rfl, kb⟩
  obtain ⟨HB1, HK1⟩ := bk HB0 HK0 kb
  clear kb c0 lw
  have c0 : w1.cell? ⟨w.heap.size, 0, none⟩ = some (.int .i64 23) := blk_cell HK1.out rfl
  have lw := blk_lt HK1.out
  go_wp2_with fail
  refine (jumps_23 w1 (HG.out.below HB1.out)).mono ?_
  rintro en w2 ⟨rfl, kb⟩
  obtain ⟨HB2, HK2⟩ := bk HB1 HK1 kb
  clear kb c0 lw
  obtain ⟨c0, c1, c2, c3, c4, c5, c6, c7, lw⟩ := cl HK2
  go_wp2_with fail
  refine wp_region_over (by kernel_rfl) (by kernel_rfl) ?_
  repeat (go_big_quiet_step (first | (go_at_call 51; exact calls_over (by exact Nat.le_refl _) (r_any _ (gob HG HB2) _)) | (go_at_call 58; exact calls_over (by exact Nat.le_refl _) (HOP.out _ (gob HG HB2)))))
  refine wpQuiet_nil ?_
  intro w3 kb
  obtain ⟨HB3, HK3⟩ := bk HB2 HK2 kb
  clear kb c0 c1 c2 c3 c4 c5 c6 c7 lw
  obtain ⟨c0, c1, c2, c3, c4, c5, c6, c7, lw⟩ := cl HK3
  go_wp2_with fail
  go_returns
  exact ⟨rfl, HB3.out⟩
theorem show_27 (w : World) (hN : GsOk w) (hP : PowOk w) (dst src imm size cond : Int) (g : Bool) (to_ : ByteArray) (hi : In64 imm) (hR : RX 27 dst src imm size g cond to_) :
    Calls Tryz.prog 27 #[.agg #[.int .i64 27, .int .i64 dst, .int .i64 src, .int .i64 imm, .int .i64 size, .bool g, .int .i64 cond, .string to_]] w fun en w' => en = .returned (.string (⟨#[99, 113, 116, 111]⟩)) ∧ Below w.heap.size w w' := by
  have HR := Lib.hid hR
  clear hR
  have HRE := Lib.hid (fun W (h : GsOk W) => rest_27 W h dst src imm size cond g to_)
  have HG := Lib.hid hN
  have HPW := Lib.hid hP
  have HI := Lib.hid hi
  obtain ⟨w0, hW0, HB0, HK0⟩ := ent w (.cells #[.int .i64 27, .int .i64 dst, .int .i64 src, .int .i64 imm, .int .i64 size, .bool g, .int .i64 cond, .string to_] 23)
  clear hN hP hi
  go_enter Tryz.func27, Tryz.ntmps27
  go_wp2_with fail
  rw [← hW0]
  clear hW0
  have c0 : w0.cell? ⟨w.heap.size, 0, none⟩ = some (.int .i64 27) := blk_cell HK0.out rfl
  have lw := blk_lt HK0.out
  refine (HR.out w0).mono ?_
  rintro en w1 ⟨rfl, kb⟩
  obtain ⟨HB1, HK1⟩ := bk HB0 HK0 kb
  clear kb c0 lw
  have c0 : w1.cell? ⟨w.heap.size, 0, none⟩ = some (.int .i64 27) := blk_cell HK1.out rfl
  have lw := blk_lt HK1.out
  go_wp2_with fail
  refine (jumps_27 w1 (HG.out.below HB1.out)).mono ?_
  rintro en w2 ⟨rfl, kb⟩
  obtain ⟨HB2, HK2⟩ := bk HB1 HK1 kb
  clear kb c0 lw
  obtain ⟨c0, c1, c2, c3, c4, c5, c6, c7, lw⟩ := cl HK2
  go_wp2_with fail
  refine (HRE.out w2 (HG.out.below HB2.out)).mono ?_
  rintro en w3 ⟨rfl, kb⟩
  obtain ⟨HB3, HK3⟩ := bk HB2 HK2 kb
  clear kb c0 c1 c2 c3 c4 c5 c6 c7 lw
  obtain ⟨c0, c1, c2, c3, c4, c5, c6, c7, lw⟩ := cl HK3
  go_wp2_with fail
  go_returns
  exact ⟨rfl, HB3.out⟩
theorem show_31 (w : World) (hN : GsOk w) (hP : PowOk w) (dst src imm size cond : Int) (g : Bool) (to_ : ByteArray) (hi : In64 imm) (hR : RX 31 dst src imm size g cond to_) :
    Calls Tryz.prog 27 #[.agg #[.int .i64 31, .int .i64 dst, .int .i64 src, .int .i64 imm, .int .i64 size, .bool g, .int .i64 cond, .string to_]] w fun en w' => en = .returned (.string (⟨#[115, 101, 116]⟩ ++ cB cond ++ ⟨#[32, 37]⟩ ++ rB dst 1)) ∧ Below w.heap.size w w' := by
  have zB := rB_size dst 1
  have zD := cB_size cond
  have HR := Lib.hid hR
  clear hR
  have HRE := Lib.hid (fun W (h : GsOk W) => rest_31 W h dst src imm size cond g to_)
  have HG := Lib.hid hN
  have HPW := Lib.hid hP
  have HI := Lib.hid hi
  obtain ⟨w0, hW0, HB0, HK0⟩ := ent w (.cells #[.int .i64 31, .int .i64 dst, .int .i64 src, .int .i64 imm, .int .i64 size, .bool g, .int .i64 cond, .string to_] 23)
  clear hN hP hi
  go_enter Tryz.func27, Tryz.ntmps27
  go_wp2_with fail
  rw [← hW0]
  clear hW0
  have c0 : w0.cell? ⟨w.heap.size, 0, none⟩ = some (.int .i64 31) := blk_cell HK0.out rfl
  have lw := blk_lt HK0.out
  refine (HR.out w0).mono ?_
  rintro en w1 ⟨rfl, kb⟩
  obtain ⟨HB1, HK1⟩ := bk HB0 HK0 kb
  clear kb c0 lw
  have c0 : w1.cell? ⟨w.heap.size, 0, none⟩ = some (.int .i64 31) := blk_cell HK1.out rfl
  have lw := blk_lt HK1.out
  go_wp2_with fail
  refine (jumps_31 w1 (HG.out.below HB1.out)).mono ?_
  rintro en w2 ⟨rfl, kb⟩
  obtain ⟨HB2, HK2⟩ := bk HB1 HK1 kb
  clear kb c0 lw
  obtain ⟨c0, c1, c2, c3, c4, c5, c6, c7, lw⟩ := cl HK2
  go_wp2_with fail
  refine (HRE.out w2 (HG.out.below HB2.out)).mono ?_
  rintro en w3 ⟨rfl, kb⟩
  obtain ⟨HB3, HK3⟩ := bk HB2 HK2 kb
  clear kb c0 c1 c2 c3 c4 c5 c6 c7 lw
  obtain ⟨c0, c1, c2, c3, c4, c5, c6, c7, lw⟩ := cl HK3
  go_wp2_with fail
  go_returns
  exact ⟨rfl, HB3.out⟩
theorem show_35 (w : World) (hN : GsOk w) (hP : PowOk w) (dst src imm size cond : Int) (g : Bool) (to_ : ByteArray) (hi : In64 imm) (ht : to_.size ≤ 300) (hm : namedB to_ = true) (hR : RX 35 dst src imm size g cond to_) :
    Calls Tryz.prog 27 #[.agg #[.int .i64 35, .int .i64 dst, .int .i64 src, .int .i64 imm, .int .i64 size, .bool g, .int .i64 cond, .string to_]] w fun en w' => en = .returned (.string (⟨#[99, 97, 108, 108, 32]⟩ ++ to_)) ∧ Below w.heap.size w w' := by
  have HR := Lib.hid hR
  clear hR
  have HRE := Lib.hid (fun W (h : GsOk W) => rest_35 W h dst src imm size cond g to_ ht)
  have HT := Lib.hid (fun W => named_any W to_ (by unfold maxLen; omega))
  rw [hm] at HT
  have HG := Lib.hid hN
  have HPW := Lib.hid hP
  have HI := Lib.hid hi
  obtain ⟨w0, hW0, HB0, HK0⟩ := ent w (.cells #[.int .i64 35, .int .i64 dst, .int .i64 src, .int .i64 imm, .int .i64 size, .bool g, .int .i64 cond, .string to_] 23)
  clear hN hP hi
  go_enter Tryz.func27, Tryz.ntmps27
  go_wp2_with fail
  rw [← hW0]
  clear hW0
  have c0 : w0.cell? ⟨w.heap.size, 0, none⟩ = some (.int .i64 35) := blk_cell HK0.out rfl
  have c7 : w0.cell? ⟨w.heap.size, 7, none⟩ = some (.string to_) := blk_cell HK0.out rfl
  have lw := blk_lt HK0.out
  refine (HR.out w0).mono ?_
  rintro en w1 ⟨rfl, kb⟩
  obtain ⟨HB1, HK1⟩ := bk HB0 HK0 kb
  clear kb c0 c7 lw
  have c0 : w1.cell? ⟨w.heap.size, 0, none⟩ = some (.int .i64 35) := blk_cell HK1.out rfl
  have c7 : w1.cell? ⟨w.heap.size, 7, none⟩ = some (.string to_) := blk_cell HK1.out rfl
  have lw := blk_lt HK1.out
  go_wp2_with fail
  refine (jumps_35 w1 (HG.out.below HB1.out)).mono ?_
  rintro en w2 ⟨rfl, kb⟩
  obtain ⟨HB2, HK2⟩ := bk HB1 HK1 kb
  clear kb c0 c7 lw
  have c0 : w2.cell? ⟨w.heap.size, 0, none⟩ = some (.int .i64 35) := blk_cell HK2.out rfl
  have c7 : w2.cell? ⟨w.heap.size, 7, none⟩ = some (.string to_) := blk_cell HK2.out rfl
  have lw := blk_lt HK2.out
  go_wp2_with fail
  refine (HT.out w2).mono ?_
  rintro en w3 ⟨rfl, kb⟩
  obtain ⟨HB3, HK3⟩ := bk HB2 HK2 kb
  clear kb c0 c7 lw
  obtain ⟨c0, c1, c2, c3, c4, c5, c6, c7, lw⟩ := cl HK3
  go_wp2_with fail
  refine (HRE.out w3 (HG.out.below HB3.out)).mono ?_
  rintro en w4 ⟨rfl, kb⟩
  obtain ⟨HB4, HK4⟩ := bk HB3 HK3 kb
  clear kb c0 c1 c2 c3 c4 c5 c6 c7 lw
  obtain ⟨c0, c1, c2, c3, c4, c5, c6, c7, lw⟩ := cl HK4
  go_wp2_with fail
  go_returns
  exact ⟨rfl, HB4.out⟩
theorem show_39 (w : World) (hN : GsOk w) (hP : PowOk w) (dst src imm size cond : Int) (g : Bool) (to_ : ByteArray) (hi : In64 imm) (hR : RX 39 dst src imm size g cond to_) :
    Calls Tryz.prog 27 #[.agg #[.int .i64 39, .int .i64 dst, .int .i64 src, .int .i64 imm, .int .i64 size, .bool g, .int .i64 cond, .string to_]] w fun en w' => en = .returned (.string (⟨#[108, 102, 101, 110, 99, 101]⟩)) ∧ Below w.heap.size w w' := by
  have HR := Lib.hid hR
  clear hR
  have HRE := Lib.hid (fun W (h : GsOk W) => rest_39 W h dst src imm size cond g to_)
  have HG := Lib.hid hN
  have HPW := Lib.hid hP
  have HI := Lib.hid hi
  obtain ⟨w0, hW0, HB0, HK0⟩ := ent w (.cells #[.int .i64 39, .int .i64 dst, .int .i64 src, .int .i64 imm, .int .i64 size, .bool g, .int .i64 cond, .string to_] 23)
  clear hN hP hi
  go_enter Tryz.func27, Tryz.ntmps27
  go_wp2_with fail
  rw [← hW0]
  clear hW0
  have c0 : w0.cell? ⟨w.heap.size, 0, none⟩ = some (.int .i64 39) := blk_cell HK0.out rfl
  have lw := blk_lt HK0.out
  refine (HR.out w0).mono ?_
  rintro en w1 ⟨rfl, kb⟩
  obtain ⟨HB1, HK1⟩ := bk HB0 HK0 kb
  clear kb c0 lw
  have c0 : w1.cell? ⟨w.heap.size, 0, none⟩ = some (.int .i64 39) := blk_cell HK1.out rfl
  have lw := blk_lt HK1.out
  go_wp2_with fail
  refine (jumps_39 w1 (HG.out.below HB1.out)).mono ?_
  rintro en w2 ⟨rfl, kb⟩
  obtain ⟨HB2, HK2⟩ := bk HB1 HK1 kb
  clear kb c0 lw
  obtain ⟨c0, c1, c2, c3, c4, c5, c6, c7, lw⟩ := cl HK2
  go_wp2_with fail
  refine (HRE.out w2 (HG.out.below HB2.out)).mono ?_
  rintro en w3 ⟨rfl, kb⟩
  obtain ⟨HB3, HK3⟩ := bk HB2 HK2 kb
  clear kb c0 c1 c2 c3 c4 c5 c6 c7 lw
  obtain ⟨c0, c1, c2, c3, c4, c5, c6, c7, lw⟩ := cl HK3
  go_wp2_with fail
  go_returns
  exact ⟨rfl, HB3.out⟩
end Go.Proofs.YtmmpkkpmlaiapaaGreatDoor
