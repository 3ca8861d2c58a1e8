/- merlonref22.Show, by operations (part 2). merlonref22.Show, by operations (part 3). No condition. -/
import Derived.Test.YtmmpkkpmlaiapaaGreatDoorQg
namespace Go.Proofs.YtmmpkkpmlaiapaaGreatDoor
open Go.RowKit
set_option maxRecDepth 100000
set_option linter.unusedVariables false
set_option maxHeartbeats 8000000
theorem rshow_2l (w : World) (hN : GsOk w) (hP : PowOk w) (dst src imm size cond : Int) (g : Bool) (to_ : ByteArray) (hi : In64 imm) (hd : 0 ≤ dst ∧ dst ≤ 15) (hs : 0 ≤ src ∧ src ≤ 15) (hsm : imm < -2147483648 ∨ 2147483647 < imm) (hR : RR 2 dst src imm size g cond to_) :
    Calls Tryz.prog 7 #[.agg #[.int .i64 2, .int .i64 dst, .int .i64 src, .int .i64 imm, .int .i64 size, .bool g, .int .i64 cond, .string to_]] w fun en w' => en = .returned (.string (⟨#[109, 111, 118, 97, 98, 115, 113, 32, 36]⟩ ++ numB imm ++ ⟨#[44, 32]⟩ ++ pS dst 8)) ∧ Below w.heap.size w w' := by
  rcases hsm with hsm | hsm
  · have z1 := pS_size src 8
    have z2 := pS_size dst 8
    have z4 := numB_size hi
    have HR := Lib.hid hR
    have HD := Lib.hid hd
    have HS := Lib.hid hs
    clear hR hd hs
    have HG := Lib.hid hN
    have HPW := Lib.hid hP
    have HI := Lib.hid hi
    obtain ⟨w0, hW0, HB0, HK0⟩ := ent w (.cells #[.int .i64 2, .int .i64 dst, .int .i64 src, .int .i64 imm, .int .i64 size, .bool g, .int .i64 cond, .string to_] 26)
    clear hN hP hi
    go_enter Tryz.func7, Tryz.ntmps7
    go_wp2_with fail
    rw [← hW0]
    clear hW0
    have c0 : w0.cell? ⟨w.heap.size, 0, none⟩ = some (.int .i64 2) := blk_cell HK0.out rfl
    have lw := blk_lt HK0.out
    refine (HR.out w0).mono ?_
    rintro en w1 ⟨rfl, kb⟩
    obtain ⟨HB1, HK1⟩ := bk HB0 HK0 kb
    clear kb c0 lw
    obtain ⟨c0, c1, c2, c3, c4, c5, c6, c7, lw⟩ := cl HK1
    go_wp2_with fail
    refine wp_region_over (by kernel_rfl) (by kernel_rfl) ?_
    repeat (go_big_quiet_step ((go_at_call 18; exact calls_over (by exact Nat.le_refl _) (rr_i _ (gob HG HB1) _ _ (by first | exact HD.out | exact HS.out) (Or.inl rfl)))))
    refine wpQuiet_nil ?_
    intro w2 kb
    obtain ⟨HB2, HK2⟩ := bk HB1 HK1 kb
    clear kb c0 c1 c2 c3 c4 c5 c6 c7 lw
    obtain ⟨c0, c1, c2, c3, c4, c5, c6, c7, lw⟩ := cl HK2
    go_wp2_with fail
    refine (num_any w2 (HG.out.below HB2.out) imm HI.out).mono ?_
    rintro en w3 ⟨rfl, kb⟩
    obtain ⟨HB3, HK3⟩ := bk HB2 HK2 kb
    clear kb c0 c1 c2 c3 c4 c5 c6 c7 lw
    obtain ⟨c0, c1, c2, c3, c4, c5, c6, c7, lw⟩ := cl HK3
    go_wp2_with fail
    go_returns
    exact ⟨rfl, HB3.out⟩
  · have hsm2 : ¬ imm < -2147483648 := by omega
    have hsm3 : decide (imm < -2147483648) = false := decide_eq_false hsm2
    have z1 := pS_size src 8
    have z2 := pS_size dst 8
    have z4 := numB_size hi
    have HR := Lib.hid hR
    have HD := Lib.hid hd
    have HS := Lib.hid hs
    clear hR hd hs
    have HG := Lib.hid hN
    have HPW := Lib.hid hP
    have HI := Lib.hid hi
    obtain ⟨w0, hW0, HB0, HK0⟩ := ent w (.cells #[.int .i64 2, .int .i64 dst, .int .i64 src, .int .i64 imm, .int .i64 size, .bool g, .int .i64 cond, .string to_] 26)
    clear hN hP hi
    go_enter Tryz.func7, Tryz.ntmps7
    go_wp2_with fail
    rw [← hW0]
    clear hW0
    have c0 : w0.cell? ⟨w.heap.size, 0, none⟩ = some (.int .i64 2) := blk_cell HK0.out rfl
    have lw := blk_lt HK0.out
    refine (HR.out w0).mono ?_
    rintro en w1 ⟨rfl, kb⟩
    obtain ⟨HB1, HK1⟩ := bk HB0 HK0 kb
    clear kb c0 lw
    obtain ⟨c0, c1, c2, c3, c4, c5, c6, c7, lw⟩ := cl HK1
    go_wp2_with fail
    refine wp_region_over (by kernel_rfl) (by kernel_rfl) ?_
    repeat (go_big_quiet_step (first | (go_at_call 18; exact calls_over (by exact Nat.le_refl _) (rr_i _ (gob HG HB1) _ _ (by first | exact HD.out | exact HS.out) (Or.inl rfl))) | (go_at_call 19; exact calls_over (by exact Nat.le_refl _) (num_any _ (gob HG HB1) _ HI.out))))
    refine wpQuiet_nil ?_
    intro w2 kb
    obtain ⟨HB2, HK2⟩ := bk HB1 HK1 kb
    clear kb c0 c1 c2 c3 c4 c5 c6 c7 lw
    obtain ⟨c0, c1, c2, c3, c4, c5, c6, c7, lw⟩ := cl HK2
    go_wp2_with fail
    refine (num_any w2 (HG.out.below HB2.out) imm HI.out).mono ?_
    rintro en w3 ⟨rfl, kb⟩
    obtain ⟨HB3, HK3⟩ := bk HB2 HK2 kb
    clear kb c0 c1 c2 c3 c4 c5 c6 c7 lw
    obtain ⟨c0, c1, c2, c3, c4, c5, c6, c7, lw⟩ := cl HK3
    go_wp2_with fail
    go_returns
    exact ⟨rfl, HB3.out⟩
theorem rshow_6 (w : World) (hN : GsOk w) (hP : PowOk w) (dst src imm size cond : Int) (g : Bool) (to_ : ByteArray) (hi : In64 imm) (hd : 0 ≤ dst ∧ dst ≤ 15) (hs : 0 ≤ src ∧ src ≤ 15) (ht : to_.size ≤ 300) (hm : namedB to_ = true) (hR : RR 6 dst src imm size g cond to_) :
    Calls Tryz.prog 7 #[.agg #[.int .i64 6, .int .i64 dst, .int .i64 src, .int .i64 imm, .int .i64 size, .bool g, .int .i64 cond, .string to_]] w fun en w' => en = .returned (.string (⟨#[108, 101, 97, 113, 32]⟩ ++ to_ ++ ⟨#[40, 37, 114, 105, 112, 41, 44, 32]⟩ ++ pS dst 8)) ∧ Below w.heap.size w w' := by
  have z1 := pS_size src 8
  have z2 := pS_size dst 8
  have HR := Lib.hid hR
  have HD := Lib.hid hd
  have HS := Lib.hid hs
  clear hR hd hs
  have HT := Lib.hid (fun W => rnamed_any W to_ (by unfold maxLen; omega))
  rw [hm] at HT
  have HG := Lib.hid hN
  have HPW := Lib.hid hP
  have HI := Lib.hid hi
  obtain ⟨w0, hW0, HB0, HK0⟩ := ent w (.cells #[.int .i64 6, .int .i64 dst, .int .i64 src, .int .i64 imm, .int .i64 size, .bool g, .int .i64 cond, .string to_] 26)
  clear hN hP hi
  go_enter Tryz.func7, Tryz.ntmps7
  go_wp2_with fail
  rw [← hW0]
  clear hW0
  have c0 : w0.cell? ⟨w.heap.size, 0, none⟩ = some (.int .i64 6) := blk_cell HK0.out rfl
  have c7 : w0.cell? ⟨w.heap.size, 7, none⟩ = some (.string to_) := blk_cell HK0.out rfl
  have lw := blk_lt HK0.out
  refine (HR.out w0).mono ?_
  rintro en w1 ⟨rfl, kb⟩
  obtain ⟨HB1, HK1⟩ := bk HB0 HK0 kb
  clear kb c0 c7 lw
  have c0 : w1.cell? ⟨w.heap.size, 0, none⟩ = some (.int .i64 6) := blk_cell HK1.out rfl
  have c7 : w1.cell? ⟨w.heap.size, 7, none⟩ = some (.string to_) := blk_cell HK1.out rfl
  have lw := blk_lt HK1.out
  go_wp2_with fail
  refine (HT.out w1).mono ?_
  rintro en w2 ⟨rfl, kb⟩
  obtain ⟨HB2, HK2⟩ := bk HB1 HK1 kb
  clear kb c0 c7 lw
  obtain ⟨c0, c1, c2, c3, c4, c5, c6, c7, lw⟩ := cl HK2
  go_wp2_with fail
  refine wp_region_over (by kernel_rfl) (by kernel_rfl) ?_
  repeat (go_big_quiet_step ((go_at_call 18; exact calls_over (by exact Nat.le_refl _) (rr_i _ (gob HG HB2) _ _ (by first | exact HD.out | exact HS.out) (Or.inl rfl)))))
  refine wpQuiet_nil ?_
  intro w3 kb
  obtain ⟨HB3, HK3⟩ := bk HB2 HK2 kb
  clear kb c0 c1 c2 c3 c4 c5 c6 c7 lw
  obtain ⟨c0, c1, c2, c3, c4, c5, c6, c7, lw⟩ := cl HK3
  go_wp2_with fail
  go_returns
  exact ⟨rfl, HB3.out⟩
theorem rshow_10 (w : World) (hN : GsOk w) (hP : PowOk w) (dst src imm size cond : Int) (g : Bool) (to_ : ByteArray) (hi : In64 imm) (hd : 0 ≤ dst ∧ dst ≤ 15) (hs : 0 ≤ src ∧ src ≤ 15) (hR : RR 10 dst src imm size g cond to_) :
    Calls Tryz.prog 7 #[.agg #[.int .i64 10, .int .i64 dst, .int .i64 src, .int .i64 imm, .int .i64 size, .bool g, .int .i64 cond, .string to_]] w fun en w' => en = .returned (.string (⟨#[111, 114, 113]⟩ ++ ⟨#[32]⟩ ++ pS src 8 ++ ⟨#[44, 32]⟩ ++ pS dst 8)) ∧ Below w.heap.size w w' := by
  have z1 := pS_size src 8
  have z2 := pS_size dst 8
  have HR := Lib.hid hR
  have HD := Lib.hid hd
  have HS := Lib.hid hs
  clear hR hd hs
  have HOP := Lib.hid (fun W (h : GsOk W) => name_10 W h)
  have HG := Lib.hid hN
  have HPW := Lib.hid hP
  have HI := Lib.hid hi
  obtain ⟨w0, hW0, HB0, HK0⟩ := ent w (.cells #[.int .i64 10, .int .i64 dst, .int .i64 src, .int .i64 imm, .int .i64 size, .bool g, .int .i64 cond, .string to_] 26)
  clear hN hP hi
  go_enter Tryz.func7, Tryz.ntmps7
  go_wp2_with fail
  rw [← hW0]
  clear hW0
  have c0 : w0.cell? ⟨w.heap.size, 0, none⟩ = some (.int .i64 10) := blk_cell HK0.out rfl
  have lw := blk_lt HK0.out
  refine (HR.out w0).mono ?_
  rintro en w1 ⟨rfl, kb⟩
  obtain ⟨HB1, HK1⟩ := bk HB0 HK0 kb
  clear kb c0 lw
  obtain ⟨c0, c1, c2, c3, c4, c5, c6, c7, lw⟩ := cl HK1
  go_wp2_with fail
  refine wp_region_over (by kernel_rfl) (by kernel_rfl) ?_
  repeat (go_big_quiet_step ((go_at_call 18; exact calls_over (by exact Nat.le_refl _) (rr_i _ (gob HG HB1) _ _ (by first | exact HD.out | exact HS.out) (Or.inl rfl)))))
  refine wpQuiet_nil ?_
  intro w2 kb
  obtain ⟨HB2, HK2⟩ := bk HB1 HK1 kb
  clear kb c0 c1 c2 c3 c4 c5 c6 c7 lw
  obtain ⟨c0, c1, c2, c3, c4, c5, c6, c7, lw⟩ := cl HK2
  go_wp2_with fail
  refine (HOP.out w2 (HG.out.below HB2.out)).mono ?_
  rintro en w3 ⟨rfl, kb⟩
  obtain ⟨HB3, HK3⟩ := bk HB2 HK2 kb
  clear kb c0 c1 c2 c3 c4 c5 c6 c7 lw
  obtain ⟨c0, c1, c2, c3, c4, c5, c6, c7, lw⟩ := cl HK3
  go_wp2_with fail
  go_returns
  exact ⟨rfl, HB3.out⟩
theorem rshow_14 (w : World) (hN : GsOk w) (hP : PowOk w) (dst src imm size cond : Int) (g : Bool) (to_ : ByteArray) (hi : In64 imm) (hd : 0 ≤ dst ∧ dst ≤ 15) (hs : 0 ≤ src ∧ src ≤ 15) (hR : RR 14 dst src imm size g cond to_) :
    Calls Tryz.prog 7 #[.agg #[.int .i64 14, .int .i64 dst, .int .i64 src, .int .i64 imm, .int .i64 size, .bool g, .int .i64 cond, .string to_]] w fun en w' => en = .returned (.string (⟨#[97, 100, 100, 113]⟩ ++ ⟨#[32, 36]⟩ ++ numB imm ++ ⟨#[44, 32]⟩ ++ pS dst 8)) ∧ Below w.heap.size w w' := by
  have z1 := pS_size src 8
  have z2 := pS_size dst 8
  have z4 := numB_size hi
  have HR := Lib.hid hR
  have HD := Lib.hid hd
  have HS := Lib.hid hs
  clear hR hd hs
  have HOP := Lib.hid (fun W (h : GsOk W) => name_14 W h)
  have HG := Lib.hid hN
  have HPW := Lib.hid hP
  have HI := Lib.hid hi
  obtain ⟨w0, hW0, HB0, HK0⟩ := ent w (.cells #[.int .i64 14, .int .i64 dst, .int .i64 src, .int .i64 imm, .int .i64 size, .bool g, .int .i64 cond, .string to_] 26)
  clear hN hP hi
  go_enter Tryz.func7, Tryz.ntmps7
  go_wp2_with fail
  rw [← hW0]
  clear hW0
  have c0 : w0.cell? ⟨w.heap.size, 0, none⟩ = some (.int .i64 14) := blk_cell HK0.out rfl
  have lw := blk_lt HK0.out
  refine (HR.out w0).mono ?_
  rintro en w1 ⟨rfl, kb⟩
  obtain ⟨HB1, HK1⟩ := bk HB0 HK0 kb
  clear kb c0 lw
  obtain ⟨c0, c1, c2, c3, c4, c5, c6, c7, lw⟩ := cl HK1
  go_wp2_with fail
  refine wp_region_over (by kernel_rfl) (by kernel_rfl) ?_
  repeat (go_big_quiet_step ((go_at_call 18; exact calls_over (by exact Nat.le_refl _) (rr_i _ (gob HG HB1) _ _ (by first | exact HD.out | exact HS.out) (Or.inl rfl)))))
  refine wpQuiet_nil ?_
  intro w2 kb
  obtain ⟨HB2, HK2⟩ := bk HB1 HK1 kb
  clear kb c0 c1 c2 c3 c4 c5 c6 c7 lw
  obtain ⟨c0, c1, c2, c3, c4, c5, c6, c7, lw⟩ := cl HK2
  go_wp2_with fail
  refine wp_region_over (by kernel_rfl) (by kernel_rfl) ?_
  repeat (go_big_quiet_step (first | (go_at_call 18; exact calls_over (by exact Nat.le_refl _) (rr_i _ (gob HG HB2) _ _ (by first | exact HD.out | exact HS.out) (Or.inl rfl))) | (go_at_call 19; exact calls_over (by exact Nat.le_refl _) (num_any _ (gob HG HB2) _ HI.out)) | (go_at_call 23; exact calls_over (by exact Nat.le_refl _) (HOP.out _ (gob HG HB2)))))
  refine wpQuiet_nil ?_
  intro w3 kb
  obtain ⟨HB3, HK3⟩ := bk HB2 HK2 kb
  clear kb c0 c1 c2 c3 c4 c5 c6 c7 lw
  obtain ⟨c0, c1, c2, c3, c4, c5, c6, c7, lw⟩ := cl HK3
  go_wp2_with fail
  go_returns
  exact ⟨rfl, HB3.out⟩
theorem rshow_18 (w : World) (hN : GsOk w) (hP : PowOk w) (dst src imm size cond : Int) (g : Bool) (to_ : ByteArray) (hi : In64 imm) (hd : 0 ≤ dst ∧ dst ≤ 15) (hs : 0 ≤ src ∧ src ≤ 15) (hR : RR 18 dst src imm size g cond to_) :
    Calls Tryz.prog 7 #[.agg #[.int .i64 18, .int .i64 dst, .int .i64 src, .int .i64 imm, .int .i64 size, .bool g, .int .i64 cond, .string to_]] w fun en w' => en = .returned (.string (⟨#[120, 111, 114, 113]⟩ ++ ⟨#[32, 36]⟩ ++ numB imm ++ ⟨#[44, 32]⟩ ++ pS dst 8)) ∧ Below w.heap.size w w' := by
  have z1 := pS_size src 8
  have z2 := pS_size dst 8
  have z4 := numB_size hi
  have HR := Lib.hid hR
  have HD := Lib.hid hd
  have HS := Lib.hid hs
  clear hR hd hs
  have HOP := Lib.hid (fun W (h : GsOk W) => name_18 W h)
  have HG := Lib.hid hN
  have HPW := Lib.hid hP
  have HI := Lib.hid hi
  obtain ⟨w0, hW0, HB0, HK0⟩ := ent w (.cells #[.int .i64 18, .int .i64 dst, .int .i64 src, .int .i64 imm, .int .i64 size, .bool g, .int .i64 cond, .string to_] 26)
  clear hN hP hi
  go_enter Tryz.func7, Tryz.ntmps7
  go_wp2_with fail
  rw [← hW0]
  clear hW0
  have c0 : w0.cell? ⟨w.heap.size, 0, none⟩ = some (.int .i64 18) := blk_cell HK0.out rfl
  have lw := blk_lt HK0.out
  refine (HR.out w0).mono ?_
  rintro en w1 ⟨rfl, kb⟩
  obtain ⟨HB1, HK1⟩ := bk HB0 HK0 kb
  clear kb c0 lw
  obtain ⟨c0, c1, c2, c3, c4, c5, c6, c7, lw⟩ := cl HK1
  go_wp2_with fail
  refine wp_region_over (by kernel_rfl) (by kernel_rfl) ?_
  repeat (go_big_quiet_step ((go_at_call 18; exact calls_over (by exact Nat.le_refl _) (rr_i _ (gob HG HB1) _ _ (by first | exact HD.out | exact HS.out) (Or.inl rfl)))))
  refine wpQuiet_nil ?_
  intro w2 kb
  obtain ⟨HB2, HK2⟩ := bk HB1 HK1 kb
  clear kb c0 c1 c2 c3 c4 c5 c6 c7 lw
  obtain ⟨c0, c1, c2, c3, c4, c5, c6, c7, lw⟩ := cl HK2
  go_wp2_with fail
  refine wp_region_over (by kernel_rfl) (by kernel_rfl) ?_
  repeat (go_big_quiet_step (first | (go_at_call 18; exact calls_over (by exact Nat.le_refl _) (rr_i _ (gob HG HB2) _ _ (by first | exact HD.out | exact HS.out) (Or.inl rfl))) | (go_at_call 19; exact calls_over (by exact Nat.le_refl _) (num_any _ (gob HG HB2) _ HI.out)) | (go_at_call 23; exact calls_over (by exact Nat.le_refl _) (HOP.out _ (gob HG HB2)))))
  refine wpQuiet_nil ?_
  intro w3 kb
  obtain ⟨HB3, HK3⟩ := bk HB2 HK2 kb
  clear kb c0 c1 c2 c3 c4 c5 c6 c7 lw
  obtain ⟨c0, c1, c2, c3, c4, c5, c6, c7, lw⟩ := cl HK3
  go_wp2_with fail
  go_returns
  exact ⟨rfl, HB3.out⟩
theorem rshow_22 (w : World) (hN : GsOk w) (hP : PowOk w) (dst src imm size cond : Int) (g : Bool) (to_ : ByteArray) (hi : In64 imm) (hd : 0 ≤ dst ∧ dst ≤ 15) (hs : 0 ≤ src ∧ src ≤ 15) (hR : RR 22 dst src imm size g cond to_) :
    Calls Tryz.prog 7 #[.agg #[.int .i64 22, .int .i64 dst, .int .i64 src, .int .i64 imm, .int .i64 size, .bool g, .int .i64 cond, .string to_]] w fun en w' => en = .returned (.string (⟨#[115, 97, 114, 113]⟩ ++ ⟨#[32, 37, 99, 108, 44, 32]⟩ ++ pS dst 8)) ∧ Below w.heap.size w w' := by
  have z1 := pS_size src 8
  have z2 := pS_size dst 8
  have HR := Lib.hid hR
  have HD := Lib.hid hd
  have HS := Lib.hid hs
  clear hR hd hs
  have HOP := Lib.hid (fun W (h : GsOk W) => name_22 W h)
  have HG := Lib.hid hN
  have HPW := Lib.hid hP
  have HI := Lib.hid hi
  obtain ⟨w0, hW0, HB0, HK0⟩ := ent w (.cells #[.int .i64 22, .int .i64 dst, .int .i64 src, .int .i64 imm, .int .i64 size, .bool g, .int .i64 cond, .string to_] 26)
  clear hN hP hi
  go_enter Tryz.func7, Tryz.ntmps7
  go_wp2_with fail
  rw [← hW0]
  clear hW0
  have c0 : w0.cell? ⟨w.heap.size, 0, none⟩ = some (.int .i64 22) := blk_cell HK0.out rfl
  have lw := blk_lt HK0.out
  refine (HR.out w0).mono ?_
  rintro en w1 ⟨rfl, kb⟩
  obtain ⟨HB1, HK1⟩ := bk HB0 HK0 kb
  clear kb c0 lw
  obtain ⟨c0, c1, c2, c3, c4, c5, c6, c7, lw⟩ := cl HK1
  go_wp2_with fail
  refine wp_region_over (by kernel_rfl) (by kernel_rfl) ?_
  repeat (go_big_quiet_step ((go_at_call 18; exact calls_over (by exact Nat.le_refl _) (rr_i _ (gob HG HB1) _ _ (by first | exact HD.out | exact HS.out) (Or.inl rfl)))))
  refine wpQuiet_nil ?_
  intro w2 kb
  obtain ⟨HB2, HK2⟩ := bk HB1 HK1 kb
  clear kb c0 c1 c2 c3 c4 c5 c6 c7 lw
  obtain ⟨c0, c1, c2, c3, c4, c5, c6, c7, lw⟩ := cl HK2
  go_wp2_with fail
  refine (HOP.out w2 (HG.out.below HB2.out)).mono ?_
  rintro en w3 ⟨rfl, kb⟩
  obtain ⟨HB3, HK3⟩ := bk HB2 HK2 kb
  clear kb c0 c1 c2 c3 c4 c5 c6 c7 lw
  obtain ⟨c0, c1, c2, c3, c4, c5, c6, c7, lw⟩ := cl HK3
  go_wp2_with fail
  go_returns
  exact ⟨rfl, HB3.out⟩
theorem rshow_26 (w : World) (hN : GsOk w) (hP : PowOk w) (dst src imm size cond : Int) (g : Bool) (to_ : ByteArray) (hi : In64 imm) (hd : 0 ≤ dst ∧ dst ≤ 15) (hs : 0 ≤ src ∧ src ≤ 15) (hR : RR 26 dst src imm size g cond to_) :
    Calls Tryz.prog 7 #[.agg #[.int .i64 26, .int .i64 dst, .int .i64 src, .int .i64 imm, .int .i64 size, .bool g, .int .i64 cond, .string to_]] w fun en w' => en = .returned (.string (⟨#[115, 104, 114, 113]⟩ ++ ⟨#[32, 36]⟩ ++ numB imm ++ ⟨#[44, 32]⟩ ++ pS dst 8)) ∧ Below w.heap.size w w' := by
  have z1 := pS_size src 8
  have z2 := pS_size dst 8
  have z4 := numB_size hi
  have HR := Lib.hid hR
  have HD := Lib.hid hd
  have HS := Lib.hid hs
  clear hR hd hs
  have HOP := Lib.hid (fun W (h : GsOk W) => name_26 W h)
  have HG := Lib.hid hN
  have HPW := Lib.hid hP
  have HI := Lib.hid hi
  obtain ⟨w0, hW0, HB0, HK0⟩ := ent w (.cells #[.int .i64 26, .int .i64 dst, .int .i64 src, .int .i64 imm, .int .i64 size, .bool g, .int .i64 cond, .string to_] 26)
  clear hN hP hi
  go_enter Tryz.func7, Tryz.ntmps7
  go_wp2_with fail
  rw [← hW0]
  clear hW0
  have c0 : w0.cell? ⟨w.heap.size, 0, none⟩ = some (.int .i64 26) := blk_cell HK0.out rfl
  have lw := blk_lt HK0.out
  refine (HR.out w0).mono ?_
  rintro en w1 ⟨rfl, kb⟩
  obtain ⟨HB1, HK1⟩ := bk HB0 HK0 kb
  clear kb c0 lw
  obtain ⟨c0, c1, c2, c3, c4, c5, c6, c7, lw⟩ := cl HK1
  go_wp2_with fail
  refine wp_region_over (by kernel_rfl) (by kernel_rfl) ?_
  repeat (go_big_quiet_step ((go_at_call 18; exact calls_over (by exact Nat.le_refl _) (rr_i _ (gob HG HB1) _ _ (by first | exact HD.out | exact HS.out) (Or.inl rfl)))))
  refine wpQuiet_nil ?_
  intro w2 kb
  obtain ⟨HB2, HK2⟩ := bk HB1 HK1 kb
  clear kb c0 c1 c2 c3 c4 c5 c6 c7 lw
  obtain ⟨c0, c1, c2, c3, c4, c5, c6, c7, lw⟩ := cl HK2
  go_wp2_with fail
  refine wp_region_over (by kernel_rfl) (by kernel_rfl) ?_
  repeat (go_big_quiet_step (first | (go_at_call 18; exact calls_over (by exact Nat.le_refl _) (rr_i _ (gob HG HB2) _ _ (by first | exact HD.out | exact HS.out) (Or.inl rfl))) | (go_at_call 19; exact calls_over (by exact Nat.le_refl _) (num_any _ (gob HG HB2) _ HI.out)) | (go_at_call 23; exact calls_over (by exact Nat.le_refl _) (HOP.out _ (gob HG HB2)))))
  refine wpQuiet_nil ?_
  intro w3 kb
  obtain ⟨HB3, HK3⟩ := bk HB2 HK2 kb
  clear kb c0 c1 c2 c3 c4 c5 c6 c7 lw
  obtain ⟨c0, c1, c2, c3, c4, c5, c6, c7, lw⟩ := cl HK3
  go_wp2_with fail
  go_returns
  exact ⟨rfl, HB3.out⟩
theorem rshow_30 (w : World) (hN : GsOk w) (hP : PowOk w) (dst src imm size cond : Int) (g : Bool) (to_ : ByteArray) (hi : In64 imm) (hd : 0 ≤ dst ∧ dst ≤ 15) (hs : 0 ≤ src ∧ src ≤ 15) (k : Nat) (hk : k < 4) (hsz : size = ((2 ^ k : Nat) : Int)) (hR : RR 30 dst src imm size g cond to_) :
    Calls Tryz.prog 7 #[.agg #[.int .i64 30, .int .i64 dst, .int .i64 src, .int .i64 imm, .int .i64 size, .bool g, .int .i64 cond, .string to_]] w fun en w' => en = .returned (.string (mvB k g ++ ⟨#[32]⟩ ++ pS src size ++ ⟨#[44, 32]⟩ ++ pS dst (mvN k g))) ∧ Below w.heap.size w w' := by
  have z1 := pS_size src 8
  have z2 := pS_size dst 8
  have z8 := pS_size dst (mvN k g)
  have zA := pS_size src size
  have zE := mvB_size k g
  have HR := Lib.hid hR
  have HD := Lib.hid hd
  have HS := Lib.hid hs
  clear hR hd hs
  have HMV := Lib.hid (fun W (h : GsOk W) => (show Calls Tryz.prog 20 #[.int .i64 size, .bool g] W fun e w' => e = .returned (.tuple #[.string (mvB k g), .int .i64 (mvN k g)]) ∧ Below W.heap.size W w' by rw [hsz]; exact wide_b W h k g hk))
  have HN4 := Lib.hid (mvN_cases k g)
  have HZ4 := Lib.hid (size_cases k hk hsz)
  clear hsz
  have HG := Lib.hid hN
  have HPW := Lib.hid hP
  have HI := Lib.hid hi
  obtain ⟨w0, hW0, HB0, HK0⟩ := ent w (.cells #[.int .i64 30, .int .i64 dst, .int .i64 src, .int .i64 imm, .int .i64 size, .bool g, .int .i64 cond, .string to_] 26)
  clear hN hP hi
  go_enter Tryz.func7, Tryz.ntmps7
  go_wp2_with fail
  rw [← hW0]
  clear hW0
  have c0 : w0.cell? ⟨w.heap.size, 0, none⟩ = some (.int .i64 30) := blk_cell HK0.out rfl
  have lw := blk_lt HK0.out
  refine (HR.out w0).mono ?_
  rintro en w1 ⟨rfl, kb⟩
  obtain ⟨HB1, HK1⟩ := bk HB0 HK0 kb
  clear kb c0 lw
  obtain ⟨c0, c1, c2, c3, c4, c5, c6, c7, lw⟩ := cl HK1
  go_wp2_with fail
  refine wp_region_over (by kernel_rfl) (by kernel_rfl) ?_
  repeat (go_big_quiet_step ((go_at_call 18; exact calls_over (by exact Nat.le_refl _) (rr_i _ (gob HG HB1) _ _ (by first | exact HD.out | exact HS.out) (by first | exact Or.inl rfl | exact HZ4.out | exact HN4.out)))))
  refine wpQuiet_nil ?_
  intro w2 kb
  obtain ⟨HB2, HK2⟩ := bk HB1 HK1 kb
  clear kb c0 c1 c2 c3 c4 c5 c6 c7 lw
  obtain ⟨c0, c1, c2, c3, c4, c5, c6, c7, lw⟩ := cl HK2
  go_wp2_with fail
  refine (HMV.out w2 (HG.out.below HB2.out)).mono ?_
  rintro en w3 ⟨rfl, kb⟩
  obtain ⟨HB3, HK3⟩ := bk HB2 HK2 kb
  clear kb c0 c1 c2 c3 c4 c5 c6 c7 lw
  obtain ⟨c0, c1, c2, c3, c4, c5, c6, c7, lw⟩ := cl HK3
  go_wp2_with fail
  refine wp_region_over (by kernel_rfl) (by kernel_rfl) ?_
  repeat (go_big_quiet_step ((go_at_call 18; exact calls_over (by exact Nat.le_refl _) (rr_i _ (gob HG HB3) _ _ (by first | exact HD.out | exact HS.out) (by first | exact Or.inl rfl | exact HZ4.out | exact HN4.out)))))
  refine wpQuiet_nil ?_
  intro w4 kb
  obtain ⟨HB4, HK4⟩ := bk HB3 HK3 kb
  clear kb c0 c1 c2 c3 c4 c5 c6 c7 lw
  obtain ⟨c0, c1, c2, c3, c4, c5, c6, c7, lw⟩ := cl HK4
  go_wp2_with fail
  go_returns
  exact ⟨rfl, HB4.out⟩
theorem rshow_34 (w : World) (hN : GsOk w) (hP : PowOk w) (dst src imm size cond : Int) (g : Bool) (to_ : ByteArray) (hi : In64 imm) (hd : 0 ≤ dst ∧ dst ≤ 15) (hs : 0 ≤ src ∧ src ≤ 15) (hc : 0 ≤ cond ∧ cond ≤ 9) (ht : to_.size ≤ 300) (hm : namedB to_ = true) (hR : RR 34 dst src imm size g cond to_) :
    Calls Tryz.prog 7 #[.agg #[.int .i64 34, .int .i64 dst, .int .i64 src, .int .i64 imm, .int .i64 size, .bool g, .int .i64 cond, .string to_]] w fun en w' => en = .returned (.string (⟨#[106]⟩ ++ cB cond ++ ⟨#[32]⟩ ++ to_)) ∧ Below w.heap.size w w' := by
  have z1 := pS_size src 8
  have z2 := pS_size dst 8
  have zD := cB_size cond
  have HR := Lib.hid hR
  have HD := Lib.hid hd
  have HS := Lib.hid hs
  clear hR hd hs
  have HC := Lib.hid hc
  clear hc
  have HT := Lib.hid (fun W => rnamed_any W to_ (by unfold maxLen; omega))
  rw [hm] at HT
  have HG := Lib.hid hN
  have HPW := Lib.hid hP
  have HI := Lib.hid hi
  obtain ⟨w0, hW0, HB0, HK0⟩ := ent w (.cells #[.int .i64 34, .int .i64 dst, .int .i64 src, .int .i64 imm, .int .i64 size, .bool g, .int .i64 cond, .string to_] 26)
  clear hN hP hi
  go_enter Tryz.func7, Tryz.ntmps7
  go_wp2_with fail
  rw [← hW0]
  clear hW0
  have c0 : w0.cell? ⟨w.heap.size, 0, none⟩ = some (.int .i64 34) := blk_cell HK0.out rfl
  have c7 : w0.cell? ⟨w.heap.size, 7, none⟩ = some (.string to_) := blk_cell HK0.out rfl
  have lw := blk_lt HK0.out
  refine (HR.out w0).mono ?_
  rintro en w1 ⟨rfl, kb⟩
  obtain ⟨HB1, HK1⟩ := bk HB0 HK0 kb
  clear kb c0 c7 lw
  have c0 : w1.cell? ⟨w.heap.size, 0, none⟩ = some (.int .i64 34) := blk_cell HK1.out rfl
  have c7 : w1.cell? ⟨w.heap.size, 7, none⟩ = some (.string to_) := blk_cell HK1.out rfl
  have lw := blk_lt HK1.out
  go_wp2_with fail
  refine (HT.out w1).mono ?_
  rintro en w2 ⟨rfl, kb⟩
  obtain ⟨HB2, HK2⟩ := bk HB1 HK1 kb
  clear kb c0 c7 lw
  obtain ⟨c0, c1, c2, c3, c4, c5, c6, c7, lw⟩ := cl HK2
  go_wp2_with fail
  refine wp_region_over (by kernel_rfl) (by kernel_rfl) ?_
  repeat (go_big_quiet_step ((go_at_call 18; exact calls_over (by exact Nat.le_refl _) (rr_i _ (gob HG HB2) _ _ (by first | exact HD.out | exact HS.out) (Or.inl rfl)))))
  refine wpQuiet_nil ?_
  intro w3 kb
  obtain ⟨HB3, HK3⟩ := bk HB2 HK2 kb
  clear kb c0 c1 c2 c3 c4 c5 c6 c7 lw
  obtain ⟨c0, c1, c2, c3, c4, c5, c6, c7, lw⟩ := cl HK3
  go_wp2_with fail
  refine wp_region_over (by kernel_rfl) (by kernel_rfl) ?_
  repeat (go_big_quiet_step (first | (go_at_call 18; exact calls_over (by exact Nat.le_refl _) (rr_i _ (gob HG HB3) _ _ (by first | exact HD.out | exact HS.out) (Or.inl rfl))) | (go_at_call 22; exact calls_over (by exact Nat.le_refl _) (rcond_b _ (gob HG HB3) _ HC.out))))
  refine wpQuiet_nil ?_
  intro w4 kb
  obtain ⟨HB4, HK4⟩ := bk HB3 HK3 kb
  clear kb c0 c1 c2 c3 c4 c5 c6 c7 lw
  obtain ⟨c0, c1, c2, c3, c4, c5, c6, c7, lw⟩ := cl HK4
  go_wp2_with fail
  go_returns
  exact ⟨rfl, HB4.out⟩
theorem rshow_38 (w : World) (hN : GsOk w) (hP : PowOk w) (dst src imm size cond : Int) (g : Bool) (to_ : ByteArray) (hi : In64 imm) (hd : 0 ≤ dst ∧ dst ≤ 15) (hs : 0 ≤ src ∧ src ≤ 15) (hR : RR 38 dst src imm size g cond to_) :
    Calls Tryz.prog 7 #[.agg #[.int .i64 38, .int .i64 dst, .int .i64 src, .int .i64 imm, .int .i64 size, .bool g, .int .i64 cond, .string to_]] w fun en w' => en = .returned (.string (⟨#[114, 101, 116]⟩)) ∧ Below w.heap.size w w' := by
  have z1 := pS_size src 8
  have z2 := pS_size dst 8
  have HR := Lib.hid hR
  have HD := Lib.hid hd
  have HS := Lib.hid hs
  clear hR hd hs
  have HOP := Lib.hid (fun W (h : GsOk W) => name_38 W h)
  have HG := Lib.hid hN
  have HPW := Lib.hid hP
  have HI := Lib.hid hi
  obtain ⟨w0, hW0, HB0, HK0⟩ := ent w (.cells #[.int .i64 38, .int .i64 dst, .int .i64 src, .int .i64 imm, .int .i64 size, .bool g, .int .i64 cond, .string to_] 26)
  clear hN hP hi
  go_enter Tryz.func7, Tryz.ntmps7
  go_wp2_with fail
  rw [← hW0]
  clear hW0
  have c0 : w0.cell? ⟨w.heap.size, 0, none⟩ = some (.int .i64 38) := blk_cell HK0.out rfl
  have lw := blk_lt HK0.out
  refine (HR.out w0).mono ?_
  rintro en w1 ⟨rfl, kb⟩
  obtain ⟨HB1, HK1⟩ := bk HB0 HK0 kb
  clear kb c0 lw
  obtain ⟨c0, c1, c2, c3, c4, c5, c6, c7, lw⟩ := cl HK1
  go_wp2_with fail
  refine wp_region_over (by kernel_rfl) (by kernel_rfl) ?_
  repeat (go_big_quiet_step ((go_at_call 18; exact calls_over (by exact Nat.le_refl _) (rr_i _ (gob HG HB1) _ _ (by first | exact HD.out | exact HS.out) (Or.inl rfl)))))
  refine wpQuiet_nil ?_
  intro w2 kb
  obtain ⟨HB2, HK2⟩ := bk HB1 HK1 kb
  clear kb c0 c1 c2 c3 c4 c5 c6 c7 lw
  obtain ⟨c0, c1, c2, c3, c4, c5, c6, c7, lw⟩ := cl HK2
  go_wp2_with fail
  refine (HOP.out w2 (HG.out.below HB2.out)).mono ?_
  rintro en w3 ⟨rfl, kb⟩
  obtain ⟨HB3, HK3⟩ := bk HB2 HK2 kb
  clear kb c0 c1 c2 c3 c4 c5 c6 c7 lw
  obtain ⟨c0, c1, c2, c3, c4, c5, c6, c7, lw⟩ := cl HK3
  go_wp2_with fail
  go_returns
  exact ⟨rfl, HB3.out⟩
end Go.Proofs.YtmmpkkpmlaiapaaGreatDoor
namespace Go.Proofs.YtmmpkkpmlaiapaaGreatDoor
open Go.RowKit
set_option maxRecDepth 100000
set_option linter.unusedVariables false
set_option maxHeartbeats 8000000
theorem rshow_3 (w : World) (hN : GsOk w) (hP : PowOk w) (dst src imm size cond : Int) (g : Bool) (to_ : ByteArray) (hi : In64 imm) (hd : 0 ≤ dst ∧ dst ≤ 15) (hs : 0 ≤ src ∧ src ≤ 15) (k : Nat) (hk : k < 4) (hsz : size = ((2 ^ k : Nat) : Int)) (hR : RR 3 dst src imm size g cond to_) :
    Calls Tryz.prog 7 #[.agg #[.int .i64 3, .int .i64 dst, .int .i64 src, .int .i64 imm, .int .i64 size, .bool g, .int .i64 cond, .string to_]] w fun en w' => en = .returned (.string (mvB k g ++ ⟨#[32]⟩ ++ atB src imm ++ ⟨#[44, 32]⟩ ++ pS dst (mvN k g))) ∧ Below w.heap.size w w' := by
  have z1 := pS_size src 8
  have z2 := pS_size dst 8
  have z5 := atB_size src hi
  have z8 := pS_size dst (mvN k g)
  have zE := mvB_size k g
  have HR := Lib.hid hR
  have HD := Lib.hid hd
  have HS := Lib.hid hs
  clear hR hd hs
  have HMV := Lib.hid (fun W (h : GsOk W) => (show Calls Tryz.prog 20 #[.int .i64 size, .bool g] W fun e w' => e = .returned (.tuple #[.string (mvB k g), .int .i64 (mvN k g)]) ∧ Below W.heap.size W w' by rw [hsz]; exact wide_b W h k g hk))
  have HN4 := Lib.hid (mvN_cases k g)
  have HZ4 := Lib.hid (size_cases k hk hsz)
  clear hsz
  have HG := Lib.hid hN
  have HPW := Lib.hid hP
  have HI := Lib.hid hi
  obtain ⟨w0, hW0, HB0, HK0⟩ := ent w (.cells #[.int .i64 3, .int .i64 dst, .int .i64 src, .int .i64 imm, .int .i64 size, .bool g, .int .i64 cond, .string to_] 26)
  clear hN hP hi
  go_enter Tryz.func7, Tryz.ntmps7
  go_wp2_with fail
  rw [← hW0]
  clear hW0
  have c0 : w0.cell? ⟨w.heap.size, 0, none⟩ = some (.int .i64 3) := blk_cell HK0.out rfl
  have lw := blk_lt HK0.out
  refine (HR.out w0).mono ?_
  rintro en w1 ⟨rfl, kb⟩
  obtain ⟨HB1, HK1⟩ := bk HB0 HK0 kb
  clear kb c0 lw
  obtain ⟨c0, c1, c2, c3, c4, c5, c6, c7, lw⟩ := cl HK1
  go_wp2_with fail
  refine wp_region_over (by kernel_rfl) (by kernel_rfl) ?_
  repeat (go_big_quiet_step ((go_at_call 18; exact calls_over (by exact Nat.le_refl _) (rr_i _ (gob HG HB1) _ _ (by first | exact HD.out | exact HS.out) (by first | exact Or.inl rfl | exact HN4.out)))))
  refine wpQuiet_nil ?_
  intro w2 kb
  obtain ⟨HB2, HK2⟩ := bk HB1 HK1 kb
  clear kb c0 c1 c2 c3 c4 c5 c6 c7 lw
  obtain ⟨c0, c1, c2, c3, c4, c5, c6, c7, lw⟩ := cl HK2
  go_wp2_with fail
  refine (HMV.out w2 (HG.out.below HB2.out)).mono ?_
  rintro en w3 ⟨rfl, kb⟩
  obtain ⟨HB3, HK3⟩ := bk HB2 HK2 kb
  clear kb c0 c1 c2 c3 c4 c5 c6 c7 lw
  obtain ⟨c0, c1, c2, c3, c4, c5, c6, c7, lw⟩ := cl HK3
  go_wp2_with fail
  refine wp_region_over (by kernel_rfl) (by kernel_rfl) ?_
  repeat (go_big_quiet_step (first | (go_at_call 18; exact calls_over (by exact Nat.le_refl _) (rr_i _ (gob HG HB3) _ _ (by first | exact HD.out | exact HS.out) (by first | exact Or.inl rfl | exact HN4.out))) | (go_at_call 21; exact calls_over (by exact Nat.le_refl _) (rat_i _ (gob HG HB3) _ (by first | exact HD.out | exact HS.out) _ HI.out))))
  refine wpQuiet_nil ?_
  intro w4 kb
  obtain ⟨HB4, HK4⟩ := bk HB3 HK3 kb
  clear kb c0 c1 c2 c3 c4 c5 c6 c7 lw
  obtain ⟨c0, c1, c2, c3, c4, c5, c6, c7, lw⟩ := cl HK4
  go_wp2_with fail
  go_returns
  exact ⟨rfl, HB4.out⟩
theorem rshow_7 (w : World) (hN : GsOk w) (hP : PowOk w) (dst src imm size cond : Int) (g : Bool) (to_ : ByteArray) (hi : In64 imm) (hd : 0 ≤ dst ∧ dst ≤ 15) (hs : 0 ≤ src ∧ src ≤ 15) (hR : RR 7 dst src imm size g cond to_) :
    Calls Tryz.prog 7 #[.agg #[.int .i64 7, .int .i64 dst, .int .i64 src, .int .i64 imm, .int .i64 size, .bool g, .int .i64 cond, .string to_]] w fun en w' => en = .returned (.string (⟨#[97, 100, 100, 113]⟩ ++ ⟨#[32]⟩ ++ pS src 8 ++ ⟨#[44, 32]⟩ ++ pS dst 8)) ∧ Below w.heap.size w w' := by
  have z1 := pS_size src 8
  have z2 := pS_size dst 8
  have HR := Lib.hid hR
  have HD := Lib.hid hd
  have HS := Lib.hid hs
  clear hR hd hs
  have HOP := Lib.hid (fun W (h : GsOk W) => name_7 W h)
  have HG := Lib.hid hN
  have HPW := Lib.hid hP
  have HI := Lib.hid hi
  obtain ⟨w0, hW0, HB0, HK0⟩ := ent w (.cells #[.int .i64 7, .int .i64 dst, .int .i64 src, .int .i64 imm, .int .i64 size, .bool g, .int .i64 cond, .string to_] 26)
  clear hN hP hi
  go_enter Tryz.func7, Tryz.ntmps7
  go_wp2_with fail
  rw [← hW0]
  clear hW0
  have c0 : w0.cell? ⟨w.heap.size, 0, none⟩ = some (.int .i64 7) := blk_cell HK0.out rfl
  have lw := blk_lt HK0.out
  refine (HR.out w0).mono ?_
  rintro en w1 ⟨rfl, kb⟩
  obtain ⟨HB1, HK1⟩ := bk HB0 HK0 kb
  clear kb c0 lw
  obtain ⟨c0, c1, c2, c3, c4, c5, c6, c7, lw⟩ := cl HK1
  go_wp2_with fail
  refine wp_region_over (by kernel_rfl) (by kernel_rfl) ?_
  repeat (go_big_quiet_step ((go_at_call 18; exact calls_over (by exact Nat.le_refl _) (rr_i _ (gob HG HB1) _ _ (by first | exact HD.out | exact HS.out) (Or.inl rfl)))))
  refine wpQuiet_nil ?_
  intro w2 kb
  obtain ⟨HB2, HK2⟩ := bk HB1 HK1 kb
  clear kb c0 c1 c2 c3 c4 c5 c6 c7 lw
  obtain ⟨c0, c1, c2, c3, c4, c5, c6, c7, lw⟩ := cl HK2
  go_wp2_with fail
  refine (HOP.out w2 (HG.out.below HB2.out)).mono ?_
  rintro en w3 ⟨rfl, kb⟩
  obtain ⟨HB3, HK3⟩ := bk HB2 HK2 kb
  clear kb c0 c1 c2 c3 c4 c5 c6 c7 lw
  obtain ⟨c0, c1, c2, c3, c4, c5, c6, c7, lw⟩ := cl HK3
  go_wp2_with fail
  go_returns
  exact ⟨rfl, HB3.out⟩
theorem rshow_11 (w : World) (hN : GsOk w) (hP : PowOk w) (dst src imm size cond : Int) (g : Bool) (to_ : ByteArray) (hi : In64 imm) (hd : 0 ≤ dst ∧ dst ≤ 15) (hs : 0 ≤ src ∧ src ≤ 15) (hR : RR 11 dst src imm size g cond to_) :
    Calls Tryz.prog 7 #[.agg #[.int .i64 11, .int .i64 dst, .int .i64 src, .int .i64 imm, .int .i64 size, .bool g, .int .i64 cond, .string to_]] w fun en w' => en = .returned (.string (⟨#[120, 111, 114, 113]⟩ ++ ⟨#[32]⟩ ++ pS src 8 ++ ⟨#[44, 32]⟩ ++ pS dst 8)) ∧ Below w.heap.size w w' := by
  have z1 := pS_size src 8
  have z2 := pS_size dst 8
  have HR := Lib.hid hR
  have HD := Lib.hid hd
  have HS := Lib.hid hs
  clear hR hd hs
  have HOP := Lib.hid (fun W (h : GsOk W) => name_11 W h)
  have HG := Lib.hid hN
  have HPW := Lib.hid hP
  have HI := Lib.hid hi
  obtain ⟨w0, hW0, HB0, HK0⟩ := ent w (.cells #[.int .i64 11, .int .i64 dst, .int .i64 src, .int .i64 imm, .int .i64 size, .bool g, .int .i64 cond, .string to_] 26)
  clear hN hP hi
  go_enter Tryz.func7, Tryz.ntmps7
  go_wp2_with fail
  rw [← hW0]
  clear hW0
  have c0 : w0.cell? ⟨w.heap.size, 0, none⟩ = some (.int .i64 11) := blk_cell HK0.out rfl
  have lw := blk_lt HK0.out
  refine (HR.out w0).mono ?_
  rintro en w1 ⟨rfl, kb⟩
  obtain ⟨HB1, HK1⟩ := bk HB0 HK0 kb
  clear kb c0 lw
  obtain ⟨c0, c1, c2, c3, c4, c5, c6, c7, lw⟩ := cl HK1
  go_wp2_with fail
  refine wp_region_over (by kernel_rfl) (by kernel_rfl) ?_
  repeat (go_big_quiet_step ((go_at_call 18; exact calls_over (by exact Nat.le_refl _) (rr_i _ (gob HG HB1) _ _ (by first | exact HD.out | exact HS.out) (Or.inl rfl)))))
  refine wpQuiet_nil ?_
  intro w2 kb
  obtain ⟨HB2, HK2⟩ := bk HB1 HK1 kb
  clear kb c0 c1 c2 c3 c4 c5 c6 c7 lw
  obtain ⟨c0, c1, c2, c3, c4, c5, c6, c7, lw⟩ := cl HK2
  go_wp2_with fail
  refine (HOP.out w2 (HG.out.below HB2.out)).mono ?_
  rintro en w3 ⟨rfl, kb⟩
  obtain ⟨HB3, HK3⟩ := bk HB2 HK2 kb
  clear kb c0 c1 c2 c3 c4 c5 c6 c7 lw
  obtain ⟨c0, c1, c2, c3, c4, c5, c6, c7, lw⟩ := cl HK3
  go_wp2_with fail
  go_returns
  exact ⟨rfl, HB3.out⟩
theorem rshow_15 (w : World) (hN : GsOk w) (hP : PowOk w) (dst src imm size cond : Int) (g : Bool) (to_ : ByteArray) (hi : In64 imm) (hd : 0 ≤ dst ∧ dst ≤ 15) (hs : 0 ≤ src ∧ src ≤ 15) (hR : RR 15 dst src imm size g cond to_) :
    Calls Tryz.prog 7 #[.agg #[.int .i64 15, .int .i64 dst, .int .i64 src, .int .i64 imm, .int .i64 size, .bool g, .int .i64 cond, .string to_]] w fun en w' => en = .returned (.string (⟨#[115, 117, 98, 113]⟩ ++ ⟨#[32, 36]⟩ ++ numB imm ++ ⟨#[44, 32]⟩ ++ pS dst 8)) ∧ Below w.heap.size w w' := by
  have z1 := pS_size src 8
  have z2 := pS_size dst 8
  have z4 := numB_size hi
  have HR := Lib.hid hR
  have HD := Lib.hid hd
  have HS := Lib.hid hs
  clear hR hd hs
  have HOP := Lib.hid (fun W (h : GsOk W) => name_15 W h)
  have HG := Lib.hid hN
  have HPW := Lib.hid hP
  have HI := Lib.hid hi
  obtain ⟨w0, hW0, HB0, HK0⟩ := ent w (.cells #[.int .i64 15, .int .i64 dst, .int .i64 src, .int .i64 imm, .int .i64 size, .bool g, .int .i64 cond, .string to_] 26)
  clear hN hP hi
  go_enter Tryz.func7, Tryz.ntmps7
  go_wp2_with fail
  rw [← hW0]
  clear hW0
  have c0 : w0.cell? ⟨w.heap.size, 0, none⟩ = some (.int .i64 15) := blk_cell HK0.out rfl
  have lw := blk_lt HK0.out
  refine (HR.out w0).mono ?_
  rintro en w1 ⟨rfl, kb⟩
  obtain ⟨HB1, HK1⟩ := bk HB0 HK0 kb
  clear kb c0 lw
  obtain ⟨c0, c1, c2, c3, c4, c5, c6, c7, lw⟩ := cl HK1
  go_wp2_with fail
  refine wp_region_over (by kernel_rfl) (by kernel_rfl) ?_
  repeat (go_big_quiet_step ((go_at_call 18; exact calls_over (by exact Nat.le_refl _) (rr_i _ (gob HG HB1) _ _ (by first | exact HD.out | exact HS.out) (Or.inl rfl)))))
  refine wpQuiet_nil ?_
  intro w2 kb
  obtain ⟨HB2, HK2⟩ := bk HB1 HK1 kb
  clear kb c0 c1 c2 c3 c4 c5 c6 c7 lw
  obtain ⟨c0, c1, c2, c3, c4, c5, c6, c7, lw⟩ := cl HK2
  go_wp2_with fail
  refine wp_region_over (by kernel_rfl) (by kernel_rfl) ?_
  repeat (go_big_quiet_step (first | (go_at_call 18; exact calls_over (by exact Nat.le_refl _) (rr_i _ (gob HG HB2) _ _ (by first | exact HD.out | exact HS.out) (Or.inl rfl))) | (go_at_call 19; exact calls_over (by exact Nat.le_refl _) (num_any _ (gob HG HB2) _ HI.out)) | (go_at_call 23; exact calls_over (by exact Nat.le_refl _) (HOP.out _ (gob HG HB2)))))
  refine wpQuiet_nil ?_
  intro w3 kb
  obtain ⟨HB3, HK3⟩ := bk HB2 HK2 kb
  clear kb c0 c1 c2 c3 c4 c5 c6 c7 lw
  obtain ⟨c0, c1, c2, c3, c4, c5, c6, c7, lw⟩ := cl HK3
  go_wp2_with fail
  go_returns
  exact ⟨rfl, HB3.out⟩
theorem rshow_19 (w : World) (hN : GsOk w) (hP : PowOk w) (dst src imm size cond : Int) (g : Bool) (to_ : ByteArray) (hi : In64 imm) (hd : 0 ≤ dst ∧ dst ≤ 15) (hs : 0 ≤ src ∧ src ≤ 15) (hR : RR 19 dst src imm size g cond to_) :
    Calls Tryz.prog 7 #[.agg #[.int .i64 19, .int .i64 dst, .int .i64 src, .int .i64 imm, .int .i64 size, .bool g, .int .i64 cond, .string to_]] w fun en w' => en = .returned (.string (⟨#[105, 109, 117, 108, 113]⟩ ++ ⟨#[32, 36]⟩ ++ numB imm ++ ⟨#[44, 32]⟩ ++ pS dst 8)) ∧ Below w.heap.size w w' := by
  have z1 := pS_size src 8
  have z2 := pS_size dst 8
  have z4 := numB_size hi
  have HR := Lib.hid hR
  have HD := Lib.hid hd
  have HS := Lib.hid hs
  clear hR hd hs
  have HOP := Lib.hid (fun W (h : GsOk W) => name_19 W h)
  have HG := Lib.hid hN
  have HPW := Lib.hid hP
  have HI := Lib.hid hi
  obtain ⟨w0, hW0, HB0, HK0⟩ := ent w (.cells #[.int .i64 19, .int .i64 dst, .int .i64 src, .int .i64 imm, .int .i64 size, .bool g, .int .i64 cond, .string to_] 26)
  clear hN hP hi
  go_enter Tryz.func7, Tryz.ntmps7
  go_wp2_with fail
  rw [← hW0]
  clear hW0
  have c0 : w0.cell? ⟨w.heap.size, 0, none⟩ = some (.int .i64 19) := blk_cell HK0.out rfl
  have lw := blk_lt HK0.out
  refine (HR.out w0).mono ?_
  rintro en w1 ⟨rfl, kb⟩
  obtain ⟨HB1, HK1⟩ := bk HB0 HK0 kb
  clear kb c0 lw
  obtain ⟨c0, c1, c2, c3, c4, c5, c6, c7, lw⟩ := cl HK1
  go_wp2_with fail
  refine wp_region_over (by kernel_rfl) (by kernel_rfl) ?_
  repeat (go_big_quiet_step ((go_at_call 18; exact calls_over (by exact Nat.le_refl _) (rr_i _ (gob HG HB1) _ _ (by first | exact HD.out | exact HS.out) (Or.inl rfl)))))
  refine wpQuiet_nil ?_
  intro w2 kb
  obtain ⟨HB2, HK2⟩ := bk HB1 HK1 kb
  clear kb c0 c1 c2 c3 c4 c5 c6 c7 lw
  obtain ⟨c0, c1, c2, c3, c4, c5, c6, c7, lw⟩ := cl HK2
  go_wp2_with fail
  refine wp_region_over (by kernel_rfl) (by kernel_rfl) ?_
  repeat (go_big_quiet_step (first | (go_at_call 18; exact calls_over (by exact Nat.le_refl _) (rr_i _ (gob HG HB2) _ _ (by first | exact HD.out | exact HS.out) (Or.inl rfl))) | (go_at_call 19; exact calls_over (by exact Nat.le_refl _) (num_any _ (gob HG HB2) _ HI.out)) | (go_at_call 23; exact calls_over (by exact Nat.le_refl _) (HOP.out _ (gob HG HB2)))))
  refine wpQuiet_nil ?_
  intro w3 kb
  obtain ⟨HB3, HK3⟩ := bk HB2 HK2 kb
  clear kb c0 c1 c2 c3 c4 c5 c6 c7 lw
  obtain ⟨c0, c1, c2, c3, c4, c5, c6, c7, lw⟩ := cl HK3
  go_wp2_with fail
  go_returns
  exact ⟨rfl, HB3.out⟩
theorem rshow_23 (w : World) (hN : GsOk w) (hP : PowOk w) (dst src imm size cond : Int) (g : Bool) (to_ : ByteArray) (hi : In64 imm) (hd : 0 ≤ dst ∧ dst ≤ 15) (hs : 0 ≤ src ∧ src ≤ 15) (hR : RR 23 dst src imm size g cond to_) :
    Calls Tryz.prog 7 #[.agg #[.int .i64 23, .int .i64 dst, .int .i64 src, .int .i64 imm, .int .i64 size, .bool g, .int .i64 cond, .string to_]] w fun en w' => en = .returned (.string (⟨#[115, 104, 114, 113]⟩ ++ ⟨#[32, 37, 99, 108, 44, 32]⟩ ++ pS dst 8)) ∧ Below w.heap.size w w' := by
  have z1 := pS_size src 8
  have z2 := pS_size dst 8
  have HR := Lib.hid hR
  have HD := Lib.hid hd
  have HS := Lib.hid hs
  clear hR hd hs
  have HOP := Lib.hid (fun W (h : GsOk W) => name_23 W h)
  have HG := Lib.hid hN
  have HPW := Lib.hid hP
  have HI := Lib.hid hi
  obtain ⟨w0, hW0, HB0, HK0⟩ := ent w (.cells #[.int .i64 23, .int .i64 dst, .int .i64 src, .int .i64 imm, .int .i64 size, .bool g, .int .i64 cond, .string to_] 26)
  clear hN hP hi
  go_enter Tryz.func7, Tryz.ntmps7
  go_wp2_with fail
  rw [← hW0]
  clear hW0
  have c0 : w0.cell? ⟨w.heap.size, 0, none⟩ = some (.int .i64 23) := blk_cell HK0.out rfl
  have lw := blk_lt HK0.out
  refine (HR.out w0).mono ?_
  rintro en w1 ⟨rfl, kb⟩
  obtain ⟨HB1, HK1⟩ := bk HB0 HK0 kb
  clear kb c0 lw
  obtain ⟨c0, c1, c2, c3, c4, c5, c6, c7, lw⟩ := cl HK1
  go_wp2_with fail
  refine wp_region_over (by kernel_rfl) (by kernel_rfl) ?_
  repeat (go_big_quiet_step ((go_at_call 18; exact calls_over (by exact Nat.le_refl _) (rr_i _ (gob HG HB1) _ _ (by first | exact HD.out | exact HS.out) (Or.inl rfl)))))
  refine wpQuiet_nil ?_
  intro w2 kb
  obtain ⟨HB2, HK2⟩ := bk HB1 HK1 kb
  clear kb c0 c1 c2 c3 c4 c5 c6 c7 lw
  obtain ⟨c0, c1, c2, c3, c4, c5, c6, c7, lw⟩ := cl HK2
  go_wp2_with fail
  refine (HOP.out w2 (HG.out.below HB2.out)).mono ?_
  rintro en w3 ⟨rfl, kb⟩
  obtain ⟨HB3, HK3⟩ := bk HB2 HK2 kb
  clear kb c0 c1 c2 c3 c4 c5 c6 c7 lw
  obtain ⟨c0, c1, c2, c3, c4, c5, c6, c7, lw⟩ := cl HK3
  go_wp2_with fail
  go_returns
  exact ⟨rfl, HB3.out⟩
theorem rshow_27 (w : World) (hN : GsOk w) (hP : PowOk w) (dst src imm size cond : Int) (g : Bool) (to_ : ByteArray) (hi : In64 imm) (hd : 0 ≤ dst ∧ dst ≤ 15) (hs : 0 ≤ src ∧ src ≤ 15) (hR : RR 27 dst src imm size g cond to_) :
    Calls Tryz.prog 7 #[.agg #[.int .i64 27, .int .i64 dst, .int .i64 src, .int .i64 imm, .int .i64 size, .bool g, .int .i64 cond, .string to_]] w fun en w' => en = .returned (.string (⟨#[99, 113, 116, 111]⟩)) ∧ Below w.heap.size w w' := by
  have z1 := pS_size src 8
  have z2 := pS_size dst 8
  have HR := Lib.hid hR
  have HD := Lib.hid hd
  have HS := Lib.hid hs
  clear hR hd hs
  have HOP := Lib.hid (fun W (h : GsOk W) => name_27 W h)
  have HG := Lib.hid hN
  have HPW := Lib.hid hP
  have HI := Lib.hid hi
  obtain ⟨w0, hW0, HB0, HK0⟩ := ent w (.cells #[.int .i64 27, .int .i64 dst, .int .i64 src, .int .i64 imm, .int .i64 size, .bool g, .int .i64 cond, .string to_] 26)
  clear hN hP hi
  go_enter Tryz.func7, Tryz.ntmps7
  go_wp2_with fail
  rw [← hW0]
  clear hW0
  have c0 : w0.cell? ⟨w.heap.size, 0, none⟩ = some (.int .i64 27) := blk_cell HK0.out rfl
  have lw := blk_lt HK0.out
  refine (HR.out w0).mono ?_
  rintro en w1 ⟨rfl, kb⟩
  obtain ⟨HB1, HK1⟩ := bk HB0 HK0 kb
  clear kb c0 lw
  obtain ⟨c0, c1, c2, c3, c4, c5, c6, c7, lw⟩ := cl HK1
  go_wp2_with fail
  refine wp_region_over (by kernel_rfl) (by kernel_rfl) ?_
  repeat (go_big_quiet_step ((go_at_call 18; exact calls_over (by exact Nat.le_refl _) (rr_i _ (gob HG HB1) _ _ (by first | exact HD.out | exact HS.out) (Or.inl rfl)))))
  refine wpQuiet_nil ?_
  intro w2 kb
  obtain ⟨HB2, HK2⟩ := bk HB1 HK1 kb
  clear kb c0 c1 c2 c3 c4 c5 c6 c7 lw
  obtain ⟨c0, c1, c2, c3, c4, c5, c6, c7, lw⟩ := cl HK2
  go_wp2_with fail
  refine (HOP.out w2 (HG.out.below HB2.out)).mono ?_
  rintro en w3 ⟨rfl, kb⟩
  obtain ⟨HB3, HK3⟩ := bk HB2 HK2 kb
  clear kb c0 c1 c2 c3 c4 c5 c6 c7 lw
  obtain ⟨c0, c1, c2, c3, c4, c5, c6, c7, lw⟩ := cl HK3
  go_wp2_with fail
  go_returns
  exact ⟨rfl, HB3.out⟩
theorem rshow_31 (w : World) (hN : GsOk w) (hP : PowOk w) (dst src imm size cond : Int) (g : Bool) (to_ : ByteArray) (hi : In64 imm) (hd : 0 ≤ dst ∧ dst ≤ 15) (hs : 0 ≤ src ∧ src ≤ 15) (hc : 0 ≤ cond ∧ cond ≤ 9) (hR : RR 31 dst src imm size g cond to_) :
    Calls Tryz.prog 7 #[.agg #[.int .i64 31, .int .i64 dst, .int .i64 src, .int .i64 imm, .int .i64 size, .bool g, .int .i64 cond, .string to_]] w fun en w' => en = .returned (.string (⟨#[115, 101, 116]⟩ ++ cB cond ++ ⟨#[32]⟩ ++ pS dst 1)) ∧ Below w.heap.size w w' := by
  have z1 := pS_size src 8
  have z2 := pS_size dst 8
  have zC := pS_size dst 1
  have zD := cB_size cond
  have HR := Lib.hid hR
  have HD := Lib.hid hd
  have HS := Lib.hid hs
  clear hR hd hs
  have HC := Lib.hid hc
  clear hc
  have HG := Lib.hid hN
  have HPW := Lib.hid hP
  have HI := Lib.hid hi
  obtain ⟨w0, hW0, HB0, HK0⟩ := ent w (.cells #[.int .i64 31, .int .i64 dst, .int .i64 src, .int .i64 imm, .int .i64 size, .bool g, .int .i64 cond, .string to_] 26)
  clear hN hP hi
  go_enter Tryz.func7, Tryz.ntmps7
  go_wp2_with fail
  rw [← hW0]
  clear hW0
  have c0 : w0.cell? ⟨w.heap.size, 0, none⟩ = some (.int .i64 31) := blk_cell HK0.out rfl
  have lw := blk_lt HK0.out
  refine (HR.out w0).mono ?_
  rintro en w1 ⟨rfl, kb⟩
  obtain ⟨HB1, HK1⟩ := bk HB0 HK0 kb
  clear kb c0 lw
  obtain ⟨c0, c1, c2, c3, c4, c5, c6, c7, lw⟩ := cl HK1
  go_wp2_with fail
  refine wp_region_over (by kernel_rfl) (by kernel_rfl) ?_
  repeat (go_big_quiet_step ((go_at_call 18; exact calls_over (by exact Nat.le_refl _) (rr_i _ (gob HG HB1) _ _ (by first | exact HD.out | exact HS.out) (by first | exact Or.inl rfl | exact Or.inr (Or.inr (Or.inr rfl)))))))
  refine wpQuiet_nil ?_
  intro w2 kb
  obtain ⟨HB2, HK2⟩ := bk HB1 HK1 kb
  clear kb c0 c1 c2 c3 c4 c5 c6 c7 lw
  obtain ⟨c0, c1, c2, c3, c4, c5, c6, c7, lw⟩ := cl HK2
  go_wp2_with fail
  refine wp_region_over (by kernel_rfl) (by kernel_rfl) ?_
  repeat (go_big_quiet_step (first | (go_at_call 18; exact calls_over (by exact Nat.le_refl _) (rr_i _ (gob HG HB2) _ _ (by first | exact HD.out | exact HS.out) (by first | exact Or.inl rfl | exact Or.inr (Or.inr (Or.inr rfl))))) | (go_at_call 22; exact calls_over (by exact Nat.le_refl _) (rcond_b _ (gob HG HB2) _ HC.out))))
  refine wpQuiet_nil ?_
  intro w3 kb
  obtain ⟨HB3, HK3⟩ := bk HB2 HK2 kb
  clear kb c0 c1 c2 c3 c4 c5 c6 c7 lw
  obtain ⟨c0, c1, c2, c3, c4, c5, c6, c7, lw⟩ := cl HK3
  go_wp2_with fail
  go_returns
  exact ⟨rfl, HB3.out⟩
theorem rshow_35 (w : World) (hN : GsOk w) (hP : PowOk w) (dst src imm size cond : Int) (g : Bool) (to_ : ByteArray) (hi : In64 imm) (hd : 0 ≤ dst ∧ dst ≤ 15) (hs : 0 ≤ src ∧ src ≤ 15) (ht : to_.size ≤ 300) (hm : namedB to_ = true) (hR : RR 35 dst src imm size g cond to_) :
    Calls Tryz.prog 7 #[.agg #[.int .i64 35, .int .i64 dst, .int .i64 src, .int .i64 imm, .int .i64 size, .bool g, .int .i64 cond, .string to_]] w fun en w' => en = .returned (.string (⟨#[99, 97, 108, 108, 32]⟩ ++ to_)) ∧ Below w.heap.size w w' := by
  have z1 := pS_size src 8
  have z2 := pS_size dst 8
  have HR := Lib.hid hR
  have HD := Lib.hid hd
  have HS := Lib.hid hs
  clear hR hd hs
  have HT := Lib.hid (fun W => rnamed_any W to_ (by unfold maxLen; omega))
  rw [hm] at HT
  have HG := Lib.hid hN
  have HPW := Lib.hid hP
  have HI := Lib.hid hi
  obtain ⟨w0, hW0, HB0, HK0⟩ := ent w (.cells #[.int .i64 35, .int .i64 dst, .int .i64 src, .int .i64 imm, .int .i64 size, .bool g, .int .i64 cond, .string to_] 26)
  clear hN hP hi
  go_enter Tryz.func7, Tryz.ntmps7
  go_wp2_with fail
  rw [← hW0]
  clear hW0
  have c0 : w0.cell? ⟨w.heap.size, 0, none⟩ = some (.int .i64 35) := blk_cell HK0.out rfl
  have c7 : w0.cell? ⟨w.heap.size, 7, none⟩ = some (.string to_) := blk_cell HK0.out rfl
  have lw := blk_lt HK0.out
  refine (HR.out w0).mono ?_
  rintro en w1 ⟨rfl, kb⟩
  obtain ⟨HB1, HK1⟩ := bk HB0 HK0 kb
  clear kb c0 c7 lw
  have c0 : w1.cell? ⟨w.heap.size, 0, none⟩ = some (.int .i64 35) := blk_cell HK1.out rfl
  have c7 : w1.cell? ⟨w.heap.size, 7, none⟩ = some (.string to_) := blk_cell HK1.out rfl
  have lw := blk_lt HK1.out
  go_wp2_with fail
  refine (HT.out w1).mono ?_
  rintro en w2 ⟨rfl, kb⟩
  obtain ⟨HB2, HK2⟩ := bk HB1 HK1 kb
  clear kb c0 c7 lw
  obtain ⟨c0, c1, c2, c3, c4, c5, c6, c7, lw⟩ := cl HK2
  go_wp2_with fail
  refine wp_region_over (by kernel_rfl) (by kernel_rfl) ?_
  repeat (go_big_quiet_step ((go_at_call 18; exact calls_over (by exact Nat.le_refl _) (rr_i _ (gob HG HB2) _ _ (by first | exact HD.out | exact HS.out) (Or.inl rfl)))))
  refine wpQuiet_nil ?_
  intro w3 kb
  obtain ⟨HB3, HK3⟩ := bk HB2 HK2 kb
  clear kb c0 c1 c2 c3 c4 c5 c6 c7 lw
  obtain ⟨c0, c1, c2, c3, c4, c5, c6, c7, lw⟩ := cl HK3
  go_wp2_with fail
  go_returns
  exact ⟨rfl, HB3.out⟩
theorem rshow_39 (w : World) (hN : GsOk w) (hP : PowOk w) (dst src imm size cond : Int) (g : Bool) (to_ : ByteArray) (hi : In64 imm) (hd : 0 ≤ dst ∧ dst ≤ 15) (hs : 0 ≤ src ∧ src ≤ 15) (hR : RR 39 dst src imm size g cond to_) :
    Calls Tryz.prog 7 #[.agg #[.int .i64 39, .int .i64 dst, .int .i64 src, .int .i64 imm, .int .i64 size, .bool g, .int .i64 cond, .string to_]] w fun en w' => en = .returned (.string (⟨#[108, 102, 101, 110, 99, 101]⟩)) ∧ Below w.heap.size w w' := by
  have z1 := pS_size src 8
  have z2 := pS_size dst 8
  have HR := Lib.hid hR
  have HD := Lib.hid hd
  have HS := Lib.hid hs
  clear hR hd hs
  have HOP := Lib.hid (fun W (h : GsOk W) => name_39 W h)
  have HG := Lib.hid hN
  have HPW := Lib.hid hP
  have HI := Lib.hid hi
  obtain ⟨w0, hW0, HB0, HK0⟩ := ent w (.cells #[.int .i64 39, .int .i64 dst, .int .i64 src, .int .i64 imm, .int .i64 size, .bool g, .int .i64 cond, .string to_] 26)
  clear hN hP hi
  go_enter Tryz.func7, Tryz.ntmps7
  go_wp2_with fail
  rw [← hW0]
  clear hW0
  have c0 : w0.cell? ⟨w.heap.size, 0, none⟩ = some (.int .i64 39) := blk_cell HK0.out rfl
  have lw := blk_lt HK0.out
  refine (HR.out w0).mono ?_
  rintro en w1 ⟨rfl, kb⟩
  obtain ⟨HB1, HK1⟩ := bk HB0 HK0 kb
  clear kb c0 lw
  obtain ⟨c0, c1, c2, c3, c4, c5, c6, c7, lw⟩ := cl HK1
  go_wp2_with fail
  refine wp_region_over (by kernel_rfl) (by kernel_rfl) ?_
  repeat (go_big_quiet_step ((go_at_call 18; exact calls_over (by exact Nat.le_refl _) (rr_i _ (gob HG HB1) _ _ (by first | exact HD.out | exact HS.out) (Or.inl rfl)))))
  refine wpQuiet_nil ?_
  intro w2 kb
  obtain ⟨HB2, HK2⟩ := bk HB1 HK1 kb
  clear kb c0 c1 c2 c3 c4 c5 c6 c7 lw
  obtain ⟨c0, c1, c2, c3, c4, c5, c6, c7, lw⟩ := cl HK2
  go_wp2_with fail
  refine (HOP.out w2 (HG.out.below HB2.out)).mono ?_
  rintro en w3 ⟨rfl, kb⟩
  obtain ⟨HB3, HK3⟩ := bk HB2 HK2 kb
  clear kb c0 c1 c2 c3 c4 c5 c6 c7 lw
  obtain ⟨c0, c1, c2, c3, c4, c5, c6, c7, lw⟩ := cl HK3
  go_wp2_with fail
  go_returns
  exact ⟨rfl, HB3.out⟩
end Go.Proofs.YtmmpkkpmlaiapaaGreatDoor
