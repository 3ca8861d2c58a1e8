/- merlonref22.Show, by operations (part 0). merlonref22.Show, by operations (part 1). No condition. -/
import Derived.Test.YtmmpkkpmlaiapaaGreatDoorQg
namespace Go.Proofs.YtmmpkkpmlaiapaaGreatDoor
open Go.RowKit
set_option maxRecDepth 100000
set_option linter.unusedVariables false
set_option maxHeartbeats 8000000
theorem rshow_1 (w : World) (hN : GsOk w) (hP : PowOk w) (dst src imm size cond : Int) (g : Bool) (to_ : ByteArray) (hi : In64 imm) (hd : 0 ≤ dst ∧ dst ≤ 15) (hs : 0 ≤ src ∧ src ≤ 15) (hR : RR 1 dst src imm size g cond to_) :
    Calls Tryz.prog 7 #[.agg #[.int .i64 1, .int .i64 dst, .int .i64 src, .int .i64 imm, .int .i64 size, .bool g, .int .i64 cond, .string to_]] w fun en w' => en = .returned (.string (⟨#[109, 111, 118, 113, 32]⟩ ++ pS src 8 ++ ⟨#[44, 32]⟩ ++ pS dst 8)) ∧ Below w.heap.size w w' := by
  have z1 := pS_size src 8
  have z2 := pS_size dst 8
  have HR := Lib.hid hR
  have HD := Lib.hid hd
  have HS := Lib.hid hs
  clear hR hd hs
  have HG := Lib.hid hN
  have HPW := Lib.hid hP
  have HI := Lib.hid hi
  obtain ⟨w0, hW0, HB0, HK0⟩ := ent w (.cells #[.int .i64 1, .int .i64 dst, .int .i64 src, .int .i64 imm, .int .i64 size, .bool g, .int .i64 cond, .string to_] 26)
  clear hN hP hi
  go_enter Tryz.func7, Tryz.ntmps7
  go_wp2_with fail
  rw [← hW0]
  clear hW0
  have c0 : w0.cell? ⟨w.heap.size, 0, none⟩ = some (.int .i64 1) := blk_cell HK0.out rfl
  have lw := blk_lt HK0.out
  refine (HR.out w0).mono ?_
  rintro en w1 ⟨rfl, kb⟩
  obtain ⟨HB1, HK1⟩ := bk HB0 HK0 kb
  clear kb c0 lw
  obtain ⟨c0, c1, c2, c3, c4, c5, c6, c7, lw⟩ := cl HK1
  go_wp2_with fail
  refine wp_region_over (by kernel_rfl) (by kernel_rfl) ?_
  repeat (go_big_quiet_step ((go_at_call 18; exact calls_over (by exact Nat.le_refl _) (rr_i _ (gob HG HB1) _ _ (by first | exact HD.out | exact HS.out) (Or.inl rfl)))))
  refine wpQuiet_nil ?_
  intro w2 kb
  obtain ⟨HB2, HK2⟩ := bk HB1 HK1 kb
  clear kb c0 c1 c2 c3 c4 c5 c6 c7 lw
  obtain ⟨c0, c1, c2, c3, c4, c5, c6, c7, lw⟩ := cl HK2
  go_wp2_with fail
  go_returns
  exact ⟨rfl, HB2.out⟩
theorem rshow_4 (w : World) (hN : GsOk w) (hP : PowOk w) (dst src imm size cond : Int) (g : Bool) (to_ : ByteArray) (hi : In64 imm) (hd : 0 ≤ dst ∧ dst ≤ 15) (hs : 0 ≤ src ∧ src ≤ 15) (k : Nat) (hk : k < 4) (hsz : size = ((2 ^ k : Nat) : Int)) (hR : RR 4 dst src imm size g cond to_) :
    Calls Tryz.prog 7 #[.agg #[.int .i64 4, .int .i64 dst, .int .i64 src, .int .i64 imm, .int .i64 size, .bool g, .int .i64 cond, .string to_]] w fun en w' => en = .returned (.string (movB k ++ pS src size ++ ⟨#[44, 32]⟩ ++ atB dst imm)) ∧ Below w.heap.size w w' := by
  have z1 := pS_size src 8
  have z2 := pS_size dst 8
  have z6 := atB_size dst hi
  have zA := pS_size src size
  have zG := movB_size k
  have HR := Lib.hid hR
  have HD := Lib.hid hd
  have HS := Lib.hid hs
  clear hR hd hs
  have HZ4 := Lib.hid (size_cases k hk hsz)
  have hkc : k = 0 ∨ k = 1 ∨ k = 2 ∨ k = 3 := by omega
  have HSZ := Lib.hid hsz
  clear hsz
  have HG := Lib.hid hN
  have HPW := Lib.hid hP
  have HI := Lib.hid hi
  obtain ⟨w0, hW0, HB0, HK0⟩ := ent w (.cells #[.int .i64 4, .int .i64 dst, .int .i64 src, .int .i64 imm, .int .i64 size, .bool g, .int .i64 cond, .string to_] 26)
  clear hN hP hi
  go_enter Tryz.func7, Tryz.ntmps7
  go_wp2_with fail
  rw [← hW0]
  clear hW0
  have c0 : w0.cell? ⟨w.heap.size, 0, none⟩ = some (.int .i64 4) := blk_cell HK0.out rfl
  have lw := blk_lt HK0.out
  refine (HR.out w0).mono ?_
  rintro en w1 ⟨rfl, kb⟩
  obtain ⟨HB1, HK1⟩ := bk HB0 HK0 kb
  clear kb c0 lw
  obtain ⟨c0, c1, c2, c3, c4, c5, c6, c7, lw⟩ := cl HK1
  go_wp2_with fail
  refine wp_region_over (by kernel_rfl) (by kernel_rfl) ?_
  repeat (go_big_quiet_step ((go_at_call 18; exact calls_over (by exact Nat.le_refl _) (rr_i _ (gob HG HB1) _ _ (by first | exact HD.out | exact HS.out) (by first | exact Or.inl rfl | exact HZ4.out)))))
  refine wpQuiet_nil ?_
  intro w2 kb
  obtain ⟨HB2, HK2⟩ := bk HB1 HK1 kb
  clear kb c0 c1 c2 c3 c4 c5 c6 c7 lw
  obtain ⟨c0, c1, c2, c3, c4, c5, c6, c7, lw⟩ := cl HK2
  rcases hkc with rfl | rfl | rfl | rfl
  · have hsz : size = 1 := HSZ.out
    have hzb : (size == 1) = true := by rw [hsz]; rfl
    have hzb2 : (size == 2) = false := by rw [hsz]; rfl
    have hzb3 : (size == 4) = false := by rw [hsz]; rfl
    clear hsz
    go_wp2_with fail
    refine wp_region_over (by kernel_rfl) (by kernel_rfl) ?_
    repeat (go_big_quiet_step (first | (go_at_call 18; exact calls_over (by exact Nat.le_refl _) (rr_i _ (gob HG HB2) _ _ (by first | exact HD.out | exact HS.out) (by first | exact Or.inl rfl | exact HZ4.out))) | (go_at_call 21; exact calls_over (by exact Nat.le_refl _) (rat_i _ (gob HG HB2) _ (by first | exact HD.out | exact HS.out) _ HI.out))))
    refine wpQuiet_nil ?_
    intro w3 kb
    obtain ⟨HB3, HK3⟩ := bk HB2 HK2 kb
    clear kb c0 c1 c2 c3 c4 c5 c6 c7 lw
    obtain ⟨c0, c1, c2, c3, c4, c5, c6, c7, lw⟩ := cl HK3
    go_wp2_with fail
    go_returns
    exact ⟨rfl, HB3.out⟩
  · have hsz : size = 2 := HSZ.out
    have hzb : (size == 1) = false := by rw [hsz]; rfl
    have hzb2 : (size == 2) = true := by rw [hsz]; rfl
    have hzb3 : (size == 4) = false := by rw [hsz]; rfl
    clear hsz
    go_wp2_with fail
    refine wp_region_over (by kernel_rfl) (by kernel_rfl) ?_
    repeat (go_big_quiet_step (first | (go_at_call 18; exact calls_over (by exact Nat.le_refl _) (rr_i _ (gob HG HB2) _ _ (by first | exact HD.out | exact HS.out) (by first | exact Or.inl rfl | exact HZ4.out))) | (go_at_call 21; exact calls_over (by exact Nat.le_refl _) (rat_i _ (gob HG HB2) _ (by first | exact HD.out | exact HS.out) _ HI.out))))
    refine wpQuiet_nil ?_
    intro w3 kb
    obtain ⟨HB3, HK3⟩ := bk HB2 HK2 kb
    clear kb c0 c1 c2 c3 c4 c5 c6 c7 lw
    obtain ⟨c0, c1, c2, c3, c4, c5, c6, c7, lw⟩ := cl HK3
    go_wp2_with fail
    go_returns
    exact ⟨rfl, HB3.out⟩
  · have hsz : size = 4 := HSZ.out
    have hzb : (size == 1) = false := by rw [hsz]; rfl
    have hzb2 : (size == 2) = false := by rw [hsz]; rfl
    have hzb3 : (size == 4) = true := by rw [hsz]; rfl
    clear hsz
    go_wp2_with fail
    refine wp_region_over (by kernel_rfl) (by kernel_rfl) ?_
    repeat (go_big_quiet_step (first | (go_at_call 18; exact calls_over (by exact Nat.le_refl _) (rr_i _ (gob HG HB2) _ _ (by first | exact HD.out | exact HS.out) (by first | exact Or.inl rfl | exact HZ4.out))) | (go_at_call 21; exact calls_over (by exact Nat.le_refl _) (rat_i _ (gob HG HB2) _ (by first | exact HD.out | exact HS.out) _ HI.out))))
    refine wpQuiet_nil ?_
    intro w3 kb
    obtain ⟨HB3, HK3⟩ := bk HB2 HK2 kb
    clear kb c0 c1 c2 c3 c4 c5 c6 c7 lw
    obtain ⟨c0, c1, c2, c3, c4, c5, c6, c7, lw⟩ := cl HK3
    go_wp2_with fail
    go_returns
    exact ⟨rfl, HB3.out⟩
  · have hsz : size = 8 := HSZ.out
    have hzb : (size == 1) = false := by rw [hsz]; rfl
    have hzb2 : (size == 2) = false := by rw [hsz]; rfl
    have hzb3 : (size == 4) = false := by rw [hsz]; rfl
    clear hsz
    go_wp2_with fail
    refine wp_region_over (by kernel_rfl) (by kernel_rfl) ?_
    repeat (go_big_quiet_step (first | (go_at_call 18; exact calls_over (by exact Nat.le_refl _) (rr_i _ (gob HG HB2) _ _ (by first | exact HD.out | exact HS.out) (by first | exact Or.inl rfl | exact HZ4.out))) | (go_at_call 21; exact calls_over (by exact Nat.le_refl _) (rat_i _ (gob HG HB2) _ (by first | exact HD.out | exact HS.out) _ HI.out))))
    refine wpQuiet_nil ?_
    intro w3 kb
    obtain ⟨HB3, HK3⟩ := bk HB2 HK2 kb
    clear kb c0 c1 c2 c3 c4 c5 c6 c7 lw
    obtain ⟨c0, c1, c2, c3, c4, c5, c6, c7, lw⟩ := cl HK3
    go_wp2_with fail
    go_returns
    exact ⟨rfl, HB3.out⟩
theorem rshow_8 (w : World) (hN : GsOk w) (hP : PowOk w) (dst src imm size cond : Int) (g : Bool) (to_ : ByteArray) (hi : In64 imm) (hd : 0 ≤ dst ∧ dst ≤ 15) (hs : 0 ≤ src ∧ src ≤ 15) (hR : RR 8 dst src imm size g cond to_) :
    Calls Tryz.prog 7 #[.agg #[.int .i64 8, .int .i64 dst, .int .i64 src, .int .i64 imm, .int .i64 size, .bool g, .int .i64 cond, .string to_]] w fun en w' => en = .returned (.string (⟨#[115, 117, 98, 113]⟩ ++ ⟨#[32]⟩ ++ pS src 8 ++ ⟨#[44, 32]⟩ ++ pS dst 8)) ∧ Below w.heap.size w w' := by
  have z1 := pS_size src 8
  have z2 := pS_size dst 8
  have HR := Lib.hid hR
  have HD := Lib.hid hd
  have HS := Lib.hid hs
  clear hR hd hs
  have HOP := Lib.hid (fun W (h : GsOk W) => name_8 W h)
  have HG := Lib.hid hN
  have HPW := Lib.hid hP
  have HI := Lib.hid hi
  obtain ⟨w0, hW0, HB0, HK0⟩ := ent w (.cells #[.int .i64 8, .int .i64 dst, .int .i64 src, .int .i64 imm, .int .i64 size, .bool g, .int .i64 cond, .string to_] 26)
  clear hN hP hi
  go_enter Tryz.func7, Tryz.ntmps7
  go_wp2_with fail
  rw [← hW0]
  clear hW0
  have c0 : w0.cell? ⟨w.heap.size, 0, none⟩ = some (.int .i64 8) := blk_cell HK0.out rfl
  have lw := blk_lt HK0.out
  refine (HR.out w0).mono ?_
  rintro en w1 ⟨rfl, kb⟩
  obtain ⟨HB1, HK1⟩ := bk HB0 HK0 kb
  clear kb c0 lw
  obtain ⟨c0, c1, c2, c3, c4, c5, c6, c7, lw⟩ := cl HK1
  go_wp2_with fail
  refine wp_region_over (by kernel_rfl) (by kernel_rfl) ?_
  repeat (go_big_quiet_step ((go_at_call 18; exact calls_over (by exact Nat.le_refl _) (rr_i _ (gob HG HB1) _ _ (by first | exact HD.out | exact HS.out) (Or.inl rfl)))))
  refine wpQuiet_nil ?_
  intro w2 kb
  obtain ⟨HB2, HK2⟩ := bk HB1 HK1 kb
  clear kb c0 c1 c2 c3 c4 c5 c6 c7 lw
  obtain ⟨c0, c1, c2, c3, c4, c5, c6, c7, lw⟩ := cl HK2
  go_wp2_with fail
  refine (HOP.out w2 (HG.out.below HB2.out)).mono ?_
  rintro en w3 ⟨rfl, kb⟩
  obtain ⟨HB3, HK3⟩ := bk HB2 HK2 kb
  clear kb c0 c1 c2 c3 c4 c5 c6 c7 lw
  obtain ⟨c0, c1, c2, c3, c4, c5, c6, c7, lw⟩ := cl HK3
  go_wp2_with fail
  go_returns
  exact ⟨rfl, HB3.out⟩
theorem rshow_12 (w : World) (hN : GsOk w) (hP : PowOk w) (dst src imm size cond : Int) (g : Bool) (to_ : ByteArray) (hi : In64 imm) (hd : 0 ≤ dst ∧ dst ≤ 15) (hs : 0 ≤ src ∧ src ≤ 15) (hR : RR 12 dst src imm size g cond to_) :
    Calls Tryz.prog 7 #[.agg #[.int .i64 12, .int .i64 dst, .int .i64 src, .int .i64 imm, .int .i64 size, .bool g, .int .i64 cond, .string to_]] w fun en w' => en = .returned (.string (⟨#[105, 109, 117, 108, 113]⟩ ++ ⟨#[32]⟩ ++ pS src 8 ++ ⟨#[44, 32]⟩ ++ pS dst 8)) ∧ Below w.heap.size w w' := by
  have z1 := pS_size src 8
  have z2 := pS_size dst 8
  have HR := Lib.hid hR
  have HD := Lib.hid hd
  have HS := Lib.hid hs
  clear hR hd hs
  have HOP := Lib.hid (fun W (h : GsOk W) => name_12 W h)
  have HG := Lib.hid hN
  have HPW := Lib.hid hP
  have HI := Lib.hid hi
  obtain ⟨w0, hW0, HB0, HK0⟩ := ent w (.cells #[.int .i64 12, .int .i64 dst, .int .i64 src, .int .i64 imm, .int .i64 size, .bool g, .int .i64 cond, .string to_] 26)
  clear hN hP hi
  go_enter Tryz.func7, Tryz.ntmps7
  go_wp2_with fail
  rw [← hW0]
  clear hW0
  have c0 : w0.cell? ⟨w.heap.size, 0, none⟩ = some (.int .i64 12) := blk_cell HK0.out rfl
  have lw := blk_lt HK0.out
  refine (HR.out w0).mono ?_
  rintro en w1 ⟨rfl, kb⟩
  obtain ⟨HB1, HK1⟩ := bk HB0 HK0 kb
  clear kb c0 lw
  obtain ⟨c0, c1, c2, c3, c4, c5, c6, c7, lw⟩ := cl HK1
  go_wp2_with fail
  refine wp_region_over (by kernel_rfl) (by kernel_rfl) ?_
  repeat (go_big_quiet_step ((go_at_call 18; exact calls_over (by exact Nat.le_refl _) (rr_i _ (gob HG HB1) _ _ (by first | exact HD.out | exact HS.out) (Or.inl rfl)))))
  refine wpQuiet_nil ?_
  intro w2 kb
  obtain ⟨HB2, HK2⟩ := bk HB1 HK1 kb
  clear kb c0 c1 c2 c3 c4 c5 c6 c7 lw
  obtain ⟨c0, c1, c2, c3, c4, c5, c6, c7, lw⟩ := cl HK2
  go_wp2_with fail
  refine (HOP.out w2 (HG.out.below HB2.out)).mono ?_
  rintro en w3 ⟨rfl, kb⟩
  obtain ⟨HB3, HK3⟩ := bk HB2 HK2 kb
  clear kb c0 c1 c2 c3 c4 c5 c6 c7 lw
  obtain ⟨c0, c1, c2, c3, c4, c5, c6, c7, lw⟩ := cl HK3
  go_wp2_with fail
  go_returns
  exact ⟨rfl, HB3.out⟩
theorem rshow_16 (w : World) (hN : GsOk w) (hP : PowOk w) (dst src imm size cond : Int) (g : Bool) (to_ : ByteArray) (hi : In64 imm) (hd : 0 ≤ dst ∧ dst ≤ 15) (hs : 0 ≤ src ∧ src ≤ 15) (hR : RR 16 dst src imm size g cond to_) :
    Calls Tryz.prog 7 #[.agg #[.int .i64 16, .int .i64 dst, .int .i64 src, .int .i64 imm, .int .i64 size, .bool g, .int .i64 cond, .string to_]] w fun en w' => en = .returned (.string (⟨#[97, 110, 100, 113]⟩ ++ ⟨#[32, 36]⟩ ++ numB imm ++ ⟨#[44, 32]⟩ ++ pS dst 8)) ∧ Below w.heap.size w w' := by
  have z1 := pS_size src 8
  have z2 := pS_size dst 8
  have z4 := numB_size hi
  have HR := Lib.hid hR
  have HD := Lib.hid hd
  have HS := Lib.hid hs
  clear hR hd hs
  have HOP := Lib.hid (fun W (h : GsOk W) => name_16 W h)
  have HG := Lib.hid hN
  have HPW := Lib.hid hP
  have HI := Lib.hid hi
  obtain ⟨w0, hW0, HB0, HK0⟩ := ent w (.cells #[.int .i64 16, .int .i64 dst, .int .i64 src, .int .i64 imm, .int .i64 size, .bool g, .int .i64 cond, .string to_] 26)
  clear hN hP hi
  go_enter Tryz.func7, Tryz.ntmps7
  go_wp2_with fail
  rw [← hW0]
  clear hW0
  have c0 : w0.cell? ⟨w.heap.size, 0, none⟩ = some (.int .i64 16) := blk_cell HK0.out rfl
  have lw := blk_lt HK0.out
  refine (HR.out w0).mono ?_
  rintro en w1 ⟨rfl, kb⟩
  obtain ⟨HB1, HK1⟩ := bk HB0 HK0 kb
  clear kb c0 lw
  obtain ⟨c0, c1, c2, c3, c4, c5, c6, c7, lw⟩ := cl HK1
  go_wp2_with fail
  refine wp_region_over (by kernel_rfl) (by kernel_rfl) ?_
  repeat (go_big_quiet_step ((go_at_call 18; exact calls_over (by exact Nat.le_refl _) (rr_i _ (gob HG HB1) _ _ (by first | exact HD.out | exact HS.out) (Or.inl rfl)))))
  refine wpQuiet_nil ?_
  intro w2 kb
  obtain ⟨HB2, HK2⟩ := bk HB1 HK1 kb
  clear kb c0 c1 c2 c3 c4 c5 c6 c7 lw
  obtain ⟨c0, c1, c2, c3, c4, c5, c6, c7, lw⟩ := cl HK2
  go_wp2_with fail
  refine wp_region_over (by kernel_rfl) (by kernel_rfl) ?_
  repeat (go_big_quiet_step (first | (go_at_call 18; exact calls_over (by exact Nat.le_refl _) (rr_i _ (gob HG HB2) _ _ (by first | exact HD.out | exact HS.out) (Or.inl rfl))) | (go_at_call 19; exact calls_over (by exact Nat.le_refl _) (num_any _ (gob HG HB2) _ HI.out)) | (go_at_call 23; exact calls_over (by exact Nat.le_refl _) (HOP.out _ (gob HG HB2)))))
  refine wpQuiet_nil ?_
  intro w3 kb
  obtain ⟨HB3, HK3⟩ := bk HB2 HK2 kb
  clear kb c0 c1 c2 c3 c4 c5 c6 c7 lw
  obtain ⟨c0, c1, c2, c3, c4, c5, c6, c7, lw⟩ := cl HK3
  go_wp2_with fail
  go_returns
  exact ⟨rfl, HB3.out⟩
theorem rshow_20 (w : World) (hN : GsOk w) (hP : PowOk w) (dst src imm size cond : Int) (g : Bool) (to_ : ByteArray) (hi : In64 imm) (hd : 0 ≤ dst ∧ dst ≤ 15) (hs : 0 ≤ src ∧ src ≤ 15) (hR : RR 20 dst src imm size g cond to_) :
    Calls Tryz.prog 7 #[.agg #[.int .i64 20, .int .i64 dst, .int .i64 src, .int .i64 imm, .int .i64 size, .bool g, .int .i64 cond, .string to_]] w fun en w' => en = .returned (.string (⟨#[99, 109, 112, 113]⟩ ++ ⟨#[32, 36]⟩ ++ numB imm ++ ⟨#[44, 32]⟩ ++ pS dst 8)) ∧ Below w.heap.size w w' := by
  have z1 := pS_size src 8
  have z2 := pS_size dst 8
  have z4 := numB_size hi
  have HR := Lib.hid hR
  have HD := Lib.hid hd
  have HS := Lib.hid hs
  clear hR hd hs
  have HOP := Lib.hid (fun W (h : GsOk W) => name_20 W h)
  have HG := Lib.hid hN
  have HPW := Lib.hid hP
  have HI := Lib.hid hi
  obtain ⟨w0, hW0, HB0, HK0⟩ := ent w (.cells #[.int .i64 20, .int .i64 dst, .int .i64 src, .int .i64 imm, .int .i64 size, .bool g, .int .i64 cond, .string to_] 26)
  clear hN hP hi
  go_enter Tryz.func7, Tryz.ntmps7
  go_wp2_with fail
  rw [← hW0]
  clear hW0
  have c0 : w0.cell? ⟨w.heap.size, 0, none⟩ = some (.int .i64 20) := blk_cell HK0.out rfl
  have lw := blk_lt HK0.out
  refine (HR.out w0).mono ?_
  rintro en w1 ⟨rfl, kb⟩
  obtain ⟨HB1, HK1⟩ := bk HB0 HK0 kb
  clear kb c0 lw
  obtain ⟨c0, c1, c2, c3, c4, c5, c6, c7, lw⟩ := cl HK1
  go_wp2_with fail
  refine wp_region_over (by kernel_rfl) (by kernel_rfl) ?_
  repeat (go_big_quiet_step ((go_at_call 18; exact calls_over (by exact Nat.le_refl _) (rr_i _ (gob HG HB1) _ _ (by first | exact HD.out | exact HS.out) (Or.inl rfl)))))
  refine wpQuiet_nil ?_
  intro w2 kb
  obtain ⟨HB2, HK2⟩ := bk HB1 HK1 kb
  clear kb c0 c1 c2 c3 c4 c5 c6 c7 lw
  obtain ⟨c0, c1, c2, c3, c4, c5, c6, c7, lw⟩ := cl HK2
  go_wp2_with fail
  refine wp_region_over (by kernel_rfl) (by kernel_rfl) ?_
  repeat (go_big_quiet_step (first | (go_at_call 18; exact calls_over (by exact Nat.le_refl _) (rr_i _ (gob HG HB2) _ _ (by first | exact HD.out | exact HS.out) (Or.inl rfl))) | (go_at_call 19; exact calls_over (by exact Nat.le_refl _) (num_any _ (gob HG HB2) _ HI.out)) | (go_at_call 23; exact calls_over (by exact Nat.le_refl _) (HOP.out _ (gob HG HB2)))))
  refine wpQuiet_nil ?_
  intro w3 kb
  obtain ⟨HB3, HK3⟩ := bk HB2 HK2 kb
  clear kb c0 c1 c2 c3 c4 c5 c6 c7 lw
  obtain ⟨c0, c1, c2, c3, c4, c5, c6, c7, lw⟩ := cl HK3
  go_wp2_with fail
  go_returns
  exact ⟨rfl, HB3.out⟩
theorem rshow_24 (w : World) (hN : GsOk w) (hP : PowOk w) (dst src imm size cond : Int) (g : Bool) (to_ : ByteArray) (hi : In64 imm) (hd : 0 ≤ dst ∧ dst ≤ 15) (hs : 0 ≤ src ∧ src ≤ 15) (hR : RR 24 dst src imm size g cond to_) :
    Calls Tryz.prog 7 #[.agg #[.int .i64 24, .int .i64 dst, .int .i64 src, .int .i64 imm, .int .i64 size, .bool g, .int .i64 cond, .string to_]] w fun en w' => en = .returned (.string (⟨#[115, 104, 108, 113]⟩ ++ ⟨#[32, 36]⟩ ++ numB imm ++ ⟨#[44, 32]⟩ ++ pS dst 8)) ∧ Below w.heap.size w w' := by
  have z1 := pS_size src 8
  have z2 := pS_size dst 8
  have z4 := numB_size hi
  have HR := Lib.hid hR
  have HD := Lib.hid hd
  have HS := Lib.hid hs
  clear hR hd hs
  have HOP := Lib.hid (fun W (h : GsOk W) => name_24 W h)
  have HG := Lib.hid hN
  have HPW := Lib.hid hP
  have HI := Lib.hid hi
  obtain ⟨w0, hW0, HB0, HK0⟩ := ent w (.cells #[.int .i64 24, .int .i64 dst, .int .i64 src, .int .i64 imm, .int .i64 size, .bool g, .int .i64 cond, .string to_] 26)
  clear hN hP hi
  go_enter Tryz.func7, Tryz.ntmps7
  go_wp2_with fail
  rw [← hW0]
  clear hW0
  have c0 : w0.cell? ⟨w.heap.size, 0, none⟩ = some (.int .i64 24) := blk_cell HK0.out rfl
  have lw := blk_lt HK0.out
  refine (HR.out w0).mono ?_
  rintro en w1 ⟨rfl, kb⟩
  obtain ⟨HB1, HK1⟩ := bk HB0 HK0 kb
  clear kb c0 lw
  obtain ⟨c0, c1, c2, c3, c4, c5, c6, c7, lw⟩ := cl HK1
  go_wp2_with fail
  refine wp_region_over (by kernel_rfl) (by kernel_rfl) ?_
  repeat (go_big_quiet_step ((go_at_call 18; exact calls_over (by exact Nat.le_refl _) (rr_i _ (gob HG HB1) _ _ (by first | exact HD.out | exact HS.out) (Or.inl rfl)))))
  refine wpQuiet_nil ?_
  intro w2 kb
  obtain ⟨HB2, HK2⟩ := bk HB1 HK1 kb
  clear kb c0 c1 c2 c3 c4 c5 c6 c7 lw
  obtain ⟨c0, c1, c2, c3, c4, c5, c6, c7, lw⟩ := cl HK2
  go_wp2_with fail
  refine wp_region_over (by kernel_rfl) (by kernel_rfl) ?_
  repeat (go_big_quiet_step (first | (go_at_call 18; exact calls_over (by exact Nat.le_refl _) (rr_i _ (gob HG HB2) _ _ (by first | exact HD.out | exact HS.out) (Or.inl rfl))) | (go_at_call 19; exact calls_over (by exact Nat.le_refl _) (num_any _ (gob HG HB2) _ HI.out)) | (go_at_call 23; exact calls_over (by exact Nat.le_refl _) (HOP.out _ (gob HG HB2)))))
  refine wpQuiet_nil ?_
  intro w3 kb
  obtain ⟨HB3, HK3⟩ := bk HB2 HK2 kb
  clear kb c0 c1 c2 c3 c4 c5 c6 c7 lw
  obtain ⟨c0, c1, c2, c3, c4, c5, c6, c7, lw⟩ := cl HK3
  go_wp2_with fail
  go_returns
  exact ⟨rfl, HB3.out⟩
theorem rshow_28 (w : World) (hN : GsOk w) (hP : PowOk w) (dst src imm size cond : Int) (g : Bool) (to_ : ByteArray) (hi : In64 imm) (hd : 0 ≤ dst ∧ dst ≤ 15) (hs : 0 ≤ src ∧ src ≤ 15) (hR : RR 28 dst src imm size g cond to_) :
    Calls Tryz.prog 7 #[.agg #[.int .i64 28, .int .i64 dst, .int .i64 src, .int .i64 imm, .int .i64 size, .bool g, .int .i64 cond, .string to_]] w fun en w' => en = .returned (.string (⟨#[105, 100, 105, 118, 113]⟩ ++ ⟨#[32]⟩ ++ pS dst 8)) ∧ Below w.heap.size w w' := by
  have z1 := pS_size src 8
  have z2 := pS_size dst 8
  have HR := Lib.hid hR
  have HD := Lib.hid hd
  have HS := Lib.hid hs
  clear hR hd hs
  have HOP := Lib.hid (fun W (h : GsOk W) => name_28 W h)
  have HG := Lib.hid hN
  have HPW := Lib.hid hP
  have HI := Lib.hid hi
  obtain ⟨w0, hW0, HB0, HK0⟩ := ent w (.cells #[.int .i64 28, .int .i64 dst, .int .i64 src, .int .i64 imm, .int .i64 size, .bool g, .int .i64 cond, .string to_] 26)
  clear hN hP hi
  go_enter Tryz.func7, Tryz.ntmps7
  go_wp2_with fail
  rw [← hW0]
  clear hW0
  have c0 : w0.cell? ⟨w.heap.size, 0, none⟩ = some (.int .i64 28) := blk_cell HK0.out rfl
  have lw := blk_lt HK0.out
  refine (HR.out w0).mono ?_
  rintro en w1 ⟨rfl, kb⟩
  obtain ⟨HB1, HK1⟩ := bk HB0 HK0 kb
  clear kb c0 lw
  obtain ⟨c0, c1, c2, c3, c4, c5, c6, c7, lw⟩ := cl HK1
  go_wp2_with fail
  refine wp_region_over (by kernel_rfl) (by kernel_rfl) ?_
  repeat (go_big_quiet_step ((go_at_call 18; exact calls_over (by exact Nat.le_refl _) (rr_i _ (gob HG HB1) _ _ (by first | exact HD.out | exact HS.out) (Or.inl rfl)))))
  refine wpQuiet_nil ?_
  intro w2 kb
  obtain ⟨HB2, HK2⟩ := bk HB1 HK1 kb
  clear kb c0 c1 c2 c3 c4 c5 c6 c7 lw
  obtain ⟨c0, c1, c2, c3, c4, c5, c6, c7, lw⟩ := cl HK2
  go_wp2_with fail
  refine (HOP.out w2 (HG.out.below HB2.out)).mono ?_
  rintro en w3 ⟨rfl, kb⟩
  obtain ⟨HB3, HK3⟩ := bk HB2 HK2 kb
  clear kb c0 c1 c2 c3 c4 c5 c6 c7 lw
  obtain ⟨c0, c1, c2, c3, c4, c5, c6, c7, lw⟩ := cl HK3
  go_wp2_with fail
  go_returns
  exact ⟨rfl, HB3.out⟩
theorem rshow_32 (w : World) (hN : GsOk w) (hP : PowOk w) (dst src imm size cond : Int) (g : Bool) (to_ : ByteArray) (hi : In64 imm) (hd : 0 ≤ dst ∧ dst ≤ 15) (hs : 0 ≤ src ∧ src ≤ 15) (hc : 0 ≤ cond ∧ cond ≤ 9) (hR : RR 32 dst src imm size g cond to_) :
    Calls Tryz.prog 7 #[.agg #[.int .i64 32, .int .i64 dst, .int .i64 src, .int .i64 imm, .int .i64 size, .bool g, .int .i64 cond, .string to_]] w fun en w' => en = .returned (.string (⟨#[99, 109, 111, 118]⟩ ++ cB cond ++ ⟨#[113, 32]⟩ ++ pS src 8 ++ ⟨#[44, 32]⟩ ++ pS dst 8)) ∧ Below w.heap.size w w' := by
  have z1 := pS_size src 8
  have z2 := pS_size dst 8
  have zD := cB_size cond
  have HR := Lib.hid hR
  have HD := Lib.hid hd
  have HS := Lib.hid hs
  clear hR hd hs
  have HC := Lib.hid hc
  clear hc
  have HG := Lib.hid hN
  have HPW := Lib.hid hP
  have HI := Lib.hid hi
  obtain ⟨w0, hW0, HB0, HK0⟩ := ent w (.cells #[.int .i64 32, .int .i64 dst, .int .i64 src, .int .i64 imm, .int .i64 size, .bool g, .int .i64 cond, .string to_] 26)
  clear hN hP hi
  go_enter Tryz.func7, Tryz.ntmps7
  go_wp2_with fail
  rw [← hW0]
  clear hW0
  have c0 : w0.cell? ⟨w.heap.size, 0, none⟩ = some (.int .i64 32) := blk_cell HK0.out rfl
  have lw := blk_lt HK0.out
  refine (HR.out w0).mono ?_
  rintro en w1 ⟨rfl, kb⟩
  obtain ⟨HB1, HK1⟩ := bk HB0 HK0 kb
  clear kb c0 lw
  obtain ⟨c0, c1, c2, c3, c4, c5, c6, c7, lw⟩ := cl HK1
  go_wp2_with fail
  refine wp_region_over (by kernel_rfl) (by kernel_rfl) ?_
  repeat (go_big_quiet_step ((go_at_call 18; exact calls_over (by exact Nat.le_refl _) (rr_i _ (gob HG HB1) _ _ (by first | exact HD.out | exact HS.out) (Or.inl rfl)))))
  refine wpQuiet_nil ?_
  intro w2 kb
  obtain ⟨HB2, HK2⟩ := bk HB1 HK1 kb
  clear kb c0 c1 c2 c3 c4 c5 c6 c7 lw
  obtain ⟨c0, c1, c2, c3, c4, c5, c6, c7, lw⟩ := cl HK2
  go_wp2_with fail
  refine (rcond_b w2 (HG.out.below HB2.out) cond HC.out).mono ?_
  rintro en w3 ⟨rfl, kb⟩
  obtain ⟨HB3, HK3⟩ := bk HB2 HK2 kb
  clear kb c0 c1 c2 c3 c4 c5 c6 c7 lw
  obtain ⟨c0, c1, c2, c3, c4, c5, c6, c7, lw⟩ := cl HK3
  go_wp2_with fail
  go_returns
  exact ⟨rfl, HB3.out⟩
theorem rshow_36 (w : World) (hN : GsOk w) (hP : PowOk w) (dst src imm size cond : Int) (g : Bool) (to_ : ByteArray) (hi : In64 imm) (hd : 0 ≤ dst ∧ dst ≤ 15) (hs : 0 ≤ src ∧ src ≤ 15) (hR : RR 36 dst src imm size g cond to_) :
    Calls Tryz.prog 7 #[.agg #[.int .i64 36, .int .i64 dst, .int .i64 src, .int .i64 imm, .int .i64 size, .bool g, .int .i64 cond, .string to_]] w fun en w' => en = .returned (.string (⟨#[99, 97, 108, 108, 32, 42]⟩ ++ pS dst 8)) ∧ Below w.heap.size w w' := by
  have z1 := pS_size src 8
  have z2 := pS_size dst 8
  have HR := Lib.hid hR
  have HD := Lib.hid hd
  have HS := Lib.hid hs
  clear hR hd hs
  have HG := Lib.hid hN
  have HPW := Lib.hid hP
  have HI := Lib.hid hi
  obtain ⟨w0, hW0, HB0, HK0⟩ := ent w (.cells #[.int .i64 36, .int .i64 dst, .int .i64 src, .int .i64 imm, .int .i64 size, .bool g, .int .i64 cond, .string to_] 26)
  clear hN hP hi
  go_enter Tryz.func7, Tryz.ntmps7
  go_wp2_with fail
  rw [← hW0]
  clear hW0
  have c0 : w0.cell? ⟨w.heap.size, 0, none⟩ = some (.int .i64 36) := blk_cell HK0.out rfl
  have lw := blk_lt HK0.out
  refine (HR.out w0).mono ?_
  rintro en w1 ⟨rfl, kb⟩
  obtain ⟨HB1, HK1⟩ := bk HB0 HK0 kb
  clear kb c0 lw
  obtain ⟨c0, c1, c2, c3, c4, c5, c6, c7, lw⟩ := cl HK1
  go_wp2_with fail
  refine wp_region_over (by kernel_rfl) (by kernel_rfl) ?_
  repeat (go_big_quiet_step ((go_at_call 18; exact calls_over (by exact Nat.le_refl _) (rr_i _ (gob HG HB1) _ _ (by first | exact HD.out | exact HS.out) (Or.inl rfl)))))
  refine wpQuiet_nil ?_
  intro w2 kb
  obtain ⟨HB2, HK2⟩ := bk HB1 HK1 kb
  clear kb c0 c1 c2 c3 c4 c5 c6 c7 lw
  obtain ⟨c0, c1, c2, c3, c4, c5, c6, c7, lw⟩ := cl HK2
  go_wp2_with fail
  go_returns
  exact ⟨rfl, HB2.out⟩
theorem rshow_40 (w : World) (hN : GsOk w) (hP : PowOk w) (dst src imm size cond : Int) (g : Bool) (to_ : ByteArray) (hi : In64 imm) (hd : 0 ≤ dst ∧ dst ≤ 15) (hs : 0 ≤ src ∧ src ≤ 15) (hR : RR 40 dst src imm size g cond to_) :
    Calls Tryz.prog 7 #[.agg #[.int .i64 40, .int .i64 dst, .int .i64 src, .int .i64 imm, .int .i64 size, .bool g, .int .i64 cond, .string to_]] w fun en w' => en = .returned (.string (⟨#[111, 117, 116, 113]⟩ ++ ⟨#[32]⟩ ++ pS dst 8)) ∧ Below w.heap.size w w' := by
  have z1 := pS_size src 8
  have z2 := pS_size dst 8
  have HR := Lib.hid hR
  have HD := Lib.hid hd
  have HS := Lib.hid hs
  clear hR hd hs
  have HOP := Lib.hid (fun W (h : GsOk W) => name_40 W h)
  have HG := Lib.hid hN
  have HPW := Lib.hid hP
  have HI := Lib.hid hi
  obtain ⟨w0, hW0, HB0, HK0⟩ := ent w (.cells #[.int .i64 40, .int .i64 dst, .int .i64 src, .int .i64 imm, .int .i64 size, .bool g, .int .i64 cond, .string to_] 26)
  clear hN hP hi
  go_enter Tryz.func7, Tryz.ntmps7
  go_wp2_with fail
  rw [← hW0]
  clear hW0
  have c0 : w0.cell? ⟨w.heap.size, 0, none⟩ = some (.int .i64 40) := blk_cell HK0.out rfl
  have lw := blk_lt HK0.out
  refine (HR.out w0).mono ?_
  rintro en w1 ⟨rfl, kb⟩
  obtain ⟨HB1, HK1⟩ := bk HB0 HK0 kb
  clear kb c0 lw
  obtain ⟨c0, c1, c2, c3, c4, c5, c6, c7, lw⟩ := cl HK1
  go_wp2_with fail
  refine wp_region_over (by kernel_rfl) (by kernel_rfl) ?_
  repeat (go_big_quiet_step ((go_at_call 18; exact calls_over (by exact Nat.le_refl _) (rr_i _ (gob HG HB1) _ _ (by first | exact HD.out | exact HS.out) (Or.inl rfl)))))
  refine wpQuiet_nil ?_
  intro w2 kb
  obtain ⟨HB2, HK2⟩ := bk HB1 HK1 kb
  clear kb c0 c1 c2 c3 c4 c5 c6 c7 lw
  obtain ⟨c0, c1, c2, c3, c4, c5, c6, c7, lw⟩ := cl HK2
  go_wp2_with fail
  refine (HOP.out w2 (HG.out.below HB2.out)).mono ?_
  rintro en w3 ⟨rfl, kb⟩
  obtain ⟨HB3, HK3⟩ := bk HB2 HK2 kb
  clear kb c0 c1 c2 c3 c4 c5 c6 c7 lw
  obtain ⟨c0, c1, c2, c3, c4, c5, c6, c7, lw⟩ := cl HK3
  go_wp2_with fail
  go_returns
  exact ⟨rfl, HB3.out⟩
end Go.Proofs.YtmmpkkpmlaiapaaGreatDoor
namespace Go.Proofs.YtmmpkkpmlaiapaaGreatDoor
open Go.RowKit
set_option maxRecDepth 100000
set_option linter.unusedVariables false
set_option maxHeartbeats 8000000
theorem rshow_2s (w : World) (hN : GsOk w) (hP : PowOk w) (dst src imm size cond : Int) (g : Bool) (to_ : ByteArray) (hi : In64 imm) (hd : 0 ≤ dst ∧ dst ≤ 15) (hs : 0 ≤ src ∧ src ≤ 15) (hsm : -2147483648 ≤ imm ∧ imm ≤ 2147483647) (hR : RR 2 dst src imm size g cond to_) :
    Calls Tryz.prog 7 #[.agg #[.int .i64 2, .int .i64 dst, .int .i64 src, .int .i64 imm, .int .i64 size, .bool g, .int .i64 cond, .string to_]] w fun en w' => en = .returned (.string (⟨#[109, 111, 118, 113, 32, 36]⟩ ++ numB imm ++ ⟨#[44, 32]⟩ ++ pS dst 8)) ∧ Below w.heap.size w w' := by
  have z1 := pS_size src 8
  have z2 := pS_size dst 8
  have z4 := numB_size hi
  have HR := Lib.hid hR
  have HD := Lib.hid hd
  have HS := Lib.hid hs
  clear hR hd hs
  have HG := Lib.hid hN
  have HPW := Lib.hid hP
  have HI := Lib.hid hi
  obtain ⟨w0, hW0, HB0, HK0⟩ := ent w (.cells #[.int .i64 2, .int .i64 dst, .int .i64 src, .int .i64 imm, .int .i64 size, .bool g, .int .i64 cond, .string to_] 26)
  clear hN hP hi
  go_enter Tryz.func7, Tryz.ntmps7
  go_wp2_with fail
  rw [← hW0]
  clear hW0
  have c0 : w0.cell? ⟨w.heap.size, 0, none⟩ = some (.int .i64 2) := blk_cell HK0.out rfl
  have lw := blk_lt HK0.out
  refine (HR.out w0).mono ?_
  rintro en w1 ⟨rfl, kb⟩
  obtain ⟨HB1, HK1⟩ := bk HB0 HK0 kb
  clear kb c0 lw
  obtain ⟨c0, c1, c2, c3, c4, c5, c6, c7, lw⟩ := cl HK1
  go_wp2_with fail
  refine wp_region_over (by kernel_rfl) (by kernel_rfl) ?_
  repeat (go_big_quiet_step ((go_at_call 18; exact calls_over (by exact Nat.le_refl _) (rr_i _ (gob HG HB1) _ _ (by first | exact HD.out | exact HS.out) (Or.inl rfl)))))
  refine wpQuiet_nil ?_
  intro w2 kb
  obtain ⟨HB2, HK2⟩ := bk HB1 HK1 kb
  clear kb c0 c1 c2 c3 c4 c5 c6 c7 lw
  obtain ⟨c0, c1, c2, c3, c4, c5, c6, c7, lw⟩ := cl HK2
  go_wp2_with fail
  refine (num_any w2 (HG.out.below HB2.out) imm HI.out).mono ?_
  rintro en w3 ⟨rfl, kb⟩
  obtain ⟨HB3, HK3⟩ := bk HB2 HK2 kb
  clear kb c0 c1 c2 c3 c4 c5 c6 c7 lw
  obtain ⟨c0, c1, c2, c3, c4, c5, c6, c7, lw⟩ := cl HK3
  go_wp2_with fail
  go_returns
  exact ⟨rfl, HB3.out⟩
theorem rshow_5 (w : World) (hN : GsOk w) (hP : PowOk w) (dst src imm size cond : Int) (g : Bool) (to_ : ByteArray) (hi : In64 imm) (hd : 0 ≤ dst ∧ dst ≤ 15) (hs : 0 ≤ src ∧ src ≤ 15) (hR : RR 5 dst src imm size g cond to_) :
    Calls Tryz.prog 7 #[.agg #[.int .i64 5, .int .i64 dst, .int .i64 src, .int .i64 imm, .int .i64 size, .bool g, .int .i64 cond, .string to_]] w fun en w' => en = .returned (.string (⟨#[108, 101, 97, 113, 32]⟩ ++ atB src imm ++ ⟨#[44, 32]⟩ ++ pS dst 8)) ∧ Below w.heap.size w w' := by
  have z1 := pS_size src 8
  have z2 := pS_size dst 8
  have z5 := atB_size src hi
  have HR := Lib.hid hR
  have HD := Lib.hid hd
  have HS := Lib.hid hs
  clear hR hd hs
  have HG := Lib.hid hN
  have HPW := Lib.hid hP
  have HI := Lib.hid hi
  obtain ⟨w0, hW0, HB0, HK0⟩ := ent w (.cells #[.int .i64 5, .int .i64 dst, .int .i64 src, .int .i64 imm, .int .i64 size, .bool g, .int .i64 cond, .string to_] 26)
  clear hN hP hi
  go_enter Tryz.func7, Tryz.ntmps7
  go_wp2_with fail
  rw [← hW0]
  clear hW0
  have c0 : w0.cell? ⟨w.heap.size, 0, none⟩ = some (.int .i64 5) := blk_cell HK0.out rfl
  have lw := blk_lt HK0.out
  refine (HR.out w0).mono ?_
  rintro en w1 ⟨rfl, kb⟩
  obtain ⟨HB1, HK1⟩ := bk HB0 HK0 kb
  clear kb c0 lw
  obtain ⟨c0, c1, c2, c3, c4, c5, c6, c7, lw⟩ := cl HK1
  go_wp2_with fail
  refine wp_region_over (by kernel_rfl) (by kernel_rfl) ?_
  repeat (go_big_quiet_step ((go_at_call 18; exact calls_over (by exact Nat.le_refl _) (rr_i _ (gob HG HB1) _ _ (by first | exact HD.out | exact HS.out) (Or.inl rfl)))))
  refine wpQuiet_nil ?_
  intro w2 kb
  obtain ⟨HB2, HK2⟩ := bk HB1 HK1 kb
  clear kb c0 c1 c2 c3 c4 c5 c6 c7 lw
  obtain ⟨c0, c1, c2, c3, c4, c5, c6, c7, lw⟩ := cl HK2
  go_wp2_with fail
  refine (rat_i w2 (HG.out.below HB2.out) src HS.out imm HI.out).mono ?_
  rintro en w3 ⟨rfl, kb⟩
  obtain ⟨HB3, HK3⟩ := bk HB2 HK2 kb
  clear kb c0 c1 c2 c3 c4 c5 c6 c7 lw
  obtain ⟨c0, c1, c2, c3, c4, c5, c6, c7, lw⟩ := cl HK3
  go_wp2_with fail
  go_returns
  exact ⟨rfl, HB3.out⟩
theorem rshow_9 (w : World) (hN : GsOk w) (hP : PowOk w) (dst src imm size cond : Int) (g : Bool) (to_ : ByteArray) (hi : In64 imm) (hd : 0 ≤ dst ∧ dst ≤ 15) (hs : 0 ≤ src ∧ src ≤ 15) (hR : RR 9 dst src imm size g cond to_) :
    Calls Tryz.prog 7 #[.agg #[.int .i64 9, .int .i64 dst, .int .i64 src, .int .i64 imm, .int .i64 size, .bool g, .int .i64 cond, .string to_]] w fun en w' => en = .returned (.string (⟨#[97, 110, 100, 113]⟩ ++ ⟨#[32]⟩ ++ pS src 8 ++ ⟨#[44, 32]⟩ ++ pS dst 8)) ∧ Below w.heap.size w w' := by
  have z1 := pS_size src 8
  have z2 := pS_size dst 8
  have HR := Lib.hid hR
  have HD := Lib.hid hd
  have HS := Lib.hid hs
  clear hR hd hs
  have HOP := Lib.hid (fun W (h : GsOk W) => name_9 W h)
  have HG := Lib.hid hN
  have HPW := Lib.hid hP
  have HI := Lib.hid hi
  obtain ⟨w0, hW0, HB0, HK0⟩ := ent w (.cells #[.int .i64 9, .int .i64 dst, .int .i64 src, .int .i64 imm, .int .i64 size, .bool g, .int .i64 cond, .string to_] 26)
  clear hN hP hi
  go_enter Tryz.func7, Tryz.ntmps7
  go_wp2_with fail
  rw [← hW0]
  clear hW0
  have c0 : w0.cell? ⟨w.heap.size, 0, none⟩ = some (.int .i64 9) := blk_cell HK0.out rfl
  have lw := blk_lt HK0.out
  refine (HR.out w0).mono ?_
  rintro en w1 ⟨rfl, kb⟩
  obtain ⟨HB1, HK1⟩ := bk HB0 HK0 kb
  clear kb c0 lw
  obtain ⟨c0, c1, c2, c3, c4, c5, c6, c7, lw⟩ := cl HK1
  go_wp2_with fail
  refine wp_region_over (by kernel_rfl) (by kernel_rfl) ?_
  repeat (go_big_quiet_step ((go_at_call 18; exact calls_over (by exact Nat.le_refl _) (rr_i _ (gob HG HB1) _ _ (by first | exact HD.out | exact HS.out) (Or.inl rfl)))))
  refine wpQuiet_nil ?_
  intro w2 kb
  obtain ⟨HB2, HK2⟩ := bk HB1 HK1 kb
  clear kb c0 c1 c2 c3 c4 c5 c6 c7 lw
  obtain ⟨c0, c1, c2, c3, c4, c5, c6, c7, lw⟩ := cl HK2
  go_wp2_with fail
  refine (HOP.out w2 (HG.out.below HB2.out)).mono ?_
  rintro en w3 ⟨rfl, kb⟩
  obtain ⟨HB3, HK3⟩ := bk HB2 HK2 kb
  clear kb c0 c1 c2 c3 c4 c5 c6 c7 lw
  obtain ⟨c0, c1, c2, c3, c4, c5, c6, c7, lw⟩ := cl HK3
  go_wp2_with fail
  go_returns
  exact ⟨rfl, HB3.out⟩
theorem rshow_13 (w : World) (hN : GsOk w) (hP : PowOk w) (dst src imm size cond : Int) (g : Bool) (to_ : ByteArray) (hi : In64 imm) (hd : 0 ≤ dst ∧ dst ≤ 15) (hs : 0 ≤ src ∧ src ≤ 15) (hR : RR 13 dst src imm size g cond to_) :
    Calls Tryz.prog 7 #[.agg #[.int .i64 13, .int .i64 dst, .int .i64 src, .int .i64 imm, .int .i64 size, .bool g, .int .i64 cond, .string to_]] w fun en w' => en = .returned (.string (⟨#[99, 109, 112, 113]⟩ ++ ⟨#[32]⟩ ++ pS src 8 ++ ⟨#[44, 32]⟩ ++ pS dst 8)) ∧ Below w.heap.size w w' := by
  have z1 := pS_size src 8
  have z2 := pS_size dst 8
  have HR := Lib.hid hR
  have HD := Lib.hid hd
  have HS := Lib.hid hs
  clear hR hd hs
  have HOP := Lib.hid (fun W (h : GsOk W) => name_13 W h)
  have HG := Lib.hid hN
  have HPW := Lib.hid hP
  have HI := Lib.hid hi
  obtain ⟨w0, hW0, HB0, HK0⟩ := ent w (.cells #[.int .i64 13, .int .i64 dst, .int .i64 src, .int .i64 imm, .int .i64 size, .bool g, .int .i64 cond, .string to_] 26)
  clear hN hP hi
  go_enter Tryz.func7, Tryz.ntmps7
  go_wp2_with fail
  rw [← hW0]
  clear hW0
  have c0 : w0.cell? ⟨w.heap.size, 0, none⟩ = some (.int .i64 13) := blk_cell HK0.out rfl
  have lw := blk_lt HK0.out
  refine (HR.out w0).mono ?_
  rintro en w1 ⟨rfl, kb⟩
  obtain ⟨HB1, HK1⟩ := bk HB0 HK0 kb
  clear kb c0 lw
  obtain ⟨c0, c1, c2, c3, c4, c5, c6, c7, lw⟩ := cl HK1
  go_wp2_with fail
  refine wp_region_over (by kernel_rfl) (by kernel_rfl) ?_
  repeat (go_big_quiet_step ((go_at_call 18; exact calls_over (by exact Nat.le_refl _) (rr_i _ (gob HG HB1) _ _ (by first | exact HD.out | exact HS.out) (Or.inl rfl)))))
  refine wpQuiet_nil ?_
  intro w2 kb
  obtain ⟨HB2, HK2⟩ := bk HB1 HK1 kb
  clear kb c0 c1 c2 c3 c4 c5 c6 c7 lw
  obtain ⟨c0, c1, c2, c3, c4, c5, c6, c7, lw⟩ := cl HK2
  go_wp2_with fail
  refine (HOP.out w2 (HG.out.below HB2.out)).mono ?_
  rintro en w3 ⟨rfl, kb⟩
  obtain ⟨HB3, HK3⟩ := bk HB2 HK2 kb
  clear kb c0 c1 c2 c3 c4 c5 c6 c7 lw
  obtain ⟨c0, c1, c2, c3, c4, c5, c6, c7, lw⟩ := cl HK3
  go_wp2_with fail
  go_returns
  exact ⟨rfl, HB3.out⟩
theorem rshow_17 (w : World) (hN : GsOk w) (hP : PowOk w) (dst src imm size cond : Int) (g : Bool) (to_ : ByteArray) (hi : In64 imm) (hd : 0 ≤ dst ∧ dst ≤ 15) (hs : 0 ≤ src ∧ src ≤ 15) (hR : RR 17 dst src imm size g cond to_) :
    Calls Tryz.prog 7 #[.agg #[.int .i64 17, .int .i64 dst, .int .i64 src, .int .i64 imm, .int .i64 size, .bool g, .int .i64 cond, .string to_]] w fun en w' => en = .returned (.string (⟨#[111, 114, 113]⟩ ++ ⟨#[32, 36]⟩ ++ numB imm ++ ⟨#[44, 32]⟩ ++ pS dst 8)) ∧ Below w.heap.size w w' := by
  have z1 := pS_size src 8
  have z2 := pS_size dst 8
  have z4 := numB_size hi
  have HR := Lib.hid hR
  have HD := Lib.hid hd
  have HS := Lib.hid hs
  clear hR hd hs
  have HOP := Lib.hid (fun W (h : GsOk W) => name_17 W h)
  have HG := Lib.hid hN
  have HPW := Lib.hid hP
  have HI := Lib.hid hi
  obtain ⟨w0, hW0, HB0, HK0⟩ := ent w (.cells #[.int .i64 17, .int .i64 dst, .int .i64 src, .int .i64 imm, .int .i64 size, .bool g, .int .i64 cond, .string to_] 26)
  clear hN hP hi
  go_enter Tryz.func7, Tryz.ntmps7
  go_wp2_with fail
  rw [← hW0]
  clear hW0
  have c0 : w0.cell? ⟨w.heap.size, 0, none⟩ = some (.int .i64 17) := blk_cell HK0.out rfl
  have lw := blk_lt HK0.out
  refine (HR.out w0).mono ?_
  rintro en w1 ⟨rfl, kb⟩
  obtain ⟨HB1, HK1⟩ := bk HB0 HK0 kb
  clear kb c0 lw
  obtain ⟨c0, c1, c2, c3, c4, c5, c6, c7, lw⟩ := cl HK1
  go_wp2_with fail
  refine wp_region_over (by kernel_rfl) (by kernel_rfl) ?_
  repeat (go_big_quiet_step ((go_at_call 18; exact calls_over (by exact Nat.le_refl _) (rr_i _ (gob HG HB1) _ _ (by first | exact HD.out | exact HS.out) (Or.inl rfl)))))
  refine wpQuiet_nil ?_
  intro w2 kb
  obtain ⟨HB2, HK2⟩ := bk HB1 HK1 kb
  clear kb c0 c1 c2 c3 c4 c5 c6 c7 lw
  obtain ⟨c0, c1, c2, c3, c4, c5, c6, c7, lw⟩ := cl HK2
  go_wp2_with fail
  refine wp_region_over (by kernel_rfl) (by kernel_rfl) ?_
  repeat (go_big_quiet_step (first | (go_at_call 18; exact calls_over (by exact Nat.le_refl _) (rr_i _ (gob HG HB2) _ _ (by first | exact HD.out | exact HS.out) (Or.inl rfl))) | (go_at_call 19; exact calls_over (by exact Nat.le_refl _) (num_any _ (gob HG HB2) _ HI.out)) | (go_at_call 23; exact calls_over (by exact Nat.le_refl _) (HOP.out _ (gob HG HB2)))))
  refine wpQuiet_nil ?_
  intro w3 kb
  obtain ⟨HB3, HK3⟩ := bk HB2 HK2 kb
  clear kb c0 c1 c2 c3 c4 c5 c6 c7 lw
  obtain ⟨c0, c1, c2, c3, c4, c5, c6, c7, lw⟩ := cl HK3
  go_wp2_with fail
  go_returns
  exact ⟨rfl, HB3.out⟩
theorem rshow_21 (w : World) (hN : GsOk w) (hP : PowOk w) (dst src imm size cond : Int) (g : Bool) (to_ : ByteArray) (hi : In64 imm) (hd : 0 ≤ dst ∧ dst ≤ 15) (hs : 0 ≤ src ∧ src ≤ 15) (hR : RR 21 dst src imm size g cond to_) :
    Calls Tryz.prog 7 #[.agg #[.int .i64 21, .int .i64 dst, .int .i64 src, .int .i64 imm, .int .i64 size, .bool g, .int .i64 cond, .string to_]] w fun en w' => en = .returned (.string (⟨#[115, 104, 108, 113]⟩ ++ ⟨#[32, 37, 99, 108, 44, 32]⟩ ++ pS dst 8)) ∧ Below w.heap.size w w' := by
  have z1 := pS_size src 8
  have z2 := pS_size dst 8
  have HR := Lib.hid hR
  have HD := Lib.hid hd
  have HS := Lib.hid hs
  clear hR hd hs
  have HOP := Lib.hid (fun W (h : GsOk W) => name_21 W h)
  have HG := Lib.hid hN
  have HPW := Lib.hid hP
  have HI := Lib.hid hi
  obtain ⟨w0, hW0, HB0, HK0⟩ := ent w (.cells #[.int .i64 21, .int .i64 dst, .int .i64 src, .int .i64 imm, .int .i64 size, .bool g, .int .i64 cond, .string to_] 26)
  clear hN hP hi
  go_enter Tryz.func7, Tryz.ntmps7
  go_wp2_with fail
  rw [← hW0]
  clear hW0
  have c0 : w0.cell? ⟨w.heap.size, 0, none⟩ = some (.int .i64 21) := blk_cell HK0.out rfl
  have lw := blk_lt HK0.out
  refine (HR.out w0).mono ?_
  rintro en w1 ⟨rfl, kb⟩
  obtain ⟨HB1, HK1⟩ := bk HB0 HK0 kb
  clear kb c0 lw
  obtain ⟨c0, c1, c2, c3, c4, c5, c6, c7, lw⟩ := cl HK1
  go_wp2_with fail
  refine wp_region_over (by kernel_rfl) (by kernel_rfl) ?_
  repeat (go_big_quiet_step ((go_at_call 18; exact calls_over (by exact Nat.le_refl _) (rr_i _ (gob HG HB1) _ _ (by first | exact HD.out | exact HS.out) (Or.inl rfl)))))
  refine wpQuiet_nil ?_
  intro w2 kb
  obtain ⟨HB2, HK2⟩ := bk HB1 HK1 kb
  clear kb c0 c1 c2 c3 c4 c5 c6 c7 lw
  obtain ⟨c0, c1, c2, c3, c4, c5, c6, c7, lw⟩ := cl HK2
  go_wp2_with fail
  refine (HOP.out w2 (HG.out.below HB2.out)).mono ?_
  rintro en w3 ⟨rfl, kb⟩
  obtain ⟨HB3, HK3⟩ := bk HB2 HK2 kb
  clear kb c0 c1 c2 c3 c4 c5 c6 c7 lw
  obtain ⟨c0, c1, c2, c3, c4, c5, c6, c7, lw⟩ := cl HK3
  go_wp2_with fail
  go_returns
  exact ⟨rfl, HB3.out⟩
theorem rshow_25 (w : World) (hN : GsOk w) (hP : PowOk w) (dst src imm size cond : Int) (g : Bool) (to_ : ByteArray) (hi : In64 imm) (hd : 0 ≤ dst ∧ dst ≤ 15) (hs : 0 ≤ src ∧ src ≤ 15) (hR : RR 25 dst src imm size g cond to_) :
    Calls Tryz.prog 7 #[.agg #[.int .i64 25, .int .i64 dst, .int .i64 src, .int .i64 imm, .int .i64 size, .bool g, .int .i64 cond, .string to_]] w fun en w' => en = .returned (.string (⟨#[115, 97, 114, 113]⟩ ++ ⟨#[32, 36]⟩ ++ numB imm ++ ⟨#[44, 32]⟩ ++ pS dst 8)) ∧ Below w.heap.size w w' := by
  have z1 := pS_size src 8
  have z2 := pS_size dst 8
  have z4 := numB_size hi
  have HR := Lib.hid hR
  have HD := Lib.hid hd
  have HS := Lib.hid hs
  clear hR hd hs
  have HOP := Lib.hid (fun W (h : GsOk W) => name_25 W h)
  have HG := Lib.hid hN
  have HPW := Lib.hid hP
  have HI := Lib.hid hi
  obtain ⟨w0, hW0, HB0, HK0⟩ := ent w (.cells #[.int .i64 25, .int .i64 dst, .int .i64 src, .int .i64 imm, .int .i64 size, .bool g, .int .i64 cond, .string to_] 26)
  clear hN hP hi
  go_enter Tryz.func7, Tryz.ntmps7
  go_wp2_with fail
  rw [← hW0]
  clear hW0
  have c0 : w0.cell? ⟨w.heap.size, 0, none⟩ = some (.int .i64 25) := blk_cell HK0.out rfl
  have lw := blk_lt HK0.out
  refine (HR.out w0).mono ?_
  rintro en w1 ⟨rfl, kb⟩
  obtain ⟨HB1, HK1⟩ := bk HB0 HK0 kb
  clear kb c0 lw
  obtain ⟨c0, c1, c2, c3, c4, c5, c6, c7, lw⟩ := cl HK1
  go_wp2_with fail
  refine wp_region_over (by kernel_rfl) (by kernel_rfl) ?_
  repeat (go_big_quiet_step ((go_at_call 18; exact calls_over (by exact Nat.le_refl _) (rr_i _ (gob HG HB1) _ _ (by first | exact HD.out | exact HS.out) (Or.inl rfl)))))
  refine wpQuiet_nil ?_
  intro w2 kb
  obtain ⟨HB2, HK2⟩ := bk HB1 HK1 kb
  clear kb c0 c1 c2 c3 c4 c5 c6 c7 lw
  obtain ⟨c0, c1, c2, c3, c4, c5, c6, c7, lw⟩ := cl HK2
  go_wp2_with fail
  refine wp_region_over (by kernel_rfl) (by kernel_rfl) ?_
  repeat (go_big_quiet_step (first | (go_at_call 18; exact calls_over (by exact Nat.le_refl _) (rr_i _ (gob HG HB2) _ _ (by first | exact HD.out | exact HS.out) (Or.inl rfl))) | (go_at_call 19; exact calls_over (by exact Nat.le_refl _) (num_any _ (gob HG HB2) _ HI.out)) | (go_at_call 23; exact calls_over (by exact Nat.le_refl _) (HOP.out _ (gob HG HB2)))))
  refine wpQuiet_nil ?_
  intro w3 kb
  obtain ⟨HB3, HK3⟩ := bk HB2 HK2 kb
  clear kb c0 c1 c2 c3 c4 c5 c6 c7 lw
  obtain ⟨c0, c1, c2, c3, c4, c5, c6, c7, lw⟩ := cl HK3
  go_wp2_with fail
  go_returns
  exact ⟨rfl, HB3.out⟩
theorem rshow_29 (w : World) (hN : GsOk w) (hP : PowOk w) (dst src imm size cond : Int) (g : Bool) (to_ : ByteArray) (hi : In64 imm) (hd : 0 ≤ dst ∧ dst ≤ 15) (hs : 0 ≤ src ∧ src ≤ 15) (hR : RR 29 dst src imm size g cond to_) :
    Calls Tryz.prog 7 #[.agg #[.int .i64 29, .int .i64 dst, .int .i64 src, .int .i64 imm, .int .i64 size, .bool g, .int .i64 cond, .string to_]] w fun en w' => en = .returned (.string (⟨#[100, 105, 118, 113]⟩ ++ ⟨#[32]⟩ ++ pS dst 8)) ∧ Below w.heap.size w w' := by
  have z1 := pS_size src 8
  have z2 := pS_size dst 8
  have HR := Lib.hid hR
  have HD := Lib.hid hd
  have HS := Lib.hid hs
  clear hR hd hs
  have HOP := Lib.hid (fun W (h : GsOk W) => name_29 W h)
  have HG := Lib.hid hN
  have HPW := Lib.hid hP
  have HI := Lib.hid hi
  obtain ⟨w0, hW0, HB0, HK0⟩ := ent w (.cells #[.int .i64 29, .int .i64 dst, .int .i64 src, .int .i64 imm, .int .i64 size, .bool g, .int .i64 cond, .string to_] 26)
  clear hN hP hi
  go_enter Tryz.func7, Tryz.ntmps7
  go_wp2_with fail
  rw [← hW0]
  clear hW0
  have c0 : w0.cell? ⟨w.heap.size, 0, none⟩ = some (.int .i64 29) := blk_cell HK0.out rfl
  have lw := blk_lt HK0.out
  refine (HR.out w0).mono ?_
  rintro en w1 ⟨rfl, kb⟩
  obtain ⟨HB1, HK1⟩ := bk HB0 HK0 kb
  clear kb c0 lw
  obtain ⟨c0, c1, c2, c3, c4, c5, c6, c7, lw⟩ := cl HK1
  go_wp2_with fail
  refine wp_region_over (by kernel_rfl) (by kernel_rfl) ?_
  repeat (go_big_quiet_step ((go_at_call 18; exact calls_over (by exact Nat.le_refl _) (rr_i _ (gob HG HB1) _ _ (by first | exact HD.out | exact HS.out) (Or.inl rfl)))))
  refine wpQuiet_nil ?_
  intro w2 kb
  obtain ⟨HB2, HK2⟩ := bk HB1 HK1 kb
  clear kb c0 c1 c2 c3 c4 c5 c6 c7 lw
  obtain ⟨c0, c1, c2, c3, c4, c5, c6, c7, lw⟩ := cl HK2
  go_wp2_with fail
  refine (HOP.out w2 (HG.out.below HB2.out)).mono ?_
  rintro en w3 ⟨rfl, kb⟩
  obtain ⟨HB3, HK3⟩ := bk HB2 HK2 kb
  clear kb c0 c1 c2 c3 c4 c5 c6 c7 lw
  obtain ⟨c0, c1, c2, c3, c4, c5, c6, c7, lw⟩ := cl HK3
  go_wp2_with fail
  go_returns
  exact ⟨rfl, HB3.out⟩
theorem rshow_33 (w : World) (hN : GsOk w) (hP : PowOk w) (dst src imm size cond : Int) (g : Bool) (to_ : ByteArray) (hi : In64 imm) (hd : 0 ≤ dst ∧ dst ≤ 15) (hs : 0 ≤ src ∧ src ≤ 15) (ht : to_.size ≤ 300) (hm : namedB to_ = true) (hR : RR 33 dst src imm size g cond to_) :
    Calls Tryz.prog 7 #[.agg #[.int .i64 33, .int .i64 dst, .int .i64 src, .int .i64 imm, .int .i64 size, .bool g, .int .i64 cond, .string to_]] w fun en w' => en = .returned (.string (⟨#[106, 109, 112, 32]⟩ ++ to_)) ∧ Below w.heap.size w w' := by
  have z1 := pS_size src 8
  have z2 := pS_size dst 8
  have HR := Lib.hid hR
  have HD := Lib.hid hd
  have HS := Lib.hid hs
  clear hR hd hs
  have HT := Lib.hid (fun W => rnamed_any W to_ (by unfold maxLen; omega))
  rw [hm] at HT
  have HG := Lib.hid hN
  have HPW := Lib.hid hP
  have HI := Lib.hid hi
  obtain ⟨w0, hW0, HB0, HK0⟩ := ent w (.cells #[.int .i64 33, .int .i64 dst, .int .i64 src, .int .i64 imm, .int .i64 size, .bool g, .int .i64 cond, .string to_] 26)
  clear hN hP hi
  go_enter Tryz.func7, Tryz.ntmps7
  go_wp2_with fail
  rw [← hW0]
  clear hW0
  have c0 : w0.cell? ⟨w.heap.size, 0, none⟩ = some (.int .i64 33) := blk_cell HK0.out rfl
  have c7 : w0.cell? ⟨w.heap.size, 7, none⟩ = some (.string to_) := blk_cell HK0.out rfl
  have lw := blk_lt HK0.out
  refine (HR.out w0).mono ?_
  rintro en w1 ⟨rfl, kb⟩
  obtain ⟨HB1, HK1⟩ := bk HB0 HK0 kb
  clear kb c0 c7 lw
  have c0 : w1.cell? ⟨w.heap.size, 0, none⟩ = some (.int .i64 33) := blk_cell HK1.out rfl
  have c7 : w1.cell? ⟨w.heap.size, 7, none⟩ = some (.string to_) := blk_cell HK1.out rfl
  have lw := blk_lt HK1.out
  go_wp2_with fail
  refine (HT.out w1).mono ?_
  rintro en w2 ⟨rfl, kb⟩
  obtain ⟨HB2, HK2⟩ := bk HB1 HK1 kb
  clear kb c0 c7 lw
  obtain ⟨c0, c1, c2, c3, c4, c5, c6, c7, lw⟩ := cl HK2
  go_wp2_with fail
  refine wp_region_over (by kernel_rfl) (by kernel_rfl) ?_
  repeat (go_big_quiet_step ((go_at_call 18; exact calls_over (by exact Nat.le_refl _) (rr_i _ (gob HG HB2) _ _ (by first | exact HD.out | exact HS.out) (Or.inl rfl)))))
  refine wpQuiet_nil ?_
  intro w3 kb
  obtain ⟨HB3, HK3⟩ := bk HB2 HK2 kb
  clear kb c0 c1 c2 c3 c4 c5 c6 c7 lw
  obtain ⟨c0, c1, c2, c3, c4, c5, c6, c7, lw⟩ := cl HK3
  go_wp2_with fail
  go_returns
  exact ⟨rfl, HB3.out⟩
theorem rshow_37 (w : World) (hN : GsOk w) (hP : PowOk w) (dst src imm size cond : Int) (g : Bool) (to_ : ByteArray) (hi : In64 imm) (hd : 0 ≤ dst ∧ dst ≤ 15) (hs : 0 ≤ src ∧ src ≤ 15) (hR : RR 37 dst src imm size g cond to_) :
    Calls Tryz.prog 7 #[.agg #[.int .i64 37, .int .i64 dst, .int .i64 src, .int .i64 imm, .int .i64 size, .bool g, .int .i64 cond, .string to_]] w fun en w' => en = .returned (.string (⟨#[106, 109, 112, 32, 42]⟩ ++ pS dst 8)) ∧ Below w.heap.size w w' := by
  have z1 := pS_size src 8
  have z2 := pS_size dst 8
  have HR := Lib.hid hR
  have HD := Lib.hid hd
  have HS := Lib.hid hs
  clear hR hd hs
  have HG := Lib.hid hN
  have HPW := Lib.hid hP
  have HI := Lib.hid hi
  obtain ⟨w0, hW0, HB0, HK0⟩ := ent w (.cells #[.int .i64 37, .int .i64 dst, .int .i64 src, .int .i64 imm, .int .i64 size, .bool g, .int .i64 cond, .string to_] 26)
  clear hN hP hi
  go_enter Tryz.func7, Tryz.ntmps7
  go_wp2_with fail
  rw [← hW0]
  clear hW0
  have c0 : w0.cell? ⟨w.heap.size, 0, none⟩ = some (.int .i64 37) := blk_cell HK0.out rfl
  have lw := blk_lt HK0.out
  refine (HR.out w0).mono ?_
  rintro en w1 ⟨rfl, kb⟩
  obtain ⟨HB1, HK1⟩ := bk HB0 HK0 kb
  clear kb c0 lw
  obtain ⟨c0, c1, c2, c3, c4, c5, c6, c7, lw⟩ := cl HK1
  go_wp2_with fail
  refine wp_region_over (by kernel_rfl) (by kernel_rfl) ?_
  repeat (go_big_quiet_step ((go_at_call 18; exact calls_over (by exact Nat.le_refl _) (rr_i _ (gob HG HB1) _ _ (by first | exact HD.out | exact HS.out) (Or.inl rfl)))))
  refine wpQuiet_nil ?_
  intro w2 kb
  obtain ⟨HB2, HK2⟩ := bk HB1 HK1 kb
  clear kb c0 c1 c2 c3 c4 c5 c6 c7 lw
  obtain ⟨c0, c1, c2, c3, c4, c5, c6, c7, lw⟩ := cl HK2
  go_wp2_with fail
  go_returns
  exact ⟨rfl, HB2.out⟩
theorem rshow_41 (w : World) (hN : GsOk w) (hP : PowOk w) (dst src imm size cond : Int) (g : Bool) (to_ : ByteArray) (hi : In64 imm) (hd : 0 ≤ dst ∧ dst ≤ 15) (hs : 0 ≤ src ∧ src ≤ 15) (hR : RR 41 dst src imm size g cond to_) :
    Calls Tryz.prog 7 #[.agg #[.int .i64 41, .int .i64 dst, .int .i64 src, .int .i64 imm, .int .i64 size, .bool g, .int .i64 cond, .string to_]] w fun en w' => en = .returned (.string (⟨#[104, 108, 116]⟩)) ∧ Below w.heap.size w w' := by
  have z1 := pS_size src 8
  have z2 := pS_size dst 8
  have HR := Lib.hid hR
  have HD := Lib.hid hd
  have HS := Lib.hid hs
  clear hR hd hs
  have HOP := Lib.hid (fun W (h : GsOk W) => name_41 W h)
  have HG := Lib.hid hN
  have HPW := Lib.hid hP
  have HI := Lib.hid hi
  obtain ⟨w0, hW0, HB0, HK0⟩ := ent w (.cells #[.int .i64 41, .int .i64 dst, .int .i64 src, .int .i64 imm, .int .i64 size, .bool g, .int .i64 cond, .string to_] 26)
  clear hN hP hi
  go_enter Tryz.func7, Tryz.ntmps7
  go_wp2_with fail
  rw [← hW0]
  clear hW0
  have c0 : w0.cell? ⟨w.heap.size, 0, none⟩ = some (.int .i64 41) := blk_cell HK0.out rfl
  have lw := blk_lt HK0.out
  refine (HR.out w0).mono ?_
  rintro en w1 ⟨rfl, kb⟩
  obtain ⟨HB1, HK1⟩ := bk HB0 HK0 kb
  clear kb c0 lw
  obtain ⟨c0, c1, c2, c3, c4, c5, c6, c7, lw⟩ := cl HK1
  go_wp2_with fail
  refine wp_region_over (by kernel_rfl) (by kernel_rfl) ?_
  repeat (go_big_quiet_step ((go_at_call 18; exact calls_over (by exact Nat.le_refl _) (rr_i _ (gob HG HB1) _ _ (by first | exact HD.out | exact HS.out) (Or.inl rfl)))))
  refine wpQuiet_nil ?_
  intro w2 kb
  obtain ⟨HB2, HK2⟩ := bk HB1 HK1 kb
  clear kb c0 c1 c2 c3 c4 c5 c6 c7 lw
  obtain ⟨c0, c1, c2, c3, c4, c5, c6, c7, lw⟩ := cl HK2
  go_wp2_with fail
  refine (HOP.out w2 (HG.out.below HB2.out)).mono ?_
  rintro en w3 ⟨rfl, kb⟩
  obtain ⟨HB3, HK3⟩ := bk HB2 HK2 kb
  clear kb c0 c1 c2 c3 c4 c5 c6 c7 lw
  obtain ⟨c0, c1, c2, c3, c4, c5, c6, c7, lw⟩ := cl HK3
  go_wp2_with fail
  go_returns
  exact ⟨rfl, HB3.out⟩
end Go.Proofs.YtmmpkkpmlaiapaaGreatDoor
