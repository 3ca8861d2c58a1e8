/- The walks of RtlReckons and RtlParts. No condition. -/
import Derived.Test.YticgaknkonolnaaRtlLaws
namespace Go.Proofs.Yticgaknkonolnaa
open Go.RowKit
set_option linter.unusedVariables false
set_option maxHeartbeats 4000000
def cmpR (op : Int) : Nat := if op = 16 then 0 else if op = 17 then 1 else if op = 18 ∨ op = 20 then 2 else 4
def sgC (op : Int) : Bool := !(op == 20 || op == 21)
theorem cmpR_lt (op : Int) : cmpR op < 7 := by
  unfold cmpR
  by_cases h1 : op = 16; · rw [if_pos h1]; omega
  rw [if_neg h1]
  by_cases h1 : op = 17; · rw [if_pos h1]; omega
  rw [if_neg h1]
  by_cases h1 : op = 18 ∨ op = 20; · rw [if_pos h1]; omega
  rw [if_neg h1]; omega
theorem hol_is (op a b : Int) (hop : 16 ≤ op ∧ op ≤ 21) : cmpS (cmpR op) (sgC op) a b = if rhol op a b then 1 else 0 := by
  have hc : op = 16 ∨ op = 17 ∨ op = 18 ∨ op = 19 ∨ op = 20 ∨ op = 21 := by omega
  have hu : ∀ n, IntKind.u64.wrap n = uS n := fun n => by rw [IntKind.wrap_u64]; rfl
  rcases hc with rfl | rfl | rfl | rfl | rfl | rfl
  · show (if a = b then (1 : Int) else 0) = if (a == b) = true then 1 else 0; simp
  · show (if a = b then (0 : Int) else 1) = if (a != b) = true then 1 else 0; by_cases h : a = b <;> simp [h]
  · show (if keyS true a < keyS true b then (1 : Int) else 0) = if decide (a < b) = true then 1 else 0; simp [keyS]
  · show (if keyS true a ≤ keyS true b then (1 : Int) else 0) = if decide (a ≤ b) = true then 1 else 0; simp [keyS]
  · show (if keyS false a < keyS false b then (1 : Int) else 0) = if decide (IntKind.u64.wrap a < IntKind.u64.wrap b) = true then 1 else 0; simp [keyS, hu]
  · show (if keyS false a ≤ keyS false b then (1 : Int) else 0) = if decide (IntKind.u64.wrap a ≤ IntKind.u64.wrap b) = true then 1 else 0; simp [keyS, hu]
theorem rholds_ref (op a b : Int) (w : World) (hop : 16 ≤ op ∧ op ≤ 21) (ha : In64 a) (hb : In64 b) :
    Calls Try.prog 12 #[.int .i64 op, .int .i64 a, .int .i64 b] w fun e w' => e = .returned (.bool (rhol op a b)) ∧ Below w.heap.size w w' := by
  have CB := Lib.hid (fun w => rcmp_any (cmpR op) (cmpR_lt op) 8 a b (sgC op) w ha hb)
  rw [hol_is op a b hop] at CB
  have LW := Lib.hid (fun w => long_walk (sgC op) w)
  unfold longV at LW
  generalize rhol op a b = t at *
  have hc : op = 16 ∨ op = 17 ∨ op = 18 ∨ op = 19 ∨ op = 20 ∨ op = 21 := by omega
  clear ha hb hop
  rcases hc with rfl | rfl | rfl | rfl | rfl | rfl <;> cases t
  all_goals
    go_enter Try.func12, Try.ntmps12
    go_wp2_with fail
    refine (LW.out _).mono ?_
    rintro e w1 ⟨rfl, kb1⟩
    go_wp2_with fail
    refine (CB.out _).mono ?_
    rintro e w2 ⟨rfl, hb2⟩
    have kb2 := kb1.bt hb2
    clear hb2
    go_wp2_with fail
    go_returns
    exact ⟨rfl, kb2⟩
theorem reckon_ref (op a b : Int) (w : World) (hop : 3 ≤ op ∧ op ≤ 21) (ha : In64 a) (hb : In64 b) :
    Calls Try.prog 10 #[.int .i64 op, .int .i64 a, .int .i64 b] w fun e w' => e = .returned (.tuple #[.int .i64 (reck op a b).1, .bool (reck op a b).2]) ∧ Below w.heap.size w w' := by
  by_cases h15 : op ≤ 15
  · exact reckon_ref1 op a b w ⟨hop.1, h15⟩ ha hb
  · have Q := Lib.hid (fun w => rholds_ref op a b w (by omega) ha hb)
    have hr : reck op a b = (if rhol op a b then 1 else 0, true) := by
      unfold reck
      iterate 10 rw [if_neg (by omega)]
    rw [hr]
    clear hr
    generalize rhol op a b = t at *
    have hc : op = 16 ∨ op = 17 ∨ op = 18 ∨ op = 19 ∨ op = 20 ∨ op = 21 := by omega
    clear hop h15 ha hb
    rcases hc with rfl | rfl | rfl | rfl | rfl | rfl <;> cases t
    all_goals
      go_enter Try.func10, Try.ntmps10
      go_wp2_with fail
      refine (Q.out _).mono ?_
      rintro e w1 ⟨rfl, kb1⟩
      go_wp2_with fail
      go_returns
      exact ⟨rfl, kb1⟩
theorem reckons_walk (op a b : Int) (w : World) (ho : In64 op) (ha : In64 a) (hb : In64 b) :
    Calls Try.prog 3 #[.int .i64 op, .int .i64 a, .int .i64 b] w fun e w' => e = .returned (.bool true) ∧ Below w.heap.size w w' := by
  obtain ⟨k, hk, hkl⟩ : ∃ k : Nat, (op.tmod 19 + 19) % 19 = (k : Int) ∧ k < 19 := ⟨((op.tmod 19 + 19) % 19).toNat, by omega, by omega⟩
  have hlo : -18 ≤ op.tmod 19 ∧ op.tmod 19 ≤ 18 := by rw [tmod_eq_if]; split <;> omega
  have R1 := Lib.hid (fun w => reckon_walk (3 + k) a b w (by omega) ha hb)
  have R2 := Lib.hid (fun w => reckon_ref (3 + k) a b w (by omega) ha hb)
  have H1 := Lib.hid (fun (j : Int) hj w => rholds_walk j a b w hj)
  have H2 := Lib.hid (fun (j : Int) hj w => rholds_ref j a b w hj ha hb)
  generalize reck (3 + k) a b = r at *
  obtain ⟨r, ok⟩ := r
  obtain ⟨o1, o2⟩ := ho
  clear ha hb
  go_enter Try.func3, Try.ntmps3
  go_wp2_with fail
  refine (fit_walk _).mono ?_
  rintro e w1 ⟨rfl, kb1⟩
  go_wp2_with fail
  refine (R1.out _).mono ?_
  rintro e w2 ⟨rfl, rfl⟩
  go_wp2_with fail
  refine (R2.out _).mono ?_
  rintro e w3 ⟨rfl, hb3⟩
  have kb3 := kb1.bt hb3
  clear hb3
  go_wp2_with fail
  try rw [hk]
  clear hk R1 R2
  go_loopw [11] (fun i wr => ∃ j : Nat, j ≤ 6 ∧ i = .int .i64 (16 + j) ∧ Below w.heap.size w wr) (fun i _ => 22 - (intOf i).toNat)
  case atStart => exact ⟨0, by omega, rfl, kb3⟩
  case round =>
    obtain ⟨j, hj, rfl, kb⟩ := hrel
    by_cases hlt : j < 6
    · have V1 := Lib.hid (fun w => H1.out (16 + j) (by omega) w)
      have V2 := Lib.hid (fun w => H2.out (16 + j) (by omega) w)
      generalize rhol (16 + j) a b = t at *
      go_wp2_with fail
      refine (V1.out _).mono ?_
      rintro e w2 ⟨rfl, rfl⟩
      go_wp2_with fail
      refine (V2.out _).mono ?_
      rintro e w4 ⟨rfl, hb4⟩
      have kb4 := kb.bt hb4
      clear hb4
      cases t
      all_goals
        go_wp2_with fail
        go_roundw
        case rel => exact ⟨j + 1, by omega, by simp; omega, kb4⟩
        case measure => simp [intOf]; omega
    · obtain rfl : j = 6 := by omega
      go_wp2_with fail
      go_returns
      exact ⟨rfl, kb⟩
end Go.Proofs.Yticgaknkonolnaa
