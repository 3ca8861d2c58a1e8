/- objs.Labels: a type's labels. No condition. -/
import Derived.Test.YtpcfibnnboenhaaOlV
namespace Go.Proofs.Ytpcfibnnboenhaa
open Go.RowKit
set_option linter.unusedVariables false
set_option maxHeartbeats 4000000
set_option maxRecDepth 100000
theorem make_lab (w : World) (n : Nat) (hn : n ≤ 1000000) : ∃ w2, (Instr.makeSlice 49 (.int .i64 (n : Nat)) (.int .i64 (n : Nat))).run Try.prog w = .ok (.slice (some ⟨w.heap.size, 0, none⟩) n n) w2 ∧ LabB w2 w.heap.size (List.replicate n false) ∧ Below w.heap.size w w2 := by
  obtain ⟨i0, z0, hi, hz0, hz1, hz2, hz3⟩ := info_partsC (C := 1) (B := 1) (show (Try.prog.info? 4).map (fun i => (i.zero.map (·.cells.size), i.size, i.bytes)) = some (some 1, 1, 1) by kernel_rfl)
  have hzb : z0 = .bool false := by
    have : (Try.prog.info? 4).map (fun i => i.zero) = some (some (.bool false)) := by kernel_rfl
    rw [hi] at this
    simp only [Option.map_some, Option.some.injEq] at this
    rw [hz0] at this
    exact Option.some.inj this
  subst hzb
  obtain ⟨w2, hr, hown, hg⟩ := run_make_full (P := Try.prog) w w.heap.size 49 4 i0 (.bool false) 1 Try.underlying49 hi hz0 hz2 .i64 .i64 n (by rw [hz3]; omega) (by unfold maxLen; omega) (Nat.le_refl _)
  rw [show (Value.bool false).cells = #[.bool false] from rfl, Nat.mul_one, toList_madeCells_one] at hown
  refine ⟨w2, hr, ?_, ?_⟩
  · rcases hown.2 with ⟨e, _⟩ | ⟨g, cap, cur, e, h1, h2, h3, h4, h5, h6⟩
    · cases e
    · simp only [Value.slice.injEq, Option.some.injEq, Addr.mk.injEq, and_true] at e
      obtain ⟨rfl, e2⟩ := e
      unfold LabB
      rw [h2]
      have hc : cur.toList = List.replicate n (.bool false) := by
        rw [← h6, List.take_of_length_le (by rw [Array.length_toList, h5]; omega)]
      have : cur = (bvs (List.replicate n false)).toArray := by
        rw [← Array.toList_inj, hc]
        simp [bvs]
      rw [this]
  · exact ⟨hg.os, hg.tape, hg.output, hg.size, fun k hk => hg.block k hk (by simp)⟩
theorem labels_any (w : World) (p : Nat) (tab : List RecP) (t : Ty) (ds : List Value) (hT : TabC w p tab) (hW : WfT tab) (hO : OkT t) (hC : TyC w (fun _ => True) t ds) (d : Nat) (hU : Under d t) (n : Nat) (hn : sizeT tab t = n) (hn2 : n ≤ 1000000) :
    Calls Try.prog 9 #[.pointer (some ⟨p, 0, none⟩), .agg ds.toArray] w fun e w' => ∃ g, e = .returned (.slice (some ⟨g, 0, none⟩) n n) ∧ LabB w' g (markL tab d t 0 (List.replicate n false)) ∧ w.heap.size ≤ g ∧ Below w.heap.size w w' := by
  have HT := Lib.hid hT
  have HC := Lib.hid hC
  have HW := Lib.hid hW
  obtain ⟨k', s', g', c', p', n', num', A', q1', q2', rt', rfl⟩ := hC.ten
  obtain ⟨wa, hwa⟩ : ∃ wa, wa = w.alloc (.cells (tyCells k' s' g' c' p' n' num' (.slice A' q1' q2') rt').toArray 39) := ⟨_, rfl⟩
  have hba : Below w.heap.size w wa := by rw [hwa]; exact below_alloc _ (Below.refl _ _)
  have HBA := Lib.hid hba
  have HK := Lib.hid (show wa.heap[w.heap.size]? = some (.cells (tyCells k' s' g' c' p' n' num' (.slice A' q1' q2') rt').toArray 39 (0, 0)) by rw [hwa]; exact blk_new _ _)
  have HSZ := Lib.hid (fun W hb => size_any p tab HW.out.huge t W _ hO (HT.out.later (w' := W) hb) (HC.out.later hb))
  rw [hn] at HSZ
  unfold tyCells at HSZ HK hwa
  unfold tyCells
  have HU := Lib.hid hU
  have HN := Lib.hid hn
  clear hT hC hba hU hn hW
  go_enter Try.func9, Try.ntmps9
  go_wp2_with fail
  rw [← hwa]
  clear hwa
  refine (HSZ.out _ HBA.out).mono ?_
  rintro e w2 ⟨rfl, kb⟩
  have HB2 := Lib.hid (HBA.out.bt kb)
  have HK2 := Lib.hid (blk_below HK.out kb)
  clear kb
  obtain ⟨w3, hr, hL, kb3⟩ := make_lab w2 n hn2
  have HL3 := Lib.hid hL
  have HB3 := Lib.hid (HB2.out.bt kb3)
  have HK3 := Lib.hid (blk_below HK2.out kb3)
  have HZ2 := Lib.hid HB2.out.size
  clear hL kb3
  have c0 := blk_cell (i := 0) HK3.out rfl
  have c1 := blk_cell (i := 1) HK3.out rfl
  have c2 := blk_cell (i := 2) HK3.out rfl
  have c3 := blk_cell (i := 3) HK3.out rfl
  have c4 := blk_cell (i := 4) HK3.out rfl
  have c5 := blk_cell (i := 5) HK3.out rfl
  have c6 := blk_cell (i := 6) HK3.out rfl
  have c7 := blk_cell (i := 7) HK3.out rfl
  have c8 := blk_cell (i := 8) HK3.out rfl
  have cl := blk_lt HK3.out
  go_wp2_with fail
  have hlen : (List.replicate n false).length = n := List.length_replicate
  have := mark_any w p w2.heap.size tab HT.out HW.out HZ2.out d t w3 _ 0 0 n n (List.replicate n false) hO HU.out (HC.out.later HB3.out) HB3.out HL3.out (by rw [hlen]; omega) (fun _ => rfl) (by rw [HN.out]; omega) (Nat.le_refl _) (by omega) (by rw [hlen]; omega)
  unfold tyCells at this
  refine this.mono ?_
  rintro e w4 ⟨rfl, hL4, hG4⟩
  have HL4 := Lib.hid hL4
  have HB4 := Lib.hid (below_grown HB3.out hG4 HZ2.out)
  clear hL4 hG4 this
  go_wp2_with fail
  go_returns
  exact ⟨w2.heap.size, rfl, HL4.out, HZ2.out, HB4.out⟩
end Go.Proofs.Ytpcfibnnboenhaa
