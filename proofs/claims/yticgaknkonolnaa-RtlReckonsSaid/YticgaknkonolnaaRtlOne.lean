/- Walks: the example's program may be. No condition. -/
import Derived.Test.YticgaknkonolnaaRtlFit
namespace Go.Proofs.Yticgaknkonolnaa
open Go.RowKit
set_option linter.unusedVariables false
set_option maxHeartbeats 2000000
set_option maxRecDepth 100000 in
theorem right_one (w : World) (pb fb bb : Nat) (hp : w.heap[pb]? = some (.cells #[.slice (some ⟨fb, 0, none⟩) 1 1, .slice none 0 0, .int .i64 0, .int .i64 0] 29 (0, 0)))
    (hf : w.heap[fb]? = some (.cells (oneF bb) 44 (0, 0))) (hb : w.heap[bb]? = some (.cells oneB 51 (0, 0))) :
    Calls Try.prog 14 #[.pointer (some ⟨pb, 0, none⟩)] w fun e w' => e = .returned (.int .i64 0) ∧ Below w.heap.size w w' := by
  have l1 := blk_lt hp
  have l2 := blk_lt hf
  have l3 := blk_lt hb
  have p0 : w.cell? ⟨pb, 0, none⟩ = some (.slice (some ⟨fb, 0, none⟩) 1 1) := blk_cell hp rfl
  have p1 : w.cell? ⟨pb, 1, none⟩ = some (.slice none 0 0) := blk_cell hp rfl
  have p2 : w.cell? ⟨pb, 2, none⟩ = some (.int .i64 0) := blk_cell hp rfl
  have p3 : w.cell? ⟨pb, 3, none⟩ = some (.int .i64 0) := blk_cell hp rfl
  have f1 : w.cell? ⟨fb, 1, none⟩ = some (.int .i64 0) := blk_cell hf rfl
  have f2 : w.cell? ⟨fb, 2, none⟩ = some (.slice none 0 0) := blk_cell hf rfl
  have f3 : w.cell? ⟨fb, 3, none⟩ = some (.int .i64 0) := blk_cell hf rfl
  have f5 : w.cell? ⟨fb, 5, none⟩ = some (.slice (some ⟨bb, 0, none⟩) 1 1) := blk_cell hf rfl
  have b0 : w.cell? ⟨bb, 0, none⟩ = some (.slice none 0 0) := blk_cell hb rfl
  have b1 : w.cell? ⟨bb, 1, none⟩ = some (.int .i64 3) := blk_cell hb rfl
  have b2 : w.cell? ⟨bb, 2, none⟩ = some (.int .i64 0) := blk_cell hb rfl
  have b3 : w.cell? ⟨bb, 3, none⟩ = some (.int .i64 (-1)) := blk_cell hb rfl
  have b4 : w.cell? ⟨bb, 4, none⟩ = some (.int .i64 7) := blk_cell hb rfl
  have b5 : w.cell? ⟨bb, 5, none⟩ = some (.int .i64 0) := blk_cell hb rfl
  have b6 : w.cell? ⟨bb, 6, none⟩ = some (.int .i64 0) := blk_cell hb rfl
  have b7 : w.cell? ⟨bb, 7, none⟩ = some (.int .i64 0) := blk_cell hb rfl
  have b8 : w.cell? ⟨bb, 8, none⟩ = some (.int .i64 0) := blk_cell hb rfl
  clear hp hf hb
  go_enter Try.func14, Try.ntmps14
  go_wp2_with fail
  refine wp_region_over (by kernel_rfl) (by kernel_rfl) ?_
  repeat (go_big_quiet_step (fail))
  refine wpQuiet_nil ?_
  intro w2 kb2
  obtain ⟨hc2, hf2⟩ := bcell kb2
  have hz2 := kb2.size
  have m1 : pb < w2.heap.size := by omega
  have m2 : fb < w2.heap.size := by omega
  have m3 : bb < w2.heap.size := by omega
  go_wp2_with fail
  go_rounds 1
  refine wp_loop_rounds 2 ?_
  rw [rounds_succ]
  go_wp2_with fail
  refine wp_region_over (by kernel_rfl) (by kernel_rfl) ?_
  repeat (go_big_quiet_step (fail))
  refine wpQuiet_nil ?_
  intro w3 hb3
  have kb3 := kb2.bt hb3
  clear hc2 hf2 hz2 hb3 kb2
  obtain ⟨hc3, hf3⟩ := bcell kb3
  have hz3 := kb3.size
  clear m1 m2 m3
  have m1 : pb < w3.heap.size := by omega
  have m2 : fb < w3.heap.size := by omega
  have m3 : bb < w3.heap.size := by omega
  go_wp2_with fail
  refine wp_loop_rounds 2 ?_
  rw [rounds_succ]
  go_wp2_with (refine wpList_store_new (by rfl) 51 _ _ (by rfl) (by rfl) (by rfl) (by rfl) (by kernel_rfl) (by rfl) ?_)
  refine wp_loop_rounds 1 ?_
  rw [rounds_succ]
  go_wp2_with fail
  have E1 := Lib.hid (fun W (h : W.cell? ⟨fb, 3, none⟩ = some (.int .i64 0)) (hl : fb < W.heap.size) => ends_one W fb 0 h (by decide) hl)
  unfold oneT at E1
  refine (E1.out _ ?_ ?_).mono ?_
  · rw [World.cell?_alloc_past _ _ _ m2, hc3 _ _ l2]; exact f3
  · simp; omega
  rintro e w4 ⟨rfl, hb4⟩
  have kb4 := kb3.bt (below_new hb4)
  clear hb4
  go_wp2_with fail
  rw [rounds_succ]
  go_wp2_with fail
  rw [rounds_succ]
  go_wp2_with fail
  go_returns
  exact ⟨rfl, kb4⟩
end Go.Proofs.Yticgaknkonolnaa
