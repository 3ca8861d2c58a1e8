/- ObjsMoves: Add. No condition. -/
import Derived.Test.YteoemkkfplbiaaaOm
import Derived.Test.YteoemkkfplbiaaaStruct
import Derived.IntWalk
namespace Go.Proofs.Yteoemkkfplbiaaa
open Go.RowKit
set_option linter.unusedVariables false
set_option maxHeartbeats 1000000
theorem below_drew {B : Nat} {w x : World} (h : Below B w x) : Below B w x.drew := ⟨h.os, h.tape, h.output, h.size, h.block⟩
/-! ### Add -/
/-- three numbers in a block -/
theorem three {w : World} {b : Nat} {x y z : Value} {T : TypeId} (h : w.heap[b]? = some (.cells #[x, y, z] T (0, 0))) :
    w.cell? ⟨b, 0, none⟩ = some x ∧ w.cell? ⟨b, 1, none⟩ = some y ∧ w.cell? ⟨b, 2, none⟩ = some z ∧ w.frozen? ⟨b, 0, none⟩ = false ∧ w.frozen? ⟨b, 1, none⟩ = false ∧ w.frozen? ⟨b, 2, none⟩ = false :=
  ⟨blk_cell h rfl, blk_cell h rfl, blk_cell h rfl, blk_free h, blk_free h, blk_free h⟩
/-- where an int of 64 bits may move to -/
def addOk (n off k : Int) : Bool := decide (-off ≤ k) && decide (k ≤ n - off)
theorem at_in (w : World) (bm n off : Nat) (h : OneObj w bm n) (ho : off ≤ n) (hn : n < 100) : Calls Try.prog 27 #[.pointer (some ⟨bm, 0, none⟩), .agg #[.int .i64 1, .int .i64 0, .int .i64 (off : Nat)], .int .i64 0] w fun e w' => ∃ b2 d2, e = .returned (.tuple #[.pointer (some ⟨b2, d2, none⟩), .int .i64 (off : Nat), .bool true]) ∧ (∃ A cap, w.cell? ⟨b2, d2, none⟩ = some (.slice A n cap)) ∧ Below w.heap.size w w' := by
  obtain ⟨b1, d1, c, b2, d2, A, cap, c1, c0, c2, c3, c4⟩ := h
  have l1 := World.block_lt_of_cell? w _ c1
  have l2 := World.block_lt_of_cell? w _ c2
  have l3 := World.block_lt_of_cell? w _ c3
  have l4 := World.block_lt_of_cell? w _ c4
  have hw1 : IntKind.i64.wrap ((n : Int) - 0) = n := by rw [Int.sub_zero]; exact IntWalk.i64_in _ (by omega)
  have hw2 : IntKind.i64.wrap (n : Int) = n := IntWalk.i64_in _ (by omega)
  have hd : decide ((n : Int) < off) = false := by simp; omega
  go_enter Try.func27, Try.ntmps27
  go_wp2
  go_quiet (fail)
  go_wp2
  go_quiet (fail)
  go_wp2
  go_quiet (fail)
  go_wp2
  go_quiet (fail)
  go_wp2
  go_returns
  refine ⟨b2, d2, rfl, ⟨A, cap, c3⟩, ?_⟩
  repeat (first | exact below_alloc _ (Below.refl _ _) | refine below_drewN ?_ _ | refine below_drew ?_)
theorem at_no (w : World) (bm : Nat) (k : Int) (hk : k = 0 ∨ k = 2) : Calls Try.prog 27 #[.pointer (some ⟨bm, 0, none⟩), .agg #[.int .i64 k, .int .i64 0, .int .i64 0], .int .i64 0] w fun e w' => e = .returned (.tuple #[.pointer none, .int .i64 0, .bool false]) ∧ Below w.heap.size w w' := by
  rcases hk with rfl | rfl
  all_goals
    go_enter Try.func27, Try.ntmps27
    go_wp2
    go_quiet (fail)
    go_wp2
    go_returns
    exact ⟨rfl, below_drewN (below_alloc _ (Below.refl _ _)) _⟩
def AddNo (w : World) (e : Ending) (w' : World) : Prop := e = .returned (.tuple #[.agg #[.int .i64 0, .int .i64 0, .int .i64 0], .bool false]) ∧ Below w.heap.size w w'
theorem add_no (w : World) (bm : Nat) (k : Int) (hk : k = 0 ∨ k = 2) : Calls Try.prog 15 #[.pointer (some ⟨bm, 0, none⟩), .agg #[.int .i64 k, .int .i64 0, .int .i64 0], .int .i64 0] w (AddNo w) := by
  have HA := Lib.hid (fun w => at_no w bm k hk)
  clear hk
  go_enter Try.func15, Try.ntmps15
  go_wp2_with fail
  refine (HA.out _).mono ?_
  rintro e w1 ⟨rfl, hb1⟩
  have kb := Lib.hid (below_new (below_new hb1))
  have k2 : w1.heap[w.heap.size + 1]? = some (.cells #[.int .i64 0, .int .i64 0, .int .i64 0] 33 (0, 0)) := by
    have := blk_below (blk_new (w.alloc (.cells #[.int .i64 k, .int .i64 0, .int .i64 0] 33)) (.cells #[.int .i64 0, .int .i64 0, .int .i64 0] 33)) hb1
    simpa using this
  have hz := blk_lt k2
  have K2 := Lib.hid k2
  clear k2 hb1
  go_wp2_with (refine wpList_store_blk (by rfl) 33 _ _ (by rfl) (w.heap.size + 1) (by rfl) (by rfl) K2.out (by rfl) (by kernel_rfl) (by kernel_rfl) ?_; intro x2 k3 hb3 _ _)
  have hb4 := Lib.hid (hb3 _ _ (by simp) kb.out)
  obtain ⟨c0, c1, c2, _, _, _⟩ := three k3
  clear hb3 k3
  go_wp2_with fail
  exact bodyPost_ret (v := .tuple #[.agg #[.int .i64 0, .int .i64 0, .int .i64 0], .bool false]) (by simp [results, Try.results15, go_sem, c0, c1, c2]) rfl ⟨rfl, hb4.out⟩
def AddTo (w : World) (n off k : Int) (e : Ending) (w' : World) : Prop :=
  e = .returned (.tuple #[if addOk n off k then .agg #[.int .i64 1, .int .i64 0, .int .i64 (off + k)] else .agg #[.int .i64 0, .int .i64 0, .int .i64 0], .bool (addOk n off k)]) ∧ Below w.heap.size w w'

theorem in64_neg {k : Int} (h : In64 k) : IntKind.i64.wrap (0 - k) = if k = -9223372036854775808 then k else -k := by
  obtain ⟨h1, h2⟩ := h
  split
  · rename_i e; subst e; rfl
  · rw [Int.zero_sub]; exact IntWalk.i64_in _ (by omega)
theorem add_in (w : World) (bm n off : Nat) (k : Int) (h : OneObj w bm n) (ho : off ≤ n) (hn : n < 100) (hk : In64 k) :
    Calls Try.prog 15 #[.pointer (some ⟨bm, 0, none⟩), .agg #[.int .i64 1, .int .i64 0, .int .i64 (off : Nat)], .int .i64 k] w (AddTo w n off k) := by
  have hob : ∀ w' : World, Below w.heap.size w w' → OneObj w' bm n := by
    intro w' hb
    obtain ⟨b1, d1, c, b2, d2, A, cap, c1, c0, c2, c3, c4⟩ := h
    exact ⟨b1, d1, c, b2, d2, A, cap, by rw [hb.cell (World.block_lt_of_cell? w _ c1)]; exact c1, c0, by rw [hb.cell (World.block_lt_of_cell? w _ c2)]; exact c2, by rw [hb.cell (World.block_lt_of_cell? w _ c3)]; exact c3, by rw [hb.cell (World.block_lt_of_cell? w _ c4)]; exact c4⟩
  have HA := Lib.hid (fun w' hb => at_in w' bm n off (hob w' hb) ho hn)
  obtain ⟨hk1, hk2⟩ := hk
  clear hob h
  unfold AddTo
  by_cases hok : -(off : Int) ≤ k ∧ k ≤ (n : Int) - off
  · have e : addOk n off k = true := by unfold addOk; simp [hok]
    rw [e]
    simp only [if_true]
    obtain ⟨g1, g2⟩ := hok
    go_enter Try.func15, Try.ntmps15
    go_wp2_with fail
    refine (HA.out _ (below_alloc _ (below_alloc _ (Below.refl _ _)))).mono ?_
    rintro e w1 ⟨b2, d2, rfl, ⟨A, cap, hc0⟩, hb1⟩
    have kb := Lib.hid (below_new (below_new hb1))
    have k1 : w1.heap[w.heap.size]? = some (.cells #[.int .i64 1, .int .i64 0, .int .i64 (off : Nat)] 33 (0, 0)) :=
      blk_below (blk_alloc (blk_new w _) _) hb1
    have k2 : w1.heap[w.heap.size + 1]? = some (.cells #[.int .i64 0, .int .i64 0, .int .i64 0] 33 (0, 0)) := by
      have := blk_below (blk_new (w.alloc (.cells #[.int .i64 1, .int .i64 0, .int .i64 (off : Nat)] 33)) (.cells #[.int .i64 0, .int .i64 0, .int .i64 0] 33)) hb1
      simpa using this
    have hlt := World.block_lt_of_cell? _ _ hc0
    have hc : w1.cell? ⟨b2, d2, none⟩ = some (.slice A n cap) := by rw [hb1.cell hlt]; exact hc0
    obtain ⟨c0, c1, c2, f0, f1, f2⟩ := three k1
    have hz := blk_lt k2
    have K2 := Lib.hid k2
    clear k2 k1 hb1 hc0 hlt
    go_wp2_with (refine wpList_store_blk (by rfl) 33 _ _ (by rfl) (w.heap.size + 1) (by rfl) (by rfl) (blk_set K2.out (by simp) _) (by rfl) (by kernel_rfl) (by kernel_rfl) ?_; intro x2 k3 hb3 _ _)
    all_goals
      have hb4 := Lib.hid (hb3 _ _ (by simp) (kb.out.setCell (by simp) _))
      obtain ⟨c0, c1, c2, _, _, _⟩ := three k3
      clear hb3 k3
      go_wp2_with fail
      exact bodyPost_ret (v := .tuple #[.agg #[.int .i64 1, .int .i64 0, .int .i64 (off + k)], .bool true]) (by simp [results, Try.results15, go_sem, c0, c1, c2]) rfl ⟨rfl, hb4.out⟩
  · have e : addOk n off k = false := by unfold addOk; simp; omega
    rw [e]
    simp only [Bool.false_eq_true, if_false]
    have hor : k < -(off : Int) ∨ (-(off : Int) ≤ k ∧ (n : Int) - off < k) := by omega
    clear hok
    rcases hor with g1 | ⟨g1, g2⟩
    · go_enter Try.func15, Try.ntmps15
      go_wp2_with fail
      refine (HA.out _ (below_alloc _ (below_alloc _ (Below.refl _ _)))).mono ?_
      rintro e w1 ⟨b2, d2, rfl, ⟨A, cap, hc0⟩, hb1⟩
      have kb := Lib.hid (below_new (below_new hb1))
      have k1 : w1.heap[w.heap.size]? = some (.cells #[.int .i64 1, .int .i64 0, .int .i64 (off : Nat)] 33 (0, 0)) :=
        blk_below (blk_alloc (blk_new w _) _) hb1
      have k2 : w1.heap[w.heap.size + 1]? = some (.cells #[.int .i64 0, .int .i64 0, .int .i64 0] 33 (0, 0)) := by
        have := blk_below (blk_new (w.alloc (.cells #[.int .i64 1, .int .i64 0, .int .i64 (off : Nat)] 33)) (.cells #[.int .i64 0, .int .i64 0, .int .i64 0] 33)) hb1
        simpa using this
      have hlt := World.block_lt_of_cell? _ _ hc0
      have hc : w1.cell? ⟨b2, d2, none⟩ = some (.slice A n cap) := by rw [hb1.cell hlt]; exact hc0
      obtain ⟨c0, c1, c2, f0, f1, f2⟩ := three k1
      have hz := blk_lt k2
      have K2 := Lib.hid k2
      clear k2 k1 hb1 hc0 hlt
      go_wp2_with (refine wpList_store_blk (by rfl) 33 _ _ (by rfl) (w.heap.size + 1) (by rfl) (by rfl) K2.out (by rfl) (by kernel_rfl) (by kernel_rfl) ?_; intro x2 k3 hb3 _ _)
      all_goals
        have hb4 := Lib.hid (hb3 _ _ (by simp) kb.out)
        obtain ⟨c0, c1, c2, _, _, _⟩ := three k3
        clear hb3 k3
        go_wp2_with fail
        exact bodyPost_ret (v := .tuple #[.agg #[.int .i64 0, .int .i64 0, .int .i64 0], .bool false]) (by simp [results, Try.results15, go_sem, c0, c1, c2]) rfl ⟨rfl, hb4.out⟩
    · go_enter Try.func15, Try.ntmps15
      go_wp2_with fail
      refine (HA.out _ (below_alloc _ (below_alloc _ (Below.refl _ _)))).mono ?_
      rintro e w1 ⟨b2, d2, rfl, ⟨A, cap, hc0⟩, hb1⟩
      have kb := Lib.hid (below_new (below_new hb1))
      have k1 : w1.heap[w.heap.size]? = some (.cells #[.int .i64 1, .int .i64 0, .int .i64 (off : Nat)] 33 (0, 0)) :=
        blk_below (blk_alloc (blk_new w _) _) hb1
      have k2 : w1.heap[w.heap.size + 1]? = some (.cells #[.int .i64 0, .int .i64 0, .int .i64 0] 33 (0, 0)) := by
        have := blk_below (blk_new (w.alloc (.cells #[.int .i64 1, .int .i64 0, .int .i64 (off : Nat)] 33)) (.cells #[.int .i64 0, .int .i64 0, .int .i64 0] 33)) hb1
        simpa using this
      have hlt := World.block_lt_of_cell? _ _ hc0
      have hc : w1.cell? ⟨b2, d2, none⟩ = some (.slice A n cap) := by rw [hb1.cell hlt]; exact hc0
      obtain ⟨c0, c1, c2, f0, f1, f2⟩ := three k1
      have hz := blk_lt k2
      have K2 := Lib.hid k2
      clear k2 k1 hb1 hc0 hlt
      go_wp2_with (refine wpList_store_blk (by rfl) 33 _ _ (by rfl) (w.heap.size + 1) (by rfl) (by rfl) K2.out (by rfl) (by kernel_rfl) (by kernel_rfl) ?_; intro x2 k3 hb3 _ _)
      all_goals
        have hb4 := Lib.hid (hb3 _ _ (by simp) kb.out)
        obtain ⟨c0, c1, c2, _, _, _⟩ := three k3
        clear hb3 k3
        go_wp2_with fail
        exact bodyPost_ret (v := .tuple #[.agg #[.int .i64 0, .int .i64 0, .int .i64 0], .bool false]) (by simp [results, Try.results15, go_sem, c0, c1, c2]) rfl ⟨rfl, hb4.out⟩
end Go.Proofs.Yteoemkkfplbiaaa
